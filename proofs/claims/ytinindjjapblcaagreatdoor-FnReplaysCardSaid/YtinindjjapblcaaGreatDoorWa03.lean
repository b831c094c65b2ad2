/-
  The helpers of the laws on Pipe: copying, comparing, measuring, marking.
-/
import Derived.Test.YtinindjjapblcaaGreatDoorWa02
import Derived.Test.YtinindjjapblcaaGreatDoorWa00
namespace Go.Proofs.YtinindjjapblcaaGreatDoor
open Go.RowKit
structure Pipe where
 src:Int
 dst:Int
 k:Int
 volume:Int
 limit:Int
def Pipe.cells (x:Pipe):List Value:=[.int .i64 x.src,.int .i64 x.dst,.int .i64 x.k,.int .i64 x.volume,.int .i64 x.limit]
theorem pipe_len (x:Pipe):x.cells.length=5:=rfl
theorem pipe_info:(Tryz.prog.info? 149).map (fun i=>(i.zero,i.size,i.bytes))=some (some (.agg #[.int .i64 0,.int .i64 0,.int .i64 0,.int .i64 0,.int .i64 0]),5,40):=by kernel_rfl
theorem c_toPipe (x:Pipe) (w:World):
  Calls Tryz.prog 120 #[.agg #[.int .i64 x.src,.int .i64 x.dst,.int .i64 x.k,.int .i64 x.volume,.int .i64 x.limit]] w (Ret (.agg #[.int .i64 x.src,.int .i64 x.dst,.int .i64 x.k,.int .i64 x.volume,.int .i64 x.limit]) w):=by
 go_enter Tryz.func120,Tryz.ntmps120
 go_wp2
 exact bodyPost_ret (v:= .agg #[.int .i64 x.src,.int .i64 x.dst,.int .i64 x.k,.int .i64 x.volume,.int .i64 x.limit]) (by simp [results,Tryz.results120,go_sem]) rfl ⟨rfl,(((Ext.refl _).and_alloc _).and_alloc _).and_alloc _⟩
theorem c_eqPipe (x:Pipe) (w:World):
  Calls Tryz.prog 124 #[.agg #[.int .i64 x.src,.int .i64 x.dst,.int .i64 x.k,.int .i64 x.volume,.int .i64 x.limit],.agg #[.int .i64 x.src,.int .i64 x.dst,.int .i64 x.k,.int .i64 x.volume,.int .i64 x.limit]] w (Ret (.bool true) w):=by
 go_enter Tryz.func124,Tryz.ntmps124
 go_wp2
 go_ret
 exact Ret.bool rfl (((Ext.refl _).and_alloc _).and_alloc _)
theorem c_szPipeS (A:Option Addr) (n c:Nat) (left:Int) (w:World) (hn:n≤c) (hc:c≤9223372036854775807) (h0:0≤left) (h1:left≤1048576):
  Calls Tryz.prog 66 #[.slice A n c,.int .i64 left] w fun e w'=>e= .returned (.int .i64 (if left<n then -1 else left-n))∧w=w':=by
 go_enter Tryz.func66,Tryz.ntmps66
 go_wp2
 all_goals
  go_ret
  simp <;> omega
set_option maxHeartbeats 1000000 in
theorem c_toPipeS (A:Option Addr) (n c:Nat) (ts:List Pipe) (w:World) (hs:SliceOf w 5 Pipe.cells A n c ts) (hn:n≤1048576):
  Calls Tryz.prog 68 #[.slice A n c] w (NewRow 149 Pipe.cells ts w):=by
 have hmk:=fun W=>run_make_flat (P:=Tryz.prog) 25 149 _ _ 5 40 Tryz.underlying25 pipe_info (f:=Pipe.cells) ⟨0,0,0,0,0⟩ rfl rfl rfl (by omega) n (by omega) (by omega) W
 have hR0:=Row.new w 149 ((List.replicate n (⟨0,0,0,0,0⟩:Pipe)).flatMap Pipe.cells)
 go_enter Tryz.func68,Tryz.ntmps68
 go_wp2_with fail
 go_loopw [4] (fun i wr=>∃(k:Nat) (L:List Pipe),k≤n∧i= .int .i64 k∧L.length=n∧RowOf wr w.heap.size 149 Pipe.cells L∧Hid (∀j,j<k→L[j]? =ts[j]?)∧Ext w wr) (fun i _=>n-(intOf i).toNat)
 case atStart=>exact ⟨0,_,Nat.zero_le _,rfl,List.length_replicate,hR0,hide (fun j hj=>absurd hj (by omega)),Ext.alloc _ _⟩
 case round=>
  obtain ⟨k,L,hk,rfl,hL,hrow,HK,hx⟩:=hrel
  clear hR0 hmk
  have hgs:=hrow.lt
  by_cases hlt:k<n
  ·obtain ⟨b,off,x,rfl,hb,hxk,hc⟩:=(hs.ext hx).get hlt
   have hc0:=hc 0 _ rfl
   have hc1:=hc 1 _ rfl
   have hc2:=hc 2 _ rfl
   have hc3:=hc 3 _ rfl
   have hc4:=hc 4 _ rfl
   clear hc
   simp only [Nat.add_zero] at hc0
   have Hx:=hide hxk
   have HL:=hide hL
   clear hxk hL
   go_wp2_with (go_at_call 120; refine (c_toPipe x _).mono ?_; rintro e w1 ⟨rfl,hx1⟩; have hrow1:=hrow.ext hx1; obtain ⟨v0,hv0⟩:=hrow1.there pipe_len (i:=k) (by rw [HL.out]; exact hlt) (j:=0) (by omega); have hf0:=hrow1.frozen (k*5); obtain ⟨v1,hv1⟩:=hrow1.there pipe_len (i:=k) (by rw [HL.out]; exact hlt) (j:=1) (by omega); have hf1:=hrow1.frozen (k*5+1); obtain ⟨v2,hv2⟩:=hrow1.there pipe_len (i:=k) (by rw [HL.out]; exact hlt) (j:=2) (by omega); have hf2:=hrow1.frozen (k*5+2); obtain ⟨v3,hv3⟩:=hrow1.there pipe_len (i:=k) (by rw [HL.out]; exact hlt) (j:=3) (by omega); have hf3:=hrow1.frozen (k*5+3); obtain ⟨v4,hv4⟩:=hrow1.there pipe_len (i:=k) (by rw [HL.out]; exact hlt) (j:=4) (by omega); have hf4:=hrow1.frozen (k*5+4); rw [Nat.add_zero] at hv0)
   go_roundw
   case rel=>
    refine ⟨k+1,L.set k x,by omega,by go_num,by simpa using HL.out,hrow1.put pipe_len (by rw [HL.out]; exact hlt) x,hide ?_,(hx.trans hx1).put (Nat.le_refl _) (k*5) x.cells⟩
    intro j hj
    rw [List.getElem?_set]
    by_cases e:k=j
    ·subst e; rw [if_pos rfl,if_pos (by rw [HL.out]; exact hlt),Hx.out]
    ·rw [if_neg e]; exact HK.out j (by omega)
   case measure=>simp [intOf]; omega
  ·go_wp2
   go_ret
   have hLts:L=ts:=by
    apply List.ext_getElem?
    intro j
    by_cases hj:j<n
    ·exact HK.out j (by omega)
    ·rw [List.getElem?_eq_none (by omega),List.getElem?_eq_none (by have:=hs.len; omega)]
   subst hLts
   refine ⟨w.heap.size,?_,Nat.le_refl _,hrow,hx⟩
   rw [hL]; rfl
set_option maxHeartbeats 1000000 in
theorem c_eqPipeS (A A':Option Addr) (n c n' c':Nat) (ts:List Pipe) (w:World) (hs:SliceOf w 5 Pipe.cells A n c ts) (hs':SliceOf w 5 Pipe.cells A' n' c' ts):
  Calls Tryz.prog 73 #[.slice A n c,.slice A' n' c'] w (Ret (.bool true) w):=by
 have hl:=hs.len
 obtain rfl:n=n':=by rw [hs.len,hs'.len]
 have hm:=hs.max
 have hcp:=hs.cap
 clear hl
 go_enter Tryz.func73,Tryz.ntmps73
 go_wp2_with fail
 go_loopw [5] (fun i wr=>∃(k:Nat),k≤n∧i= .int .i64 k∧Ext w wr) (fun i _=>n-(intOf i).toNat)
 case atStart=>exact ⟨0,Nat.zero_le _,rfl,Ext.refl _⟩
 case round=>
  obtain ⟨k,hk,rfl,hx⟩:=hrel
  by_cases hlt:k<n
  ·obtain ⟨b,off,x,rfl,hb,hxk,hc⟩:=(hs.ext hx).get hlt
   obtain ⟨b',off',x',rfl,hb',hxk',hc'⟩:=(hs'.ext hx).get hlt
   obtain rfl:x=x':=by rw [hxk] at hxk'; injection hxk'
   have hc0:=hc 0 _ rfl
   have hc1:=hc 1 _ rfl
   have hc2:=hc 2 _ rfl
   have hc3:=hc 3 _ rfl
   have hc4:=hc 4 _ rfl
   have hd0:=hc' 0 _ rfl
   have hd1:=hc' 1 _ rfl
   have hd2:=hc' 2 _ rfl
   have hd3:=hc' 3 _ rfl
   have hd4:=hc' 4 _ rfl
   clear hc hc' hxk hxk'
   simp only [Nat.add_zero] at hc0 hd0
   go_wp2_with fail
   refine wp_region_later (by kernel_rfl) (by kernel_rfl) ?_
   repeat (go_big_quiet_step ((go_at_call 124; exact quiet_later (c_eqPipe x _))))
   refine wpQuiet_nil ?_
   intro w1 hx1
   go_wp2
   go_roundw
   case rel=>exact ⟨k+1,by omega,by go_num,hx.trans hx1⟩
   case measure=>simp [intOf]; omega
  ·go_wp2
   go_ret
   exact Ret.bool rfl hx
def markPipe (a:Int) (n:Nat):List Pipe:=(List.range n).map fun (i:Nat)=>⟨a+5*(i:Int),a+5*(i:Int)+1,a+5*(i:Int)+2,a+5*(i:Int)+3,a+5*(i:Int)+4⟩
theorem markPipe_at (a:Int) (n i:Nat) (h:i<n):(markPipe a n)[i]? =some ⟨a+5*(i:Int),a+5*(i:Int)+1,a+5*(i:Int)+2,a+5*(i:Int)+3,a+5*(i:Int)+4⟩:=by
 unfold markPipe; rw [List.getElem?_map,List.getElem?_range h]; rfl
def MarkedPipe (g:Nat) (A:Option Addr) (n:Nat) (a:Int) (w:World) (e:Ending) (w':World):Prop:=
 e= .returned (.int .i64 (a+5*n))∧OwnS w' g 149 Pipe.cells A n (markPipe a n)∧Only g w w'
set_option maxHeartbeats 1000000 in
theorem c_markPipeS (g:Nat) (A:Option Addr) (n c:Nat) (ts:List Pipe) (a:Int) (w:World) (hown0:OwnS w g 149 Pipe.cells A n ts) (hn:n≤1000000000) (hcap:n≤c) (hmax:c≤9223372036854775807) (ha0:0≤a) (ha1:a≤1000000000000):
  Calls Tryz.prog 76 #[.slice A n c,.int .i64 a] w (MarkedPipe g A n a w):=by
 go_enter Tryz.func76,Tryz.ntmps76
 go_wp2_with fail
 go_loopw [1,5] (fun q i wr=>∃(k:Nat) (K:Int) (L:List Pipe),k≤n∧q= .int .i64 K∧i= .int .i64 k∧a+5*(k:Int)≤K∧K≤a+5*(k:Int)∧OwnS wr g 149 Pipe.cells A n L∧Hid (∀j,j<k→L[j]? =(markPipe a n)[j]?)∧Only g w wr) (fun _ i _=>n-(intOf i).toNat)
 case atStart=>exact ⟨0,a,ts,Nat.zero_le _,rfl,rfl,by omega,by omega,hown0,hide (fun j hj=>absurd hj (by omega)),Only.refl _ _⟩
 case round=>
  obtain ⟨k,K,L,hk,rfl,rfl,hK0,hK1,hown,HK,hx⟩:=hrel
  by_cases hlt:k<n
  ·have hn0:0<n:=by omega
   obtain ⟨rfl,_⟩:=hown.2 hn0
   obtain ⟨v0,hv0⟩:=hown.there pipe_len (i:=k) hlt (j:=0) (by omega)
   have hf0:=hown.frozen hn0 (k*5)
   obtain ⟨v1,hv1⟩:=hown.there pipe_len (i:=k) hlt (j:=1) (by omega)
   have hf1:=hown.frozen hn0 (k*5+1)
   obtain ⟨v2,hv2⟩:=hown.there pipe_len (i:=k) hlt (j:=2) (by omega)
   have hf2:=hown.frozen hn0 (k*5+2)
   obtain ⟨v3,hv3⟩:=hown.there pipe_len (i:=k) hlt (j:=3) (by omega)
   have hf3:=hown.frozen hn0 (k*5+3)
   obtain ⟨v4,hv4⟩:=hown.there pipe_len (i:=k) hlt (j:=4) (by omega)
   have hf4:=hown.frozen hn0 (k*5+4)
   rw [Nat.add_zero] at hv0
   have HL:=hide hown.1
   go_wp2_with fail
   go_roundw
   case rel=>
    refine ⟨k+1,_,L.set k ⟨K,K+1,K+1+1,K+1+1+1,K+1+1+1+1⟩,by omega,rfl,by go_num,by omega,by omega,hown.put pipe_len hlt ⟨K,K+1,K+1+1,K+1+1+1,K+1+1+1+1⟩,hide ?_,hx.put (k*5) (Pipe.cells ⟨K,K+1,K+1+1,K+1+1+1,K+1+1+1+1⟩)⟩
    intro j hj
    rw [List.getElem?_set]
    by_cases e:k=j
    ·subst e
     rw [if_pos rfl,if_pos (by rw [←HL.out]; exact hlt),markPipe_at _ _ _ hlt]
     congr 2 <;> omega
    ·rw [if_neg e]; exact HK.out j (by omega)
   case measure=>simp [intOf]; omega
  ·go_wp2_with fail
   go_ret
   have hLts:L=markPipe a n:=by
    apply List.ext_getElem?
    intro j
    by_cases hj:j<n
    ·exact HK.out j (by omega)
    ·rw [List.getElem?_eq_none (by have:=hown.1; omega),List.getElem?_eq_none (by simp [markPipe]; omega)]
   subst hLts
   refine ⟨?_,hown,hx⟩
   obtain rfl:k=n:=by omega
   have:K=a+5*(k:Int):=by omega
   rw [←this]; rfl
set_option maxHeartbeats 1000000 in
theorem c_heldPipeS (A:Option Addr) (n c:Nat) (a:Int) (w:World) (hs:SliceOf w 5 Pipe.cells A n c (markPipe a n)) (hn:n≤1000000000) (ha0:0≤a) (ha1:a≤1000000000000):
  Calls Tryz.prog 128 #[.slice A n c,.int .i64 a] w fun e w'=>e= .returned (.int .i64 (a+5*n))∧w=w':=by
 have hcap:=hs.cap
 have hmax:=hs.max
 go_enter Tryz.func128,Tryz.ntmps128
 go_wp2_with fail
 go_loop [1,5] (fun q i=>∃(k:Nat) (K:Int),k≤n∧q= .int .i64 K∧i= .int .i64 k∧a+5*(k:Int)≤K∧K≤a+5*(k:Int)) (fun _ i=>n-(intOf i).toNat)
 case atStart=>exact ⟨0,a,Nat.zero_le _,rfl,rfl,by omega,by omega⟩
 case round=>
  obtain ⟨k,K,hk,rfl,rfl,hK0,hK1⟩:=hrel
  by_cases hlt:k<n
  ·obtain ⟨b,off,x,rfl,hb,hxk,hc⟩:=hs.get hlt
   rw [markPipe_at _ _ _ hlt] at hxk
   obtain rfl:(⟨K,K+1,K+1+1,K+1+1+1,K+1+1+1+1⟩:Pipe)=x:=by
    injection hxk with hxk
    rw [←hxk]
    congr 1 <;> omega
   clear hxk
   have hc0:=hc 0 _ rfl
   have hc1:=hc 1 _ rfl
   have hc2:=hc 2 _ rfl
   have hc3:=hc 3 _ rfl
   have hc4:=hc 4 _ rfl
   clear hc
   simp only [Nat.add_zero] at hc0
   go_wp2_with fail
   go_round
   case rel=>exact ⟨k+1,_,by omega,rfl,by go_num,by omega,by omega⟩
   case measure=>simp [intOf]; omega
  ·go_wp2_with fail
   go_ret
   obtain rfl:k=n:=by omega
   have:K=a+5*(k:Int):=by omega
   exact ⟨by rw [←this]; rfl,rfl⟩
end Go.Proofs.YtinindjjapblcaaGreatDoor
namespace Go.Proofs.YtinindjjapblcaaGreatDoor
open Go.RowKit
structure Node where
 name:ByteArray
 low:Int
 high:Int
def Node.cells (x:Node):List Value:=[.string x.name,.int .i64 x.low,.int .i64 x.high]
theorem node_len (x:Node):x.cells.length=3:=rfl
def chB (z:Int):Bool:=(decide (97≤z)&&decide (z≤122))||(decide (48≤z)&&decide (z≤57))
def chAt (s:ByteArray) (i:Nat):Int:=if h:i<s.size then ((s[i]'h).toNat:Int) else 0
theorem chAt_eq {s:ByteArray} {i:Nat} (h:i<s.size):((s[i]'h).toNat:Int)=chAt s i:=by rw [chAt,dif_pos h]
def nameB (s:ByteArray):Bool:=decide (1≤s.size)&&decide (s.size≤8)&&(List.range s.size).all fun i=>chB (chAt s i)
def sameN (a b:ByteArray):Bool:=a.toList==b.toList
def nodeB (x:Node):Bool:=nameB x.name&&decide (0≤x.low)&&decide (x.low≤x.high)&&decide (x.high≤100000000)
def pipeB (nn:Int) (p:Pipe):Bool:=inB p.src 0 (nn-1)&&inB p.dst 0 (nn-1)&&(p.src != p.dst)&&inB p.k 1 1000&&inB p.volume 0 1000000&&inB p.limit 1 30000
theorem ch_ways (z:Int):(97≤z∧z≤122∧decide (97≤z)=true∧decide (z≤122)=true∧Hid (chB z=true))∨(97≤z∧122<z∧48≤z∧57<z∧decide (97≤z)=true∧decide (z≤122)=false∧decide (48≤z)=true∧decide (z≤57)=false∧Hid (chB z=false))∨
  (z<97∧48≤z∧z≤57∧decide (97≤z)=false∧decide (48≤z)=true∧decide (z≤57)=true∧Hid (chB z=true))∨(z<97∧48≤z∧57<z∧decide (97≤z)=false∧decide (48≤z)=true∧decide (z≤57)=false∧Hid (chB z=false))∨
  (z<97∧z<48∧decide (97≤z)=false∧decide (48≤z)=false∧Hid (chB z=false)):=by
 simp only [Hid,chB,Bool.or_eq_true,Bool.and_eq_true,Bool.or_eq_false_iff,Bool.and_eq_false_iff,decide_eq_true_eq,decide_eq_false_iff_not]
 omega
theorem name_false {s:ByteArray} {k:Nat} (hk:k<s.size) (h:chB (chAt s k)=false):nameB s=false:=by
 simp only [nameB]; rw [all_range_false hk h]; simp
theorem name_true {s:ByteArray} (h1:1≤s.size) (h8:s.size≤8) (h:∀j,j<s.size→chB (chAt s j)=true):nameB s=true:=by
 simp only [nameB]; rw [all_range_true h]; simp [h1,h8]
theorem name_end {s:ByteArray} (h1:1≤s.size) (h:∀j,j<s.size→chB (chAt s j)=true):nameB s=decide ((s.size:Int)≤8):=by
 simp only [nameB]; rw [all_range_true h]; simp [h1]; omega
set_option maxHeartbeats 1000000 in
theorem c_isName (s:ByteArray) (w:World):
  Calls Tryz.prog 181 #[.string s] w fun e w'=>e= .returned (.bool (nameB s))∧w=w':=by
 by_cases h1:s.size<1
 ·have HR:=hide (show nameB s=false by simp [nameB]; omega)
  go_enter Tryz.func181,Tryz.ntmps181
  go_wp2_with fail
  go_ret
  exact ⟨by rw [HR.out]; rfl,rfl⟩
 by_cases h8:8<s.size
 ·have HR:=hide (show nameB s=false by simp [nameB]; omega)
  go_enter Tryz.func181,Tryz.ntmps181
  go_wp2_with fail
  go_ret
  exact ⟨by rw [HR.out]; rfl,rfl⟩
 go_enter Tryz.func181,Tryz.ntmps181
 go_wp2_with fail
 go_loop [3] (fun i=>∃k:Nat,k≤s.size∧i= .int .i64 k∧Hid (∀j,j<k→chB (chAt s j)=true)) (fun i=>s.size-(intOf i).toNat)
 case atStart=>exact ⟨0,Nat.zero_le _,rfl,hide (fun j hj=>absurd hj (by omega))⟩
 case round=>
  obtain ⟨k,hk,rfl,HK⟩:=hrel
  by_cases hlt:k<s.size
  ·have hch:=chAt_eq hlt
   have HF:=hide (fun h=>name_false hlt h)
   have HNX:chB (chAt s k)=true→Hid (∀j,j<k+1→chB (chAt s j)=true):=fun h=>hide (all_upto (p:=fun j=>chB (chAt s j)) HK.out h)
   generalize chAt s k=z at hch HF HNX
   rcases ch_ways z with ⟨z1,z2,d1,d2,HC⟩ | ⟨z1,z2,z3,z4,d1,d2,d3,d4,HC⟩ | ⟨z1,z2,z3,d1,d2,d3,HC⟩ | ⟨z1,z2,z3,d1,d2,d3,HC⟩ | ⟨z1,z2,d1,d2,HC⟩
   ·go_wp2_with fail
    go_round
    case rel=>exact ⟨k+1,by omega,by go_num,HNX HC⟩
    case measure=>simp [intOf]; omega
   ·go_wp2_with fail
    go_ret
    exact ⟨by rw [HF.out HC]; rfl,rfl⟩
   ·go_wp2_with fail
    go_round
    case rel=>exact ⟨k+1,by omega,by go_num,HNX HC⟩
    case measure=>simp [intOf]; omega
   ·go_wp2_with fail
    go_ret
    exact ⟨by rw [HF.out HC]; rfl,rfl⟩
   ·go_wp2_with fail
    go_ret
    exact ⟨by rw [HF.out HC]; rfl,rfl⟩
  ·go_wp2_with fail
   go_ret
   exact ⟨by rw [name_true (by omega) (by omega) (fun j hj=>HK.out j (by omega))]; rfl,rfl⟩
set_option maxHeartbeats 1000000 in
theorem c_l02Name (s:ByteArray) (w:World) (hs:s.size≤1048576):
  Calls Tryz.prog 206 #[.string s] w fun e w'=>e= .returned (.bool (nameB s))∧w=w':=by
 go_enter Tryz.func206,Tryz.ntmps206
 go_wp2_with fail
 go_loop [3] (fun i=>∃k:Nat,k≤s.size∧i= .int .i64 k∧Hid (∀j,j<k→chB (chAt s j)=true)) (fun i=>s.size-(intOf i).toNat)
 case atStart=>exact ⟨0,Nat.zero_le _,rfl,hide (fun j hj=>absurd hj (by omega))⟩
 case round=>
  obtain ⟨k,hk,rfl,HK⟩:=hrel
  by_cases hlt:k<s.size
  ·have hch:=chAt_eq hlt
   have HF:=hide (fun h=>name_false hlt h)
   have HNX:chB (chAt s k)=true→Hid (∀j,j<k+1→chB (chAt s j)=true):=fun h=>hide (all_upto (p:=fun j=>chB (chAt s j)) HK.out h)
   generalize chAt s k=z at hch HF HNX
   rcases ch_ways z with ⟨z1,z2,d1,d2,HC⟩ | ⟨z1,z2,z3,z4,d1,d2,d3,d4,HC⟩ | ⟨z1,z2,z3,d1,d2,d3,HC⟩ | ⟨z1,z2,z3,d1,d2,d3,HC⟩ | ⟨z1,z2,d1,d2,HC⟩
   ·go_wp2_with fail
    go_round
    case rel=>exact ⟨k+1,by omega,by go_num,HNX HC⟩
    case measure=>simp [intOf]; omega
   ·go_wp2_with fail
    go_ret
    exact ⟨by rw [HF.out HC]; rfl,rfl⟩
   ·go_wp2_with fail
    go_round
    case rel=>exact ⟨k+1,by omega,by go_num,HNX HC⟩
    case measure=>simp [intOf]; omega
   ·go_wp2_with fail
    go_ret
    exact ⟨by rw [HF.out HC]; rfl,rfl⟩
   ·go_wp2_with fail
    go_ret
    exact ⟨by rw [HF.out HC]; rfl,rfl⟩
  ·by_cases h1:s.size<1
   ·have HR:=hide (show nameB s=false by simp [nameB]; omega)
    go_wp2_with fail
    go_ret
    exact ⟨by rw [HR.out]; rfl,rfl⟩
   go_wp2_with fail
   go_ret
   exact ⟨by rw [name_end (by omega) (fun j hj=>HK.out j (by omega))]; rfl,rfl⟩
theorem node_ways (x:Node):(nameB x.name=false∧Hid (nodeB x=false))∨(nameB x.name=true∧x.low<0∧Hid (nodeB x=false))∨(nameB x.name=true∧0≤x.low∧x.high<x.low∧Hid (nodeB x=false))∨
  (nameB x.name=true∧0≤x.low∧x.low≤x.high∧Hid (nodeB x=decide (x.high≤100000000))):=by
 unfold nodeB Hid
 cases nameB x.name
 ·simp
 ·simp only [Bool.true_and]
  by_cases h1:0≤x.low <;> by_cases h2:x.low≤x.high <;> simp [h1,h2] <;> omega
set_option maxHeartbeats 1000000 in
theorem c_IsNode (x:Node) (w:World):
  Calls Tryz.prog 148 #[.agg #[.string x.name,.int .i64 x.low,.int .i64 x.high]] w (Ret (.bool (nodeB x)) w):=by
 obtain ⟨s,lo,hi⟩:=x
 rcases node_ways ⟨s,lo,hi⟩ with ⟨h1,HR⟩ | ⟨h1,h2,HR⟩ | ⟨h1,h2,h3,HR⟩ | ⟨h1,h2,h3,HR⟩ <;>
 ·simp only at h1
  go_enter Tryz.func148,Tryz.ntmps148
  go_wp2_with (go_at_call 181; refine (c_isName _ _).mono ?_; rintro e w' ⟨rfl,rfl⟩)
  go_ret
  exact Ret.bool HR (Ext.alloc _ _)
set_option maxHeartbeats 1000000 in
theorem c_specIsNode (x:Node) (w:World)(hs:x.name.size≤1048576):
  Calls Tryz.prog 192 #[.agg #[.string x.name,.int .i64 x.low,.int .i64 x.high]] w (Ret (.bool (nodeB x)) w):=by
 obtain ⟨s,lo,hi⟩:=x
 rcases node_ways ⟨s,lo,hi⟩ with ⟨h1,HR⟩ | ⟨h1,h2,HR⟩ | ⟨h1,h2,h3,HR⟩ | ⟨h1,h2,h3,HR⟩ <;>
 ·simp only at h1
  go_enter Tryz.func192,Tryz.ntmps192
  go_wp2_with (go_at_call 206; refine (c_l02Name _ _ hs).mono ?_; rintro e w' ⟨rfl,rfl⟩)
  go_ret
  exact Ret.bool HR (Ext.alloc _ _)
end Go.Proofs.YtinindjjapblcaaGreatDoor
namespace Go.Proofs.YtinindjjapblcaaGreatDoor
open Go.RowKit
theorem SliceOf.take {α:Type} {w:World} {size:Nat} {f:α→List Value} {A:Option Addr} {n c:Nat} {xs:List α} (h:SliceOf w size f A n c xs) {k:Nat} (hk:k≤n):SliceOf w size f A k c (xs.take k):=by
 obtain ⟨h1,h2,h3,h4⟩:=h
 refine ⟨by rw [List.length_take]; omega,by omega,h3,fun hk0=> ?_⟩
 obtain ⟨b,off,hA,hb,hc⟩:=h4 (by omega)
 refine ⟨b,off,hA,hb,fun i x hx j u hu=> ?_⟩
 rw [List.getElem?_take] at hx
 split at hx
 ·exact hc i x hx j u hu
 ·cases hx
theorem sameN_comm (a b:ByteArray):sameN a b=sameN b a:=by
 unfold sameN
 rw [Bool.eq_iff_iff]
 simp only [beq_iff_eq]
 exact ⟨fun h=>h.symm,fun h=>h.symm⟩
def hasN (ns:List Node) (s:ByteArray):Bool:=ns.any fun y=>sameN y.name s
def nodeOkB (ns:List Node) (i:Nat):Bool:=match ns[i]? with
 | some x=>nodeB x&& !hasN (ns.take i) x.name
 | none=>true
def netB (ns:List Node) (ps:List Pipe):Bool:=decide (1≤ns.length)&&decide (ns.length≤24)&&decide (ps.length≤40)&&(List.range ns.length).all (nodeOkB ns)&&ps.all (pipeB ns.length)
theorem c_isNodeOf (A1 A2:Option Addr) (n1 c1 n2 c2:Nat) (z:Int) (w:World) (hn:n1≤9223372036854775807):
  Calls Tryz.prog 150 #[.agg #[.slice A1 n1 c1,.slice A2 n2 c2],.int .i64 z] w (Ret (.bool (inB z 0 ((n1:Int)-1))) w):=by
 go_enter Tryz.func150,Tryz.ntmps150
 go_wp2_with (go_at_call 84; refine (c_within _ _ _ _).mono ?_; rintro e w' ⟨rfl,rfl⟩)
 go_ret
 exact Ret.bool rfl (Ext.alloc _ _)
theorem c_l02Node (A1 A2:Option Addr) (n1 c1 n2 c2:Nat) (z:Int) (w:World) (hn:n1≤9223372036854775807):
  Calls Tryz.prog 134 #[.agg #[.slice A1 n1 c1,.slice A2 n2 c2],.int .i64 z] w (Ret (.bool (inB z 0 ((n1:Int)-1))) w):=by
 go_enter Tryz.func134,Tryz.ntmps134
 go_wp2_with (go_at_call 89; refine (c_l01In _ _ _ _).mono ?_; rintro e w' ⟨rfl,rfl⟩)
 go_ret
 exact Ret.bool rfl (Ext.alloc _ _)
set_option maxHeartbeats 2000000 in
theorem c_l02Pipe (p:Pipe) (nn:Nat) (w:World) (hn:nn≤1048576):
  Calls Tryz.prog 193 #[.agg #[.int .i64 p.src,.int .i64 p.dst,.int .i64 p.k,.int .i64 p.volume,.int .i64 p.limit],.int .i64 nn] w (Ret (.bool (pipeB nn p)) w):=by
 obtain ⟨a,b,c,d,e⟩:=p
 go_enter Tryz.func193,Tryz.ntmps193
 go_wp2_with (go_at_call 89; refine (c_l01In _ _ _ _).mono ?_; rintro e w' ⟨rfl,rfl⟩)
 all_goals
  go_ret
  refine Ret.bool ?_ (Ext.alloc _ _)
  simp_all [pipeB]
theorem c_nodeSame (x:Node) (b:Nat) (s:ByteArray) (w:World) (hb:b<w.heap.size) (hc:w.cell? ⟨b,0,none⟩=some (.string s)):
  Calls Tryz.prog 183 #[.agg #[.string x.name,.int .i64 x.low,.int .i64 x.high],.pointer (some ⟨b,0,none⟩)] w (Ret (.bool (sameN x.name s)) w):=by
 go_enter Tryz.func183,Tryz.ntmps183
 go_wp2_with fail
 go_ret
 exact Ret.bool rfl (Ext.alloc _ _)
def FoundN (b:Bool) (w:World) (e:Ending) (w':World):Prop:=∃r:Int,e= .returned (.int .i64 r)∧decide (0≤r)=b∧Ext w w'
set_option maxHeartbeats 1000000 in
theorem c_IndexNode (A:Option Addr) (n c:Nat) (ns:List Node) (b:Nat) (s:ByteArray) (w:World) (hs:SliceOf w 3 Node.cells A n c ns) (hb:b<w.heap.size) (hcb:w.cell? ⟨b,0,none⟩=some (.string s)):
  Calls Tryz.prog 182 #[.slice A n c,.func (.func 183) #[] #[.pointer (some ⟨b,0,none⟩)]] w (FoundN (hasN ns s) w):=by
 have hm:=hs.max
 have hcap:=hs.cap
 go_enter Tryz.func182,Tryz.ntmps182
 go_wp2_with fail
 go_loopw [4,8] (fun r i wr=>∃k:Nat,k≤n∧r= .int .i64 0∧i= .int .i64 k∧Hid (∀(j:Nat) (p:Node),j<k→ns[j]? =some p→sameN p.name s=false)∧Ext w wr) (fun _ i _=>n-(intOf i).toNat)
 case atStart=>exact ⟨0,Nat.zero_le _,rfl,rfl,hide (fun j p hj=>absurd hj (by omega)),Ext.refl _⟩
 case round=>
  obtain ⟨k,hk,rfl,rfl,HK,hx⟩:=hrel
  by_cases hlt:k<n
  ·obtain ⟨bb,off,p,rfl,hbb,hxk,hc⟩:=(hs.ext hx).get hlt
   have hc0:=hc 0 _ rfl
   have hc1:=hc 1 _ rfl
   have hc2:=hc 2 _ rfl
   clear hc
   simp only [Nat.add_zero] at hc0
   have HX:=hide hxk
   clear hxk
   have hcb':=(hx.cell b 0 hb).trans hcb
   have hb':=Nat.lt_of_lt_of_le hb hx.size
   cases hp:sameN p.name s
   ·go_wp2_with (go_at_call 183; refine (c_nodeSame p b s _ hb' hcb').mono ?_; rw [hp]; rintro e w1 ⟨rfl,hx1⟩)
    go_roundw
    case rel=>
     refine ⟨k+1,by omega,rfl,by go_num,hide fun j q hj hq=> ?_,hx.trans hx1⟩
     by_cases e:j=k
     ·subst e; rw [HX.out] at hq; injection hq with hq; subst hq; exact hp
     ·exact HK.out j q (by omega) hq
    case measure=>simp [intOf]; omega
   ·go_wp2_with (go_at_call 183; refine (c_nodeSame p b s _ hb' hcb').mono ?_; rw [hp]; rintro e w1 ⟨rfl,hx1⟩)
    go_ret
    refine ⟨k,rfl,?_,hx.trans hx1⟩
    have:hasN ns s=true:=by rw [hasN,List.any_eq_true]; exact ⟨p,List.mem_of_getElem? HX.out,hp⟩
    rw [this]; simp
  ·go_wp2_with fail
   go_ret
   refine ⟨-1,rfl,?_,hx⟩
   have:hasN ns s=false:=by
    rw [hasN,List.any_eq_false]; intro q hq
    obtain ⟨j,hj,rfl⟩:=List.mem_iff_getElem.1 hq
    simp [HK.out j _ (by have:=hs.len; omega) (List.getElem?_eq_getElem hj)]
   rw [this]; simp
theorem c_nodeIndex (A1 A2:Option Addr) (n1 c1 n2 c2:Nat) (ns:List Node) (s:ByteArray) (w:World) (hs:SliceOf w 3 Node.cells A1 n1 c1 ns):
  Calls Tryz.prog 149 #[.agg #[.slice A1 n1 c1,.slice A2 n2 c2],.string s] w (FoundN (hasN ns s) w):=by
 go_enter Tryz.func149,Tryz.ntmps149
 go_wp2_with fail
 refine (c_IndexNode A1 n1 c1 ns _ s _ (hs.ext ((Ext.alloc _ _).and_alloc _)) (by simp) (by simp [go_sem])).mono ?_
 rintro e w1 ⟨r,rfl,hr,hx1⟩
 go_wp2_with fail
 go_ret
 exact ⟨r,rfl,hr,((Ext.alloc _ _).and_alloc _).trans hx1⟩
end Go.Proofs.YtinindjjapblcaaGreatDoor
namespace Go.Proofs.YtinindjjapblcaaGreatDoor
open Go.RowKit
theorem nodeOk_at {ns:List Node} {k:Nat} {p:Node} (h:ns[k]? =some p):nodeOkB ns k=(nodeB p&& !hasN (ns.take k) p.name):=by
 unfold nodeOkB; rw [h]
theorem net_len1 {ns:List Node} {ps:List Pipe} {n:Nat} (hn:n=ns.length) (h:inB (n:Int) 1 24=false):netB ns ps=false:=by
 have:=inB_false.1 h
 unfold netB
 by_cases h1:1≤ns.length
 ·have:¬ns.length≤24:=by omega
  simp [this]
 ·simp [h1]
theorem net_len2 {ns:List Node} {ps:List Pipe} (h:40<ps.length):netB ns ps=false:=by
 unfold netB
 have:¬ps.length≤40:=by omega
 simp [this]
theorem net_node {ns:List Node} {ps:List Pipe} {k:Nat} (hk:k<ns.length) (h:nodeOkB ns k=false):netB ns ps=false:=by
 unfold netB
 rw [all_range_false hk h]; simp
theorem net_pipe {ns:List Node} {ps:List Pipe} {p:Pipe} (hp:p∈ps) (h:pipeB ns.length p=false):netB ns ps=false:=by
 unfold netB
 have:ps.all (pipeB ns.length)=false:=by rw [List.all_eq_false]; exact ⟨p,hp,by simp [h]⟩
 rw [this]; simp
theorem net_true {ns:List Node} {ps:List Pipe} (h1:inB (ns.length:Int) 1 24=true) (h2:ps.length≤40) (h3:∀j,j<ns.length→nodeOkB ns j=true) (h4:∀(j:Nat) (p:Pipe),ps[j]? =some p→pipeB ns.length p=true):netB ns ps=true:=by
 obtain ⟨h5,h6⟩:=inB_true.1 h1
 unfold netB
 rw [all_range_true h3]
 have:ps.all (pipeB ns.length)=true:=by
  rw [List.all_eq_true]; intro p hp
  obtain ⟨j,hj,rfl⟩:=List.mem_iff_getElem.1 hp
  exact h4 j _ (List.getElem?_eq_getElem hj)
 rw [this]
 simp
 omega
theorem pipe_ways (nn:Int) (p:Pipe):(inB p.src 0 (nn-1)=false∧Hid (pipeB nn p=false))∨(inB p.src 0 (nn-1)=true∧inB p.dst 0 (nn-1)=false∧Hid (pipeB nn p=false))∨
  (inB p.src 0 (nn-1)=true∧inB p.dst 0 (nn-1)=true∧(p.src==p.dst)=true∧Hid (pipeB nn p=false))∨(inB p.src 0 (nn-1)=true∧inB p.dst 0 (nn-1)=true∧(p.src==p.dst)=false∧inB p.k 1 1000=false∧Hid (pipeB nn p=false))∨
  (inB p.src 0 (nn-1)=true∧inB p.dst 0 (nn-1)=true∧(p.src==p.dst)=false∧inB p.k 1 1000=true∧inB p.volume 0 1000000=false∧Hid (pipeB nn p=false))∨
  (inB p.src 0 (nn-1)=true∧inB p.dst 0 (nn-1)=true∧(p.src==p.dst)=false∧inB p.k 1 1000=true∧inB p.volume 0 1000000=true∧inB p.limit 1 30000=false∧Hid (pipeB nn p=false))∨
  (inB p.src 0 (nn-1)=true∧inB p.dst 0 (nn-1)=true∧(p.src==p.dst)=false∧inB p.k 1 1000=true∧inB p.volume 0 1000000=true∧inB p.limit 1 30000=true∧Hid (pipeB nn p=true)):=by
 unfold pipeB Hid
 rw [show (p.src != p.dst)= !(p.src==p.dst) from rfl]
 cases inB p.src 0 (nn-1) <;> cases inB p.dst 0 (nn-1) <;> cases (p.src==p.dst) <;> cases inB p.k 1 1000 <;> cases inB p.volume 0 1000000 <;> cases inB p.limit 1 30000 <;> simp
structure NetBox (w:World) (A1 A2:Option Addr) (n1 c1 n2 c2:Nat) (wr:World):Prop where
 ext:Ext (w.alloc (.cells #[.slice A1 n1 c1,.slice A2 n2 c2] 27)) wr
theorem NetBox.cell {w wr:World} {A1 A2:Option Addr} {n1 c1 n2 c2:Nat} (h:NetBox w A1 A2 n1 c1 n2 c2 wr):wr.cell? ⟨w.heap.size,0,none⟩=some (.slice A1 n1 c1)∧wr.cell? ⟨w.heap.size,1,none⟩=some (.slice A2 n2 c2)∧w.heap.size<wr.heap.size:=by
 have hz:=h.ext.size
 simp at hz
 refine ⟨(h.ext.cell _ _ (by simp)).trans (by simp [go_sem]),(h.ext.cell _ _ (by simp)).trans (by simp [go_sem]),by omega⟩
set_option maxHeartbeats 4000000 in
theorem c_IsNetwork (A1 A2:Option Addr) (n1 c1 n2 c2:Nat) (ns:List Node) (ps:List Pipe) (w:World) (hs1:SliceOf w 3 Node.cells A1 n1 c1 ns) (hs2:SliceOf w 5 Pipe.cells A2 n2 c2 ps):
  Calls Tryz.prog 103 #[.agg #[.slice A1 n1 c1,.slice A2 n2 c2]] w (Ret (.bool (netB ns ps)) w):=by
 have hm1:=hs1.max
 have hp1:=hs1.cap
 have hm2:=hs2.max
 have hp2:=hs2.cap
 have HL1:=hide hs1.len
 have HL2:=hide hs2.len
 cases hN:inB (n1:Int) 1 24
 ·have HR:=hide (net_len1 (ps:=ps) HL1.out hN)
  go_enter Tryz.func103,Tryz.ntmps103
  go_wp2_with (go_at_call 84; refine (c_within _ _ _ _).mono ?_; rintro e w' ⟨rfl,rfl⟩)
  go_ret
  exact Ret.bool HR.out (Ext.alloc _ _)
 obtain ⟨hN0,hN1⟩:=inB_true.1 hN
 by_cases hM:40<n2
 ·have HR:=hide (net_len2 (ns:=ns) (ps:=ps) (by rw [←HL2.out]; exact hM))
  go_enter Tryz.func103,Tryz.ntmps103
  go_wp2_with (go_at_call 84; refine (c_within _ _ _ _).mono ?_; rintro e w' ⟨rfl,rfl⟩)
  go_ret
  exact Ret.bool HR.out (Ext.alloc _ _)
 go_enter Tryz.func103,Tryz.ntmps103
 go_wp2_with (go_at_call 84; refine (c_within _ _ _ _).mono ?_; rintro e w' ⟨rfl,rfl⟩)
 have HN:=hide hN
 clear hN
 go_loopw [21] (fun i wr=>∃k:Nat,k≤n1∧i= .int .i64 k∧Hid (∀j,j<k→nodeOkB ns j=true)∧NetBox w A1 A2 n1 c1 n2 c2 wr) (fun i _=>n1-(intOf i).toNat)
 case atStart=>exact ⟨0,Nat.zero_le _,rfl,hide (fun j hj=>absurd hj (by omega)),⟨Ext.refl _⟩⟩
 case round=>
  obtain ⟨k,hk,rfl,HK,hX⟩:=hrel
  have hx:=hX.ext.box
  obtain ⟨x0,x1,hz⟩:=hX.cell
  by_cases hlt:k<n1
  ·obtain ⟨bb,off,p,rfl,hbb,hxk,hc⟩:=(hs1.ext hx).get hlt
   have hc0:=hc 0 _ rfl
   have hc1:=hc 1 _ rfl
   have hc2:=hc 2 _ rfl
   clear hc
   simp only [Nat.add_zero] at hc0
   have hok:=nodeOk_at hxk
   have HX:=hide hok
   clear hxk hok
   have hR:=Row.new wr 147 [.string p.name,.int .i64 p.low,.int .i64 p.high]
   have hRl:=hR.lt
   have r0:=hR.cell 0
   have r1:=hR.cell 1
   have r2:=hR.cell 2
   simp at r0 r1 r2
   have hXa:NetBox w (some ⟨bb,off,none⟩) A2 n1 c1 n2 c2 (wr.alloc (.cells #[.string p.name,.int .i64 p.low,.int .i64 p.high] 147)):=⟨hX.ext.and_alloc _⟩
   obtain ⟨y0,y1,hy⟩:=hXa.cell
   cases hp:nodeB p
   ·rw [hp] at HX
    have HR:=hide (net_node (ps:=ps) (ns:=ns) (k:=k) (by rw [←HL1.out]; exact hlt) HX.out)
    go_wp2_with fail
    refine wp_region_ph [([0],1),([2,3,4,5,6,7,8,9,10],11)] [12,13] (by kernel_rfl) (by kernel_rfl) (by intro c a w d v h; cases d <;> exact h) ?_
    simp only [wpPh,pickL,nthO]
    repeat (go_big_quiet_step (fail))
    refine wpQuiet_nil ?_
    go_wp2_with fail
    refine (c_IsNode p _).mono ?_
    rw [hp]
    rintro e w1 ⟨rfl,hx1⟩
    go_wp2_with fail
    refine ⟨hx1,?_⟩
    repeat (go_big_quiet_step (fail))
    refine wpQuiet_nil ?_
    go_wp2_with fail
    refine ⟨Ext.refl _,?_⟩
    repeat (go_big_quiet_step (fail))
    refine wpQuiet_nil ?_
    go_wp2_with fail
    go_ret
    exact Ret.bool HR.out (((hx.and_alloc _).drew).trans hx1)
   ·rw [hp] at HX
    have hs1k:=(hs1.take (show k≤n1 by omega))
    go_wp2_with fail
    refine wp_region_ph [([0],1),([2,3,4,5,6,7,8,9,10],11)] [12,13] (by kernel_rfl) (by kernel_rfl) (by intro c a w d v h; cases d <;> exact h) ?_
    simp only [wpPh,pickL,nthO]
    repeat (go_big_quiet_step (fail))
    refine wpQuiet_nil ?_
    go_wp2_with fail
    refine (c_IsNode p _).mono ?_
    rw [hp]
    rintro e w1 ⟨rfl,hx1⟩
    have hx1':=(Ext.refl _).drew.trans hx1
    have hXb:NetBox w (some ⟨bb,off,none⟩) A2 n1 c1 n2 c2 w1:=⟨hXa.ext.trans hx1'⟩
    obtain ⟨u0,u1,hu⟩:=hXb.cell
    have hR1:=hR.ext hx1'
    have v0:=hR1.cell 0
    simp at v0
    have hv:=hR1.lt
    go_wp2_with fail
    refine ⟨hx1,?_⟩
    repeat (go_big_quiet_step (fail))
    refine wpQuiet_nil ?_
    go_wp2_with fail
    refine (c_nodeIndex _ none k c1 0 0 (ns.take k) p.name _ (hs1k.ext hXb.ext.box)).mono ?_
    rintro e w2 ⟨r,rfl,hr,hx2⟩
    have hxe:Ext w w2:=(hXb.ext.box).trans hx2
    cases hh:hasN (ns.take k) p.name
    ·rw [hh] at hr HX
     have HO:=hide (all_upto HK.out HX.out)
     go_wp2_with fail
     refine ⟨hx2,?_⟩
     repeat (go_big_quiet_step (fail))
     refine wpQuiet_nil ?_
     go_wp2_with fail
     go_roundw
     case rel=>exact ⟨k+1,by omega,by go_num,HO,⟨hXb.ext.trans hx2⟩⟩
     case measure=>simp [intOf]; omega
    ·rw [hh] at hr HX
     have HR:=hide (net_node (ps:=ps) (ns:=ns) (k:=k) (by rw [←HL1.out]; exact hlt) HX.out)
     go_wp2_with fail
     refine ⟨hx2,?_⟩
     repeat (go_big_quiet_step (fail))
     refine wpQuiet_nil ?_
     go_wp2_with fail
     go_ret
     exact Ret.bool HR.out hxe
  ·have HALL:Hid (∀j,j<ns.length→nodeOkB ns j=true):=hide (fun j hj=>HK.out j (by rw [←HL1.out] at hj; omega))
   have hnn:(n1:Int)-1=(ns.length:Int)-1:=by rw [HL1.out]
   have HNN:=hide hnn
   clear hnn HK
   go_wp2_with fail
   have hX0:=hX
   clear x0 x1 hz hx hX
   go_loopw [44] (fun i wr=>∃k:Nat,k≤n2∧i= .int .i64 k∧Hid (∀(j:Nat) (p:Pipe),j<k→ps[j]? =some p→pipeB ns.length p=true)∧NetBox w A1 A2 n1 c1 n2 c2 wr) (fun i _=>n2-(intOf i).toNat)
   case atStart=>exact ⟨0,Nat.zero_le _,rfl,hide (fun j p hj=>absurd hj (by omega)),hX0⟩
   case round=>
    obtain ⟨k,hk,rfl,HK,hX⟩:=hrel
    have hx:=hX.ext.box
    obtain ⟨x0,x1,hz⟩:=hX.cell
    by_cases hlt:k<n2
    ·obtain ⟨bb,off,p,rfl,hbb,hxk,hc⟩:=(hs2.ext hx).get hlt
     have hc0:=hc 0 _ rfl
     have hc1:=hc 1 _ rfl
     have hc2:=hc 2 _ rfl
     have hc3:=hc 3 _ rfl
     have hc4:=hc 4 _ rfl
     clear hc
     simp only [Nat.add_zero] at hc0
     have HX:=hide hxk
     clear hxk
     have hways:=pipe_ways ns.length p
     rw [←HNN.out] at hways
     have HF:=hide (fun h=>net_pipe (ns:=ns) (List.mem_of_getElem? HX.out) h)
     have hR:=Row.new wr 149 [.int .i64 p.src,.int .i64 p.dst,.int .i64 p.k,.int .i64 p.volume,.int .i64 p.limit]
     have hXa:NetBox w A1 (some ⟨bb,off,none⟩) n1 c1 n2 c2 (wr.alloc (.cells #[.int .i64 p.src,.int .i64 p.dst,.int .i64 p.k,.int .i64 p.volume,.int .i64 p.limit] 149)):=⟨hX.ext.and_alloc _⟩
     rcases hways with ⟨h1,HR⟩ | hways
     ·go_wp2_with fail
      refine (c_isNodeOf A1 (some ⟨bb,off,none⟩) n1 c1 n2 c2 p.src _ (by omega)).mono ?_
      rw [h1]
      rintro e w1 ⟨rfl,hx1⟩
      go_wp2_with fail
      go_ret
      exact Ret.bool (HF.out HR) ((hx.and_alloc _).trans hx1)
     have h1:inB p.src 0 ((n1:Int)-1)=true:=by rcases hways with ⟨h,_⟩ | ⟨h,_⟩ | ⟨h,_⟩ | ⟨h,_⟩ | ⟨h,_⟩ | ⟨h,_⟩ <;> exact h
     have HWY:=hide hways
     clear hways
     go_wp2_with fail
     refine (c_isNodeOf A1 (some ⟨bb,off,none⟩) n1 c1 n2 c2 p.src _ (by omega)).mono ?_
     rw [h1]
     rintro e w1 ⟨rfl,hx1⟩
     clear h1
     have hXb:NetBox w A1 (some ⟨bb,off,none⟩) n1 c1 n2 c2 w1:=⟨hXa.ext.trans hx1⟩
     obtain ⟨u0,u1,hu⟩:=hXb.cell
     have hR1:=hR.ext hx1
     have t0:=hR1.cell 0
     have t1:=hR1.cell 1
     have t2:=hR1.cell 2
     have t3:=hR1.cell 3
     have t4:=hR1.cell 4
     simp at t0 t1 t2 t3 t4
     have hl1:=hR1.lt
     rcases HWY.out with ⟨_,h2,HR⟩ | hways
     ·go_wp2_with fail
      refine (c_isNodeOf A1 (some ⟨bb,off,none⟩) n1 c1 n2 c2 p.dst _ (by omega)).mono ?_
      rw [h2]
      rintro e w2 ⟨rfl,hx2⟩
      go_wp2_with fail
      go_ret
      exact Ret.bool (HF.out HR) (hXb.ext.box.trans hx2)
     have h2:inB p.dst 0 ((n1:Int)-1)=true:=by rcases hways with ⟨_,h,_⟩ | ⟨_,h,_⟩ | ⟨_,h,_⟩ | ⟨_,h,_⟩ | ⟨_,h,_⟩ <;> exact h
     have HWZ:=hide hways
     clear hways HWY
     go_wp2_with fail
     refine (c_isNodeOf A1 (some ⟨bb,off,none⟩) n1 c1 n2 c2 p.dst _ (by omega)).mono ?_
     rw [h2]
     rintro e w2 ⟨rfl,hx2⟩
     clear h2
     have hXc:NetBox w A1 (some ⟨bb,off,none⟩) n1 c1 n2 c2 w2:=⟨hXb.ext.trans hx2⟩
     have hR2:=hR1.ext hx2
     have s0:=hR2.cell 0
     have s1:=hR2.cell 1
     have s2:=hR2.cell 2
     have s3:=hR2.cell 3
     have s4:=hR2.cell 4
     simp at s0 s1 s2 s3 s4
     have hl2:=hR2.lt
     rcases HWZ.out with ⟨_,_,h3,HR⟩ | ⟨_,_,h3,h4,HR⟩ | ⟨_,_,h3,h4,h5,HR⟩ | ⟨_,_,h3,h4,h5,h6,HR⟩ | ⟨_,_,h3,h4,h5,h6,HR⟩
     ·go_wp2_with (go_at_call 84; refine (c_within _ _ _ _).mono ?_; rintro e w' ⟨rfl,rfl⟩)
      go_ret
      exact Ret.bool (HF.out HR) hXc.ext.box
     ·go_wp2_with (go_at_call 84; refine (c_within _ _ _ _).mono ?_; rintro e w' ⟨rfl,rfl⟩)
      go_ret
      exact Ret.bool (HF.out HR) hXc.ext.box
     ·go_wp2_with (go_at_call 84; refine (c_within _ _ _ _).mono ?_; rintro e w' ⟨rfl,rfl⟩)
      go_ret
      exact Ret.bool (HF.out HR) hXc.ext.box
     ·go_wp2_with (go_at_call 84; refine (c_within _ _ _ _).mono ?_; rintro e w' ⟨rfl,rfl⟩)
      go_ret
      exact Ret.bool (HF.out HR) hXc.ext.box
     ·go_wp2_with (go_at_call 84; refine (c_within _ _ _ _).mono ?_; rintro e w' ⟨rfl,rfl⟩)
      go_roundw
      case rel=>
       refine ⟨k+1,by omega,by go_num,hide fun j q hj hq=> ?_,hXc⟩
       by_cases e:j=k
       ·subst e; rw [HX.out] at hq; injection hq with hq; subst hq; exact HR
       ·exact HK.out j q (by omega) hq
      case measure=>simp [intOf]; omega
    ·have HR:=hide (net_true (by rw [←HL1.out]; exact HN.out) (by rw [←HL2.out]; omega) HALL.out (fun j p hp=>HK.out j p (by have:=(List.getElem?_eq_some_iff.1 hp).1; rw [←HL2.out] at this; omega) hp))
     go_wp2_with fail
     go_ret
     exact Ret.bool HR.out hx
end Go.Proofs.YtinindjjapblcaaGreatDoor
