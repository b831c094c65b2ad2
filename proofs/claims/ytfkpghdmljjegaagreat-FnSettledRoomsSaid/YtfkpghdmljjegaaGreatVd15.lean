/-
  The helpers of the laws on Event: copying, comparing, measuring, marking.
-/
import Derived.Test.YtfkpghdmljjegaaGreatVd06
import Derived.Test.YtfkpghdmljjegaaGreatVd00
import Derived.Test.YtfkpghdmljjegaaGreatVd03
import Derived.Test.YtfkpghdmljjegaaGreatVd01
namespace Go.Proofs.YtfkpghdmljjegaaGreat
open Go.RowKit
structure Event where
 kind:Int
 a:Int
 b:Int
 c:Int
 d:Int
def Event.cells (x:Event):List Value:=[.int .i64 x.kind,.int .i64 x.a,.int .i64 x.b,.int .i64 x.c,.int .i64 x.d]
end Go.Proofs.YtfkpghdmljjegaaGreat
namespace Go.Proofs.YtfkpghdmljjegaaGreat
open Go.RowKit
theorem SrcAt.ext {w w':World} {a n c:Nat} {A:Option Addr} (h:SrcAt w a A n c) (hx:Ext w w'):SrcAt w' a A n c:=
 let ⟨p,s,hr,r⟩:=h; ⟨p,s,hr.ext hx,r⟩
theorem SrcAt.only {w w':World} {a g n c:Nat} {A:Option Addr} (h:SrcAt w a A n c) (hx:Only g w w') (hne:a≠g):SrcAt w' a A n c:=
 let ⟨p,s,hr,r⟩:=h; ⟨p,s,hr.only hx hne,r⟩
theorem SrcAt.lt {w:World} {a n c:Nat} {A:Option Addr} (h:SrcAt w a A n c):a<w.heap.size:=let ⟨_,_,hr,_⟩:=h; hr.lt
end Go.Proofs.YtfkpghdmljjegaaGreat
namespace Go.Proofs.YtfkpghdmljjegaaGreat
open Go.RowKit
def tolF (band percent thr:Int):Int:=max band (thr*percent/100)
theorem mul_bd {a b:Int} (x y:Int) (ha:0≤a) (ha':a≤x) (hb:0≤b) (hb':b≤y):0≤a*b∧a*b≤x*y:=
 ⟨Int.mul_nonneg ha hb,Int.mul_le_mul ha' hb' hb (by omega)⟩
theorem tolF_bd {band percent thr:Int} (h1:0≤band) (h1':band≤1000000000) (h2:0≤percent) (h2':percent≤100) (h3:0≤thr) (h3':thr≤1000000000):0≤tolF band percent thr∧tolF band percent thr≤1000000000:=by
 have:=mul_bd 1000000000 100 h3 h3' h2 h2'
 unfold tolF; omega
theorem c_toleranceFor (band percent price thr:Int) (A:Option Addr) (n c:Nat) (w:World) (h2:0≤percent) (h2':percent≤100) (h3:0≤thr) (h3':thr≤1000000000):
  Calls Tryz.prog 254 #[.agg #[.int .i64 band,.int .i64 percent,.int .i64 price,.slice A n c],.int .i64 thr] w (Ret (.int .i64 (tolF band percent thr)) w):=by
 obtain ⟨hm,hm'⟩:=mul_bd 1000000000 100 h3 h3' h2 h2'
 go_enter Tryz.func254,Tryz.ntmps254
 go_wp2
 all_goals
  go_ret
  refine Ret.int ?_ (Ext.alloc _ _)
  unfold tolF; omega
theorem c_l29Tolerance (band percent price thr:Int) (A:Option Addr) (n c:Nat) (w:World) (h2:0≤percent) (h2':percent≤100) (h3:0≤thr) (h3':thr≤1000000000):
  Calls Tryz.prog 258 #[.agg #[.int .i64 band,.int .i64 percent,.int .i64 price,.slice A n c],.int .i64 thr] w (Ret (.int .i64 (tolF band percent thr)) w):=by
 obtain ⟨hm,hm'⟩:=mul_bd 1000000000 100 h3 h3' h2 h2'
 go_enter Tryz.func258,Tryz.ntmps258
 go_wp2
 all_goals
  go_ret
  refine Ret.int ?_ (Ext.alloc _ _)
  unfold tolF; omega
def excF (band percent bal thr:Int):Int:=
 if tolF band percent thr<bal then bal-tolF band percent thr else if bal < -tolF band percent thr then bal+tolF band percent thr else 0
theorem c_excessOf (band percent price bal thr:Int) (A:Option Addr) (n c:Nat) (w:World) (h1:0≤band) (h1':band≤1000000000) (h2:0≤percent) (h2':percent≤100) (h3:0≤thr) (h3':thr≤1000000000)
  (h4: -2000000000≤bal) (h4':bal≤2000000000):
  Calls Tryz.prog 201 #[.agg #[.int .i64 band,.int .i64 percent,.int .i64 price,.slice A n c],.int .i64 bal,.int .i64 thr] w (Ret (.int .i64 (excF band percent bal thr)) w):=by
 have ht:=tolF_bd h1 h1' h2 h2' h3 h3'
 have HE:=hide (show excF band percent bal thr=if tolF band percent thr<bal then bal-tolF band percent thr else if bal < -tolF band percent thr then bal+tolF band percent thr else 0 from rfl)
 generalize excF band percent bal thr=R at HE ⊢
 go_enter Tryz.func201,Tryz.ntmps201
 go_wp2_with fail
 refine (c_toleranceFor _ _ _ _ _ _ _ _ h2 h2' h3 h3').mono ?_
 generalize tolF band percent thr=T at ht HE ⊢
 obtain ⟨ht0,ht1⟩:=ht
 rintro e w1 ⟨rfl,hx⟩
 go_wp2
 all_goals
  go_ret
  refine Ret.int ?_ hx.box
  rw [HE.out]
  (repeat' split) <;> omega
theorem excF_spec {band percent bal thr:Int} (h:0≤tolF band percent thr):
  excF band percent bal thr=if bal<0 then -(max 0 (absI bal-tolF band percent thr)) else max 0 (absI bal-tolF band percent thr):=by
 unfold excF absI; (repeat' split) <;> omega
set_option maxHeartbeats 400000 in
theorem c_l29Excess (band percent price bal thr:Int) (A:Option Addr) (n c:Nat) (w:World) (h1:0≤band) (h1':band≤1000000000) (h2:0≤percent) (h2':percent≤100) (h3:0≤thr) (h3':thr≤1000000000)
  (h4: -2000000000≤bal) (h4':bal≤2000000000):
  Calls Tryz.prog 210 #[.agg #[.int .i64 band,.int .i64 percent,.int .i64 price,.slice A n c],.int .i64 bal,.int .i64 thr] w (Ret (.int .i64 (excF band percent bal thr)) w):=by
 have ht:=tolF_bd h1 h1' h2 h2' h3 h3'
 have ha:=absI_le (n:=bal) (m:=2000000000) h4 h4'
 have HE:=hide (excF_spec (bal:=bal) ht.1)
 generalize excF band percent bal thr=R at HE ⊢
 go_enter Tryz.func210,Tryz.ntmps210
 go_wp2_with fail
 refine wp_region_later (by kernel_rfl) (by kernel_rfl) ?_
 have e1:IntKind.i64.wrap (absI bal-tolF band percent thr)=absI bal-tolF band percent thr:=IntWalk.i64_in _ (by omega)
 repeat (go_big_quiet_step ((first | (go_at_call 209; exact quiet_later_same (c_l01Abs _ _ (by omega) (by omega))) | (go_at_call 258; exact quiet_later (c_l29Tolerance _ _ _ _ _ _ _ _ h2 h2' h3 h3')))))
 refine wpQuiet_nil ?_
 intro w1 hx
 go_wp2
 all_goals
  go_ret
  refine Ret.int ?_ hx.box
  rw [HE.out]
  (repeat' split) <;> omega
end Go.Proofs.YtfkpghdmljjegaaGreat
namespace Go.Proofs.YtfkpghdmljjegaaGreat
open Go.RowKit
structure Tier where
 upto:Int
 factor:Int
def Tier.cells (t:Tier):List Value:=[.int .i64 t.upto,.int .i64 t.factor]
def stepOk:Option Tier→Tier→Bool
 | none,_=>true
 | some y,x=>decide (y.upto<x.upto)&&decide (y.factor≤x.factor)
def tierOk (ts:List Tier) (i:Nat):Bool:=
 match ts[i]? with
 | none=>true
 | some x=>inB x.upto 1 1000000000&&inB x.factor 0 1000&&(match i with | 0=>true | j+1=>stepOk ts[j]? x)
def isTermsB (band percent price:Int) (ts:List Tier):Bool:=
 inB band 0 1000000000&&inB percent 0 100&&inB price 0 1000000&&inB ts.length 1 6&&(List.range ts.length).all (tierOk ts)
theorem tierOk_zero {ts:List Tier} {k:Nat} {x:Tier} (hk:¬0<k) (h:ts[k]? =some x):tierOk ts k=(inB x.upto 1 1000000000&&inB x.factor 0 1000):=by
 obtain rfl:k=0:=by omega
 simp [tierOk,h]
theorem tierOk_pos {ts:List Tier} {k:Nat} {x y:Tier} (hk:0<k) (h:ts[k]? =some x) (h':ts[k-1]? =some y):
  tierOk ts k=(inB x.upto 1 1000000000&&inB x.factor 0 1000&&(decide (y.upto<x.upto)&&decide (y.factor≤x.factor))):=by
 obtain ⟨m,rfl⟩:∃m,k=m+1:=⟨k-1,by omega⟩
 simp at h'
 simp [tierOk,h,h',stepOk]
theorem tier_ways {ts:List Tier} {k n:Nat} {x y:Tier} (hlt:k<n) (HT:tierOk ts k=(inB x.upto 1 1000000000&&inB x.factor 0 1000&&(decide (y.upto<x.upto)&&decide (y.factor≤x.factor)))):
  (inB x.upto 1 1000000000=true∧inB x.factor 0 1000=true∧decide (x.upto≤y.upto)=false∧decide (x.factor<y.factor)=false∧Hid (tierOk ts k=true))∨
  (inB x.upto 1 1000000000=false∧Hid ((List.range n).all (tierOk ts)=false))∨
  (inB x.upto 1 1000000000=true∧inB x.factor 0 1000=false∧Hid ((List.range n).all (tierOk ts)=false))∨
  (inB x.upto 1 1000000000=true∧inB x.factor 0 1000=true∧decide (x.upto≤y.upto)=true∧Hid ((List.range n).all (tierOk ts)=false))∨
  (inB x.upto 1 1000000000=true∧inB x.factor 0 1000=true∧decide (x.upto≤y.upto)=false∧decide (x.factor<y.factor)=true∧Hid ((List.range n).all (tierOk ts)=false)):=by
 have e1:decide (y.upto<x.upto)= !decide (x.upto≤y.upto):=by rw [Bool.eq_iff_iff]; simp
 have e2:decide (y.factor≤x.factor)= !decide (x.factor<y.factor):=by rw [Bool.eq_iff_iff]; simp
 rw [e1,e2] at HT
 have hf:tierOk ts k=false→Hid ((List.range n).all (tierOk ts)=false):=fun h=>hide (all_range_false hlt h)
 revert HT hf
 cases inB x.upto 1 1000000000 <;> cases inB x.factor 0 1000 <;> cases decide (x.upto≤y.upto) <;> cases decide (x.factor<y.factor) <;> simp <;> intro h <;> simp [h,Hid]
theorem tier_ways0 {ts:List Tier} {k n:Nat} {x:Tier} (hlt:k<n) (HT:tierOk ts k=(inB x.upto 1 1000000000&&inB x.factor 0 1000)):
  (inB x.upto 1 1000000000=true∧inB x.factor 0 1000=true∧Hid (tierOk ts k=true))∨
  (inB x.upto 1 1000000000=false∧Hid ((List.range n).all (tierOk ts)=false))∨
  (inB x.upto 1 1000000000=true∧inB x.factor 0 1000=false∧Hid ((List.range n).all (tierOk ts)=false)):=by
 have hf:tierOk ts k=false→Hid ((List.range n).all (tierOk ts)=false):=fun h=>hide (all_range_false hlt h)
 revert HT hf
 cases inB x.upto 1 1000000000 <;> cases inB x.factor 0 1000 <;> simp <;> intro h <;> simp [h,Hid]
set_option maxHeartbeats 2000000 in
theorem c_isTerms (band percent price:Int) (A:Option Addr) (n c:Nat) (ts:List Tier) (w:World) (hs:SliceOf w 2 Tier.cells A n c ts):
  Calls Tryz.prog 127 #[.agg #[.int .i64 band,.int .i64 percent,.int .i64 price,.slice A n c]] w (Ret (.bool (isTermsB band percent price ts)) w):=by
 have HF:=hide (show isTermsB band percent price ts=(inB band 0 1000000000&&inB percent 0 100&&inB price 0 1000000&&inB n 1 6&&(List.range n).all (tierOk ts)) by rw [isTermsB,hs.1])
 generalize isTermsB band percent price ts=R at HF ⊢
 by_cases hg:inB band 0 1000000000=true∧inB percent 0 100=true∧inB price 0 1000000=true∧inB n 1 6=true
 ·obtain ⟨h1,h2,h3,h4⟩:=hg
  have hn:n≤6:=by simp [inB] at h4; omega
  have HR:=hide (show R=(List.range n).all (tierOk ts) by rw [HF.out]; simp [h1,h2,h3,h4])
  clear HF
  go_enter Tryz.func127,Tryz.ntmps127
  go_wp2_with (go_at_call 164; refine (c_within _ _ _ _).mono ?_; rintro e w' ⟨rfl,rfl⟩)
  go_loopw [2,31] (fun r i wr=>∃k:Nat,k≤n∧r= .bool false∧i= .int .i64 k∧Hid (∀j,j<k→tierOk ts j=true)∧Ext (w.alloc (.cells #[.int .i64 band,.int .i64 percent,.int .i64 price,.slice A n c] 73)) wr) (fun _ i _=>n-(intOf i).toNat)
  case atStart=>exact ⟨0,Nat.zero_le _,rfl,rfl,hide (fun j hj=>absurd hj (by omega)),Ext.refl _⟩
  case round=>
   obtain ⟨k,hk,rfl,rfl,HK,hx⟩:=hrel
   have hxs:=hx.size
   have hz:w.heap.size<wr.heap.size:=by simp at hxs; omega
   clear hxs
   have hbx3:wr.cell? ⟨w.heap.size,3,none⟩=some (.slice A n c):=by rw [hx.cell _ _ (by simp)]; simp
   have hx0:Ext w wr:=hx.box
   by_cases hlt:k<n
   ·have hs':=hs.ext hx0
    obtain ⟨b,off,x,rfl,hb,hxk,hc⟩:=hs'.get hlt
    have hc0:=hc 0 _ rfl
    have hc1:=hc 1 _ rfl
    clear hc
    simp only [Nat.add_zero] at hc0
    by_cases h0:0<k
    ·obtain ⟨y,hyk,hc⟩:=hs'.at_ (k:=k-1) (by omega)
     have hd0:=hc 0 _ rfl
     have hd1:=hc 1 _ rfl
     clear hc
     simp only [Nat.add_zero] at hd0
     have ways:=tier_ways hlt (tierOk_pos h0 hxk hyk)
     clear hxk hyk
     have e1:IntKind.i64.wrap (↑k-1)=(↑k-1):=IntWalk.i64_in _ (by omega)
     have e2:(0:Int)≤ ↑k-1:=by omega
     have e3:((k:Int)-1).toNat=k-1:=by omega
     rcases ways with ⟨g1,g2,g3,g4,HT⟩ | ⟨g1,HT⟩ | ⟨g1,g2,HT⟩ | ⟨g1,g2,g3,HT⟩ | ⟨g1,g2,g3,g4,HT⟩
     ·go_wp2_with (go_at_call 164; refine (c_within _ _ _ _).mono ?_; rintro e w' ⟨rfl,rfl⟩)
      go_quiet ((go_at_call 164; exact quiet_left (c_within _ _ _ _)))
      go_wp2
      go_roundw
      case rel=>exact ⟨k+1,by omega,rfl,by go_num,hide (all_upto HK.out HT.out),(hx.and_alloc _).drewN _⟩
      case measure=>simp [intOf]; omega
     all_goals
      go_wp2_with (go_at_call 164; refine (c_within _ _ _ _).mono ?_; rintro e w' ⟨rfl,rfl⟩)
      go_quiet ((go_at_call 164; exact quiet_left (c_within _ _ _ _)))
      go_wp2
      go_ret
      exact Ret.bool (HR.out.trans HT.out) ((hx0.and_alloc _).drewN _)
    ·have ways:=tier_ways0 hlt (tierOk_zero h0 hxk)
     clear hxk
     have h0':decide (0<k)=false:=by simpa using h0
     rcases ways with ⟨g1,g2,HT⟩ | ⟨g1,HT⟩ | ⟨g1,g2,HT⟩
     ·go_wp2_with (go_at_call 164; refine (c_within _ _ _ _).mono ?_; rintro e w' ⟨rfl,rfl⟩)
      go_quiet ((go_at_call 164; exact quiet_left (c_within _ _ _ _)))
      go_wp2
      go_roundw
      case rel=>exact ⟨k+1,by omega,rfl,by go_num,hide (all_upto HK.out HT.out),(hx.and_alloc _).drewN _⟩
      case measure=>simp [intOf]; omega
     all_goals
      go_wp2_with (go_at_call 164; refine (c_within _ _ _ _).mono ?_; rintro e w' ⟨rfl,rfl⟩)
      go_quiet ((go_at_call 164; exact quiet_left (c_within _ _ _ _)))
      go_wp2
      go_ret
      exact Ret.bool (HR.out.trans HT.out) ((hx0.and_alloc _).drewN _)
   ·go_wp2
    go_ret
    exact Ret.bool (HR.out.trans (all_range_true (fun j hj=>HK.out j (by omega)))) hx0
 ·have hw:inB band 0 1000000000=false∨(inB band 0 1000000000=true∧inB percent 0 100=false)∨(inB band 0 1000000000=true∧inB percent 0 100=true∧inB price 0 1000000=false)∨(inB band 0 1000000000=true∧inB percent 0 100=true∧inB price 0 1000000=true∧inB n 1 6=false):=by
   revert hg; cases inB band 0 1000000000 <;> cases inB percent 0 100 <;> cases inB price 0 1000000 <;> cases inB n 1 6 <;> simp
  have HR:=hide (show R=false by rw [HF.out]; rcases hw with h | h | h | h <;> simp [h])
  clear HF hg
  rcases hw with g1 | ⟨g1,g2⟩ | ⟨g1,g2,g3⟩ | ⟨g1,g2,g3,g4⟩
  all_goals
   go_enter Tryz.func127,Tryz.ntmps127
   go_wp2_with (go_at_call 164; refine (c_within _ _ _ _).mono ?_; rintro e w' ⟨rfl,rfl⟩)
   go_ret
   exact Ret.bool HR.out (Ext.alloc _ _)
end Go.Proofs.YtfkpghdmljjegaaGreat
namespace Go.Proofs.YtfkpghdmljjegaaGreat
open Go.RowKit
theorem tier_len (t:Tier):t.cells.length=2:=rfl
theorem tier_info:(Tryz.prog.info? 70).map (fun i=>(i.zero,i.size,i.bytes))=some (some (.agg #[.int .i64 0,.int .i64 0]),2,16):=by kernel_rfl
end Go.Proofs.YtfkpghdmljjegaaGreat
namespace Go.Proofs.YtfkpghdmljjegaaGreat
open Go.RowKit
theorem SrcAt.kept {w w':World} {a n c base:Nat} {A:Option Addr} (h:SrcAt w a A n c) (hx:Kept base w w') (hb:a<base):SrcAt w' a A n c:=
 let ⟨p,s,hr,r⟩:=h; ⟨p,s,hr.kept hx hb,r⟩
def DrawnTerms (a:Nat) (A:Option Addr) (n c:Nat) (w:World) (e:Ending) (w':World):Prop:=
 ∃(band percent price:Int) (A':Option Addr) (n' c' g:Nat) (ts:List Tier),e= .returned (.agg #[.int .i64 band,.int .i64 percent,.int .i64 price,.slice A' n' c'])∧n'≤c'∧c'≤9223372036854775807∧w.heap.size≤g∧
  OwnS w' g 70 Tier.cells A' n' ts∧SrcAt w' a A n c∧Only a w w'
structure DSt (w0 w:World) (a:Nat) (A:Option Addr) (n c b3:Nat) (x1 x2 x3:Int) (wr:World) (v:Value) (L:List Tier):Prop where
 le0:w0.heap.size≤a
 lt1:a<w.heap.size
 lt2:w.heap.size<b3
 size:b3<wr.heap.size
 ext:Ext w0 wr
 src:SrcAt wr a A n c
 only:Only a w wr
 row2:Row wr w.heap.size 73 [.int .i64 0,.int .i64 0,.int .i64 0,.slice none 0 0]
 row3:Row wr b3 73 [.int .i64 x1,.int .i64 x2,.int .i64 x3,.slice none 0 0]
 own:OwnL wr (b3+1) 70 2 Tier.cells v L
section
variable {w0 w wr wr':World} {a n c b3:Nat} {A:Option Addr} {x1 x2 x3:Int} {v v':Value} {L L':List Tier}
theorem DSt.draw (h:DSt w0 w a A n c b3 x1 x2 x3 wr v L) (ho:Only a wr wr') (hs:SrcAt wr' a A n c):DSt w0 w a A n c b3 x1 x2 x3 wr' v L:=
 ⟨h.le0,h.lt1,h.lt2,Nat.lt_of_lt_of_le h.size ho.size,h.ext.only ho h.le0,hs,h.only.trans ho,h.row2.only ho (by have:=h.lt1; omega),h.row3.only ho (by have:=h.lt1; have:=h.lt2; omega),h.own.only ho (by have:=h.lt1; have:=h.lt2; omega)⟩
theorem DSt.more (h:DSt w0 w a A n c b3 x1 x2 x3 wr v L) (hx:Ext wr wr'):DSt w0 w a A n c b3 x1 x2 x3 wr' v L:=h.draw (Only.of_ext hx a) (h.src.ext hx)
theorem DSt.app (h:DSt w0 w a A n c b3 x1 x2 x3 wr v L) (hx:Kept (b3+1) wr wr') (ho:OwnL wr' (b3+1) 70 2 Tier.cells v' L'):DSt w0 w a A n c b3 x1 x2 x3 wr' v' L':=by
 obtain ⟨l0,l1,l2,sz,ex,sr,on,r2,r3,_⟩:=h
 exact ⟨l0,l1,l2,hx.size,⟨hx.os.trans ex.os,hx.tape.trans ex.tape,hx.output.trans ex.output,by have:=hx.size; omega,fun k hk=>(hx.block k (by omega)).trans (ex.block k hk)⟩,sr.kept hx (by omega),on.kept hx (by omega),r2.kept hx (by omega),r3.kept hx (by omega),ho⟩
theorem DSt.set3 (h:DSt w0 w a A n c b3 x1 x2 x3 wr v L) (i:Nat) (u:Value) {y1 y2 y3:Int} (he:[.int .i64 x1,.int .i64 x2,.int .i64 x3,.slice none 0 0].set i u=[.int .i64 y1,.int .i64 y2,.int .i64 y3,.slice none 0 0]):DSt w0 w a A n c b3 y1 y2 y3 (wr.setCell ⟨b3,i,none⟩ u) v L:=by
 obtain ⟨l0,l1,l2,sz,ex,sr,on,r2,r3,ow⟩:=h
 have ho:Only b3 wr (wr.setCell ⟨b3,i,none⟩ u):=(Only.refl b3 wr).setCell rfl u
 refine ⟨l0,l1,l2,Nat.lt_of_lt_of_le sz ho.size,ex.setCell (p:=⟨b3,i,none⟩) (by show w0.heap.size≤b3; omega) u,sr.only ho (by omega),?_,r2.only ho (by omega),he ▸ r3.set_ i u,ow.only ho (by omega)⟩
 exact ⟨ho.os.trans on.os,ho.tape.trans on.tape,ho.output.trans on.output,Nat.le_trans on.size ho.size,fun k hk hne=>(ho.block k (Nat.lt_of_lt_of_le hk on.size) (by simp; omega)).trans (on.block k hk hne)⟩
theorem draw_fin {A':Option Addr} {n' c' g:Nat} {ts:List Tier} {y1 y2 y3:Int} (l1:a<w.heap.size) (hs:SrcAt wr a A n c) (ho:Only a w wr) (hw:OwnS wr g 70 Tier.cells A' n' ts) (hg:w.heap.size<g) (h1:n'≤c') (h2:c'≤9223372036854775807):
  DrawnTerms a A n c w (.returned (.agg #[.int .i64 y1,.int .i64 y2,.int .i64 y3,.slice A' n' c'])) (putCells wr w.heap.size 0 [.int .i64 y1,.int .i64 y2,.int .i64 y3,.slice A' n' c']):=by
 have hk:Only w.heap.size wr (putCells wr w.heap.size 0 [.int .i64 y1,.int .i64 y2,.int .i64 y3,.slice A' n' c']):=(Only.refl _ _).put _ _
 refine ⟨y1,y2,y3,A',n',c',g,ts,rfl,h1,h2,by omega,hw.only hk (by omega),hs.only hk (by omega),?_⟩
 exact ⟨hk.os.trans ho.os,hk.tape.trans ho.tape,hk.output.trans ho.output,Nat.le_trans ho.size hk.size,fun k hk1 hne=>(hk.block k (Nat.lt_of_lt_of_le hk1 ho.size) (by simp; omega)).trans (ho.block k hk1 hne)⟩
end
theorem OwnS.set01 {w:World} {g:Nat} {t:TypeId} {A:Option Addr} {n:Nat} {p q:Int} {L:List Tier} (h:OwnS w g t Tier.cells A n (⟨p,q⟩::L)) (z:Int):OwnS (w.setCell ⟨g,1,none⟩ (.int .i64 z)) g t Tier.cells A n (⟨p,z⟩::L):=by
 refine ⟨h.1,fun hn=>⟨(h.2 hn).1,?_⟩⟩
 obtain ⟨r,hr⟩:=(h.2 hn).2
 refine ⟨r,?_⟩
 have:=hr.set_ 1 (.int .i64 z)
 simpa [Tier.cells] using this
theorem tier_one (y:Tier):∀u∈Tier.cells y,u.oneCell'=true:=by
 intro u hu
 simp [Tier.cells] at hu
 rcases hu with rfl | rfl <;> rfl
set_option maxHeartbeats 2000000 in
theorem c_l29Draw (a:Nat) (A:Option Addr) (n c:Nat) (bs:List Int) (w0 w:World) (hbs:SliceOf w0 1 byteC A n c bs) (hbd:∀z∈bs,0≤z∧z≤255) (hx0:Ext w0 w) (ha:w0.heap.size≤a) (hsrc:SrcAt w a A n c) (hn:n≤1048576):
  Calls Tryz.prog 131 #[.pointer (some ⟨a,0,none⟩)] w (DrawnTerms a A n c w):=by
 have nxt:=fun (m:Int) (w:World) hx0 hsrc=>c_l01Next a m A n c bs w0 w hbs hbd hx0 ha hsrc hn
 have NX:=hide nxt
 clear nxt
 have hal:=hsrc.lt
 go_enter Tryz.func131,Tryz.ntmps131
 go_wp2_with fail
 refine (NX.out 20 _ (hx0.and_alloc _) (hsrc.ext (Ext.alloc _ _)) (by omega) (by omega)).mono ?_
 rintro e w1 ⟨x1,rfl,hx1,hx2,hs1,ho1⟩
 have hE1:=(hx0.and_alloc _).only ho1 ha
 go_wp2_with fail
 refine (NX.out 12 _ hE1 hs1 (by omega) (by omega)).mono ?_
 rintro e w2 ⟨x2,rfl,hx3,hx4,hs2,ho2⟩
 have hE2:=hE1.only ho2 ha
 go_wp2_with fail
 refine (NX.out 60 _ hE2 hs2 (by omega) (by omega)).mono ?_
 rintro e w3 ⟨x3,rfl,hx5,hx6,hs3,ho3⟩
 have hE3:=hE2.only ho3 ha
 go_wp2_with fail
 have hR2:=((Row.new w 73 [.int .i64 0,.int .i64 0,.int .i64 0,.slice none 0 0]).only ho1 (by omega)).only ho2 (by omega) |>.only ho3 (by omega)
 have hO3:=((((Only.of_ext (Ext.alloc w _) a).trans ho1).trans ho2).trans ho3)
 have hsz3:=hR2.lt
 have hD:DSt w0 w a A n c w3.heap.size x1 x2 x3 ((w3.alloc (.cells #[.int .i64 x1,.int .i64 x2,.int .i64 x3,.slice none 0 0] 73)).alloc (.cells #[] 70)) (.slice (some ⟨w3.heap.size+1,0,none⟩) 0 0) []:=by
  refine ⟨ha,hal,hsz3,by simp; omega,(hE3.and_alloc _).and_alloc _,(hs3.ext (Ext.alloc _ _)).ext (Ext.alloc _ _),(hO3.trans (Only.of_ext (Ext.alloc _ _) _)).trans (Only.of_ext (Ext.alloc _ _) _),(hR2.alloc _).alloc _,(Row.new w3 _ _).alloc _,?_⟩
  have:=OwnL.empty (w3.alloc (.cells #[.int .i64 x1,.int .i64 x2,.int .i64 x3,.slice none 0 0] 73)) (w3.heap.size+1) 70 2 Tier.cells (by simp)
  simpa using this
 refine (NX.out 4 _ hD.ext hD.src (by omega) (by omega)).mono ?_
 rintro e w4 ⟨x4,rfl,hx7,hx8,hs4,ho4⟩
 have hD4:=hD.draw ho4 hs4
 clear hD hO3 hR2 ho1 ho2 ho3 ho4 hs1 hs2 hs3 hs4 hE1 hE2 hE3
 go_wp2_with fail
 go_loopw [4,5,6,7] (fun v u f k wr=>∃(k':Nat) (U F:Int) (L:List Tier),k'≤4∧k= .int .i64 k'∧u= .int .i64 U∧f= .int .i64 F∧0≤U∧U≤20*(4-(k':Int))∧0≤F∧F≤80*(4-(k':Int))∧L.length+k'≤4∧(k'=0→L≠[])∧DSt w0 w a A n c w3.heap.size x1 x2 x3 wr v L) (fun _ _ _ k _=>(intOf k).toNat)
 case atStart=>
  refine ⟨(1+x4).toNat,0,0,[],by omega,?_,rfl,rfl,by omega,by omega,by omega,by omega,by simp; omega,by omega,hD4⟩
  rw [Int.toNat_of_nonneg (by omega)]
 case round=>
  obtain ⟨k',U,F,L,hk,rfl,rfl,rfl,hU0,hU1,hF0,hF1,hL1,hL2,hD⟩:=hrel
  clear hD4
  by_cases hlt:0<k'
  ·have hlt':decide ((0:Int)<(k':Int))=true:=by simpa using hlt
   go_wp2_with fail
   refine (NX.out 20 _ hD.ext hD.src (by omega) (by omega)).mono ?_
   rintro e w5 ⟨x5,rfl,hx9,hx10,hs5,ho5⟩
   have hD5:=hD.draw ho5 hs5
   clear hD ho5 hs5
   go_wp2_with fail
   refine (NX.out 80 _ hD5.ext hD5.src (by omega) (by omega)).mono ?_
   rintro e w6 ⟨x6,rfl,hx11,hx12,hs6,ho6⟩
   have hD6:=hD5.draw ho6 hs6
   clear hD5 ho6 hs6
   have hsz6:=hD6.size
   have hD7:=hD6.more (Ext.alloc w6 (.cells #[.int .i64 (U+1+x5),.int .i64 (F+x6)] 70))
   go_wp2_with (at_builtin; refine wpList_append_one rfl _ _ 71 rfl (w3.heap.size+1) 70 _ 2 16 Tryz.underlying71 tier_info rfl (by decide) Tier.cells tier_len tier_one _ _ rfl (hD7.own) w6 ⟨U+1+x5,F+x6⟩ rfl _ rfl (by simp) (by omega) (by omega) (by first | omega | (simp; omega)) ?_)
   intro v1 w8 hown2 hext2
   have hD8:=hD7.app (kept_append (by simp; omega) hext2) hown2
   clear hD6 hD7 hown2 hext2
   go_wp2_with fail
   go_roundw
   case rel=>
    exact ⟨k'-1,_,_,_,by omega,by go_num,rfl,rfl,by omega,by omega,by omega,by omega,by simp; omega,by simp,hD8⟩
   case measure=>simp [intOf]; omega
  ·have hk0:k'=0:=by omega
   subst hk0
   go_wp2_with fail
   refine (NX.out 24 _ hD.ext hD.src (by omega) (by omega)).mono ?_
   rintro e w5 ⟨x5,rfl,hx9,hx10,hs5,ho5⟩
   have hD5:=hD.draw ho5 hs5
   clear hD ho5 hs5 hU0 hU1 hF0 hF1 hx7 hx8
   have hL0:L≠[]:=hL2 trivial
   have hlen:0<L.length:=by cases L with | nil=>exact absurd rfl hL0 | cons=>simp
   obtain ⟨A',c',g,rfl,hg,hnc,hcm,hown⟩:=hD5.own.own tier_len (by omega)
   have hsz5:=hD5.size
   have hxw:x5=0∨x5=1∨x5=2∨x5=3∨x5=4∨((x5==0)=false∧(x5==1)=false∧(x5==2)=false∧(x5==3)=false∧(x5==4)=false):=by
    simp; omega
   rcases hxw with rfl | rfl | rfl | rfl | rfl | ⟨q0,q1,q2,q3,q4⟩
   case' inr.inr.inr.inr.inr=>
    have c20:=hD5.row2.cell 0
    have c21:=hD5.row2.cell 1
    have c22:=hD5.row2.cell 2
    have c23:=hD5.row2.cell 3
    have c30:=hD5.row3.cell 0
    have c31:=hD5.row3.cell 1
    have c32:=hD5.row3.cell 2
    have f20:=hD5.row2.frozen 0
    have f21:=hD5.row2.frozen 1
    have f22:=hD5.row2.frozen 2
    have f23:=hD5.row2.frozen 3
    simp at c20 c21 c22 c23 c30 c31 c32
    go_wp2_with fail
    refine bodyPost_ret (v:= .agg #[.int .i64 x1,.int .i64 x2,.int .i64 x3,.slice A' L.length c']) (by simp [results,Tryz.results131,go_sem,c20,c21,c22,c23]) rfl ?_
    exact draw_fin hal hD5.src hD5.only hown (by omega) hnc hcm
   case' inl=>
    have hD6:=hD5.more (Ext.alloc w5 (.cells #[.int .i64 (-1),.int .i64 100,.int .i64 101] 2))
    go_wp2_with fail
    refine (NX.out 3 _ hD6.ext hD6.src (by omega) (by omega)).mono ?_
    rintro e w6 ⟨y,rfl,hy1,hy2,hs6,ho6⟩
    have hD7:=hD6.draw ho6 hs6
    have hR6:=(Row.new w5 2 [.int .i64 (-1),.int .i64 100,.int .i64 101]).only ho6 (by omega)
    obtain ⟨j,rfl⟩:=Int.eq_ofNat_of_zero_le hy1
    have hj:j<3:=by omega
    obtain ⟨z,hz⟩:∃z,w6.cell? ⟨w5.heap.size,j,none⟩=some (.int .i64 z):=by
     rw [hR6.cell]; rcases (show j=0∨j=1∨j=2 by omega) with rfl | rfl | rfl <;> exact ⟨_,rfl⟩
    have hown7:=(hown.ext (Ext.alloc w5 _)).only ho6 (by omega)
    have c20:=hD7.row2.cell 0
    have c21:=hD7.row2.cell 1
    have c22:=hD7.row2.cell 2
    have c23:=hD7.row2.cell 3
    have c30:=hD7.row3.cell 0
    have c31:=hD7.row3.cell 1
    have c32:=hD7.row3.cell 2
    have f20:=hD7.row2.frozen 0
    have f21:=hD7.row2.frozen 1
    have f22:=hD7.row2.frozen 2
    have f23:=hD7.row2.frozen 3
    simp at c20 c21 c22 c23 c30 c31 c32
    have f3i:=hD7.row3.frozen 1
    have hD8:=hD7.set3 1 (.int .i64 z) rfl
    have hb6:=hR6.lt
    clear hR6 ho6 hD6 hs6
    go_wp2_with fail
    refine bodyPost_ret (v:= .agg #[.int .i64 x1,.int .i64 z,.int .i64 x3,.slice A' L.length c']) (by simp [results,Tryz.results131,go_sem,c20,c21,c22,c23]) rfl ?_
    exact draw_fin hal hD8.src hD8.only (hown7.only ((Only.refl w3.heap.size _).setCell rfl _) (by omega)) (by omega) hnc hcm
   case' inr.inr.inr.inl=>
    have hD6:=hD5.more (Ext.alloc w5 (.cells #[.int .i64 (-1),.int .i64 1000000,.int .i64 1000001] 2))
    go_wp2_with fail
    refine (NX.out 3 _ hD6.ext hD6.src (by omega) (by omega)).mono ?_
    rintro e w6 ⟨y,rfl,hy1,hy2,hs6,ho6⟩
    have hD7:=hD6.draw ho6 hs6
    have hR6:=(Row.new w5 2 [.int .i64 (-1),.int .i64 1000000,.int .i64 1000001]).only ho6 (by omega)
    obtain ⟨j,rfl⟩:=Int.eq_ofNat_of_zero_le hy1
    have hj:j<3:=by omega
    obtain ⟨z,hz⟩:∃z,w6.cell? ⟨w5.heap.size,j,none⟩=some (.int .i64 z):=by
     rw [hR6.cell]; rcases (show j=0∨j=1∨j=2 by omega) with rfl | rfl | rfl <;> exact ⟨_,rfl⟩
    have hown7:=(hown.ext (Ext.alloc w5 _)).only ho6 (by omega)
    have c20:=hD7.row2.cell 0
    have c21:=hD7.row2.cell 1
    have c22:=hD7.row2.cell 2
    have c23:=hD7.row2.cell 3
    have c30:=hD7.row3.cell 0
    have c31:=hD7.row3.cell 1
    have c32:=hD7.row3.cell 2
    have f20:=hD7.row2.frozen 0
    have f21:=hD7.row2.frozen 1
    have f22:=hD7.row2.frozen 2
    have f23:=hD7.row2.frozen 3
    simp at c20 c21 c22 c23 c30 c31 c32
    have f3i:=hD7.row3.frozen 2
    have hD8:=hD7.set3 2 (.int .i64 z) rfl
    have hb6:=hR6.lt
    clear hR6 ho6 hD6 hs6
    go_wp2_with fail
    refine bodyPost_ret (v:= .agg #[.int .i64 x1,.int .i64 x2,.int .i64 z,.slice A' L.length c']) (by simp [results,Tryz.results131,go_sem,c20,c21,c22,c23]) rfl ?_
    exact draw_fin hal hD8.src hD8.only (hown7.only ((Only.refl w3.heap.size _).setCell rfl _) (by omega)) (by omega) hnc hcm
   case' inr.inr.inr.inr.inl=>
    have hD6:=hD5.more (Ext.alloc w5 (.cells #[.int .i64 (-1),.int .i64 1000000000,.int .i64 1000000001] 2))
    go_wp2_with fail
    refine (NX.out 3 _ hD6.ext hD6.src (by omega) (by omega)).mono ?_
    rintro e w6 ⟨y,rfl,hy1,hy2,hs6,ho6⟩
    have hD7:=hD6.draw ho6 hs6
    have hR6:=(Row.new w5 2 [.int .i64 (-1),.int .i64 1000000000,.int .i64 1000000001]).only ho6 (by omega)
    obtain ⟨j,rfl⟩:=Int.eq_ofNat_of_zero_le hy1
    have hj:j<3:=by omega
    obtain ⟨z,hz⟩:∃z,w6.cell? ⟨w5.heap.size,j,none⟩=some (.int .i64 z):=by
     rw [hR6.cell]; rcases (show j=0∨j=1∨j=2 by omega) with rfl | rfl | rfl <;> exact ⟨_,rfl⟩
    have hown7:=(hown.ext (Ext.alloc w5 _)).only ho6 (by omega)
    have c20:=hD7.row2.cell 0
    have c21:=hD7.row2.cell 1
    have c22:=hD7.row2.cell 2
    have c23:=hD7.row2.cell 3
    have c30:=hD7.row3.cell 0
    have c31:=hD7.row3.cell 1
    have c32:=hD7.row3.cell 2
    have f20:=hD7.row2.frozen 0
    have f21:=hD7.row2.frozen 1
    have f22:=hD7.row2.frozen 2
    have f23:=hD7.row2.frozen 3
    simp at c20 c21 c22 c23 c30 c31 c32
    have f3i:=hD7.row3.frozen 0
    have hD8:=hD7.set3 0 (.int .i64 z) rfl
    have hb6:=hR6.lt
    clear hR6 ho6 hD6 hs6
    go_wp2_with fail
    refine bodyPost_ret (v:= .agg #[.int .i64 z,.int .i64 x2,.int .i64 x3,.slice A' L.length c']) (by simp [results,Tryz.results131,go_sem,c20,c21,c22,c23]) rfl ?_
    exact draw_fin hal hD8.src hD8.only (hown7.only ((Only.refl w3.heap.size _).setCell rfl _) (by omega)) (by omega) hnc hcm
   case' inr.inl=>
    obtain ⟨⟨p,q⟩,L,rfl⟩:=List.exists_cons_of_ne_nil hL0
    obtain ⟨rfl,r,hr⟩:=hown.2 hlen
    have hD6:=hD5.more (Ext.alloc w5 (.cells #[.int .i64 (-1),.int .i64 1000,.int .i64 1001] 2))
    go_wp2_with fail
    refine (NX.out 3 _ hD6.ext hD6.src (by omega) (by omega)).mono ?_
    rintro e w6 ⟨y,rfl,hy1,hy2,hs6,ho6⟩
    have hD7:=hD6.draw ho6 hs6
    have hR6:=(Row.new w5 2 [.int .i64 (-1),.int .i64 1000,.int .i64 1001]).only ho6 (by omega)
    obtain ⟨j,rfl⟩:=Int.eq_ofNat_of_zero_le hy1
    have hj:j<3:=by omega
    obtain ⟨z,hz⟩:∃z,w6.cell? ⟨w5.heap.size,j,none⟩=some (.int .i64 z):=by
     rw [hR6.cell]; rcases (show j=0∨j=1∨j=2 by omega) with rfl | rfl | rfl <;> exact ⟨_,rfl⟩
    have hown7:=(hown.ext (Ext.alloc w5 _)).only ho6 (by omega)
    obtain ⟨u1,hu1⟩:=hown7.there tier_len hlen (j:=1) (by omega)
    simp at hu1
    have f1:=hown7.frozen hlen 1
    have c20:=hD7.row2.cell 0
    have c21:=hD7.row2.cell 1
    have c22:=hD7.row2.cell 2
    have c23:=hD7.row2.cell 3
    have c30:=hD7.row3.cell 0
    have c31:=hD7.row3.cell 1
    have c32:=hD7.row3.cell 2
    have f20:=hD7.row2.frozen 0
    have f21:=hD7.row2.frozen 1
    have f22:=hD7.row2.frozen 2
    have f23:=hD7.row2.frozen 3
    simp at c20 c21 c22 c23 c30 c31 c32
    have hb6:=hR6.lt
    have hgl:=hown7.lt hlen
    have hown8:=hown7.set01 z
    have hsr:=hD7.src.only ((Only.refl g w6).setCell (p:=⟨g,1,none⟩) rfl (.int .i64 z)) (by omega)
    have hk:Only g w6 (w6.setCell ⟨g,1,none⟩ (.int .i64 z)):=(Only.refl g w6).setCell rfl _
    have hon:Only a w (w6.setCell ⟨g,1,none⟩ (.int .i64 z)):=⟨hk.os.trans hD7.only.os,hk.tape.trans hD7.only.tape,hk.output.trans hD7.only.output,Nat.le_trans hD7.only.size hk.size,fun k hk1 hne=>(hk.block k (Nat.lt_of_lt_of_le hk1 hD7.only.size) (by simp; omega)).trans (hD7.only.block k hk1 hne)⟩
    clear hR6 ho6 hD6 hs6 hk hr
    go_wp2_with fail
    refine bodyPost_ret (v:= .agg #[.int .i64 x1,.int .i64 x2,.int .i64 x3,.slice (some ⟨g,0,none⟩) (Tier.mk p q::L).length c']) (by simp [results,Tryz.results131,go_sem,c20,c21,c22,c23]) rfl ?_
    exact draw_fin hal hsr hon hown8 (by omega) hnc hcm
   case' inr.inr.inl=>
    obtain ⟨⟨p,q⟩,L,rfl⟩:=List.exists_cons_of_ne_nil hL0
    obtain ⟨rfl,r,hr⟩:=hown.2 hlen
    have k0:=hr.cell 0
    have k1:=hr.cell 1
    simp [Tier.cells] at k0 k1
    have hD6:=hD5.more (Ext.alloc w5 (.cells #[.int .i64 p,.int .i64 q] 70))
    clear hr hown
    go_wp2_with (at_builtin; refine wpList_append_one rfl _ _ 71 rfl (w3.heap.size+1) 70 _ 2 16 Tryz.underlying71 tier_info rfl (by decide) Tier.cells tier_len tier_one _ _ rfl (hD6.own) w5 ⟨p,q⟩ rfl _ rfl (by simp) (by omega) (by omega) (by first | omega | (simp; omega)) ?_)
    intro v1 w8 hown2 hext2
    have hD8:=hD6.app (kept_append (by simp; omega) hext2) hown2
    clear hD6 hown2 hext2
    generalize hLL:((⟨p,q⟩:Tier)::(L++[⟨p,q⟩]))=LL at hD8
    clear hLL
    obtain ⟨A2,c2,g2,rfl,hg2,hnc2,hcm2,hown8⟩:=hD8.own.own tier_len (by omega)
    have c20:=hD8.row2.cell 0
    have c21:=hD8.row2.cell 1
    have c22:=hD8.row2.cell 2
    have c23:=hD8.row2.cell 3
    have c30:=hD8.row3.cell 0
    have c31:=hD8.row3.cell 1
    have c32:=hD8.row3.cell 2
    have f20:=hD8.row2.frozen 0
    have f21:=hD8.row2.frozen 1
    have f22:=hD8.row2.frozen 2
    have f23:=hD8.row2.frozen 3
    simp at c20 c21 c22 c23 c30 c31 c32
    go_wp2_with fail
    refine bodyPost_ret (v:= .agg #[.int .i64 x1,.int .i64 x2,.int .i64 x3,.slice A2 LL.length c2]) (by simp [results,Tryz.results131,go_sem,c20,c21,c22,c23]) rfl ?_
    exact draw_fin hal hD8.src hD8.only hown8 (by omega) hnc2 hcm2
 done
end Go.Proofs.YtfkpghdmljjegaaGreat
