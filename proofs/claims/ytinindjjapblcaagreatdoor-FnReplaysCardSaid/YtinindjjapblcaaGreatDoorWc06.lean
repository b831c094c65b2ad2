/-
  The laws' dice: roll and below.
-/
import Derived.Test.YtinindjjapblcaaGreatDoorWa00
import Derived.Test.YtinindjjapblcaaGreatDoorWa17
import Derived.Test.YtinindjjapblcaaGreatDoorWa18
namespace Go.Proofs.YtinindjjapblcaaGreatDoor
open Go.RowKit
theorem and24 (x:Int):0≤bits .and .u64 x 16777215∧bits .and .u64 x 16777215≤16777215:=by
 have h:(BitVec.ofInt 64 x &&& BitVec.ofInt 64 16777215).toNat≤16777215:=by
  rw [BitVec.toNat_and]
  exact Nat.le_trans Nat.and_le_right (by decide)
 have e:bits .and .u64 x 16777215=((BitVec.ofInt 64 x &&& BitVec.ofInt 64 16777215).toNat:Int):=by
  show IntKind.u64.wrap ((BitVec.ofInt 64 x &&& BitVec.ofInt 64 16777215).toNat:Int)=_
  exact IntWalk.u64_in _ (by omega)
 rw [e]; omega
def DiceAt (w:World) (g:Nat) (A:Option Addr) (n c:Nat):Prop:=∃h:Int,Row w g 107 [.slice A n c,.int .i64 0,.int .u64 h]
def NewDice (A:Option Addr) (n c:Nat) (w:World) (e:Ending) (w':World):Prop:=
 ∃g,e= .returned (.pointer (some ⟨g,0,none⟩))∧w.heap.size≤g∧DiceAt w' g A n c∧Ext w w'
set_option maxHeartbeats 1000000 in
theorem c_roll (A:Option Addr) (n c:Nat) (seed:Int) (bs:List Int) (w:World) (hbs:SliceOf w 1 byteC A n c bs):
  Calls Tryz.prog 18 #[.slice A n c,.int .u64 seed] w (NewDice A n c w):=by
 have hm:=hbs.max
 have hcap:=hbs.cap
 have hR0:=fun h:Int=>Row.new w 107 [.slice A n c,.int .i64 0,.int .u64 h]
 have HR0:=hide hR0
 clear hR0
 go_enter Tryz.func18,Tryz.ntmps18
 go_wp2_with fail
 go_loopw [6] (fun i wr=>∃(k:Nat) (h:Int),k≤n∧i= .int .i64 k∧Row wr w.heap.size 107 [.slice A n c,.int .i64 0,.int .u64 h]∧Ext w wr) (fun i _=>n-(intOf i).toNat)
 case atStart=>exact ⟨0,_,Nat.zero_le _,rfl,HR0.out _,Ext.alloc _ _⟩
 case round=>
  obtain ⟨k,h,hk,rfl,hrow,hx⟩:=hrel
  have hgs:=hrow.lt
  by_cases hlt:k<n
  ·obtain ⟨b,off,z,rfl,hb,hzk,hc⟩:=hbs.get hlt
   have hz:wr.cell? ⟨b,off+k,none⟩=some (.int .u8 z):=by
    rw [hx.cell _ _ hb]; simpa using hc 0 _ rfl
   have c2:=hrow.cell 2
   simp at c2
   have f2:=hrow.frozen 2
   have hrow2:=fun h':Int=>hrow.set_ 2 (.int .u64 h')
   simp at hrow2
   have HR2:=hide hrow2
   clear hc hzk hrow2
   go_wp2_with fail
   refine wp_region_tail 15 (by kernel_rfl) (by kernel_rfl) ?_
   simp only [List.take_succ_cons,List.take_zero,List.drop_succ_cons,List.drop_zero]
   repeat (go_big_quiet_step (fail))
   refine wpQuiet_nil ?_
   go_wp2_with fail
   go_round
   case rel=>
    refine ⟨k+1,_,by omega,by go_num,HR2.out _,?_⟩
    exact Ext.setCell (Ext.drewN hx _) (Nat.le_refl _) _
   case measure=>simp [intOf]; omega
  ·go_wp2_with fail
   go_ret
   exact ⟨_,rfl,Nat.le_refl _,⟨h,hrow⟩,hx⟩
set_option maxHeartbeats 1000000 in
theorem c_below (g:Nat) (m:Int) (A:Option Addr) (n c:Nat) (bs:List Int) (w0 w:World) (hbs:SliceOf w0 1 byteC A n c bs) (hbd:∀z∈bs,0≤z∧z≤255) (hx0:Ext w0 w) (ha:w0.heap.size≤g) (hd:DiceAt w g A n c) (hm1:1≤m) (hm2:m≤9000000000000000000):
  Calls Tryz.prog 19 #[.pointer (some ⟨g,0,none⟩),.int .i64 m] w (fun e w'=>∃x:Int,e= .returned (.int .i64 x)∧0≤x∧x<m∧Ext w0 w'):=by
 obtain ⟨h,hrow⟩:=hd
 have c0:=hrow.cell 0
 have c1:=hrow.cell 1
 have c2:=hrow.cell 2
 simp at c0 c1 c2
 have f1:=hrow.frozen 1
 have f2:=hrow.frozen 2
 have hgl:=hrow.lt
 have hncap:=hbs.cap
 have hcm:=hbs.max
 have HA:=hide and24
 have hmod:∀x:Int,0≤x % m∧x % m<m:=fun x=>⟨Int.emod_nonneg _ (by omega),Int.emod_lt_of_pos _ (by omega)⟩
 have HM:=hide hmod
 clear hmod
 by_cases hlt:0<n
 ·obtain ⟨b,off,z,rfl,hb,hzk,hc⟩:=hbs.get hlt
  have hz:w.cell? ⟨b,off,none⟩=some (.int .u8 z):=by
   rw [hx0.cell _ _ hb]; simpa using hc 0 _ rfl
  obtain ⟨hz0,hz1⟩:=hbd z (List.mem_of_getElem? hzk)
  have hba:b≠g:=by omega
  have hbl:b<w.heap.size:=by have:=hx0.size; omega
  have e1:IntKind.i64.wrap z=z:=IntWalk.i64_in _ (by omega)
  clear hc hzk hbd
  go_enter Tryz.func19,Tryz.ntmps19
  go_wp2_with fail
  generalize hX:bits BinOp.and IntKind.u64 _ 16777215=x at *
  have hx:0≤x∧x≤16777215:=by rw [←hX]; exact HA.out _
  have e3:IntKind.i64.wrap x=x:=IntWalk.i64_in _ (by omega)
  have e4:wrap64 x=x:=IntWalk.wrap64_in _ (by omega)
  rw [e4]
  clear hX e4
  generalize IntKind.u64.wrap _=u
  have e5:IntKind.i64.wrap (x+z)=x+z:=IntWalk.i64_in _ (by omega)
  obtain ⟨r0,r1⟩:=HM.out (x+z)
  go_quiet (fail)
  go_wp2_with fail
  go_quiet (fail)
  go_wp2_with fail
  go_ret
  exact ⟨_,rfl,r0,r1,((hx0.setCell (p:=⟨g,2,none⟩) ha _).drewN _).setCell (p:=⟨g,1,none⟩) ha _⟩
 ·go_enter Tryz.func19,Tryz.ntmps19
  go_wp2_with fail
  generalize hX:bits BinOp.and IntKind.u64 _ 16777215=x at *
  have hx:0≤x∧x≤16777215:=by rw [←hX]; exact HA.out _
  have e4:wrap64 x=x:=IntWalk.wrap64_in _ (by omega)
  rw [e4]
  clear hX e4
  generalize IntKind.u64.wrap _=u
  obtain ⟨r0,r1⟩:=HM.out x
  go_quiet (fail)
  go_wp2_with fail
  go_ret
  exact ⟨_,rfl,r0,r1,(hx0.setCell (p:=⟨g,2,none⟩) ha _).drewN _⟩
end Go.Proofs.YtinindjjapblcaaGreatDoor
namespace Go.Proofs.YtinindjjapblcaaGreatDoor
open Go.RowKit Go.ChangeShapes Go.WideShapes Go.ChangeAt Go.Deep Go.Joins
set_option maxRecDepth 100000 in
theorem open_bytes {H:Type} {enc:TypeId×Value→H} {w:World} {base b0:Nat} {spare:Nat→Bool} {held:Bool} {r:Reach} {v:Value} {d:DataW H} {p:List MemPlace}
  (hv:Value.okWide Tryz.prog w r b0 22 v) (h:DataW.Trod enc Tryz.prog w base spare held 22 v d p):
  ∃(A:Option Addr) (n c:Nat) (bs:List Int),v= .slice A n c∧SliceOf w 1 byteC A n c bs∧∀z∈bs,0≤z∧z≤255:=by
 obtain ⟨a0,len,cap,rfl⟩:=okWide_slice Tryz.underlying22 hv
 obtain ⟨fuel,hf⟩:=h
 obtain ⟨A,n,c,zs,e,hl,hs⟩:=open_nums Tryz.underlying22 Tryz.underlying5 (by kernel_rfl) hf
 refine ⟨A,n,c,zs,e,hs,fun z hz=> ?_⟩
 have:=hl z hz
 simp [Lit.wf,IntKind.min,IntKind.max,IntKind.signed,IntKind.bits] at this
 omega
set_option maxRecDepth 100000 in
theorem c_big (A:Option Addr) (n c:Nat) (w:World):Calls Tryz.prog 6 #[.slice A n c] w fun e w'=>e= .returned (.bool (decide ((4096:Int)<n)))∧w=w':=by
 go_enter Tryz.func6,Tryz.ntmps6
 go_wp2_with fail
 go_ret
 exact ⟨rfl,rfl⟩
end Go.Proofs.YtinindjjapblcaaGreatDoor
