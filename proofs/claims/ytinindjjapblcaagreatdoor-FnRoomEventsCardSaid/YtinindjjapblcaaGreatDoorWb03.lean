/-
  strings.Builder at this program: copyCheck and WriteString (turned from the shelf's worked walks).
-/
import Derived.Test.YtinindjjapblcaaGreatDoorWa35
import Derived.Test.YtinindjjapblcaaGreatDoorWa34
import Derived.Laws.Externs
import Derived.Test.YtinindjjapblcaaGreatDoorWb00
namespace Go.Proofs.YtinindjjapblcaaGreatDoor
open Go.RowKit
open Go.Lib hiding intOf
theorem b_size:(Tryz.prog.info? 89).map (·.size)=some 2:=by kernel_rfl
theorem b_lies:liesAt Tryz.prog Tryz.prog.depth 89 (2/Tryz.prog.cellsOf 89) 0 89 1=true:=by kernel_rfl
set_option maxHeartbeats 1000000 in
set_option maxRecDepth 100000 in
theorem c_copyCheck_used (b:Nat) (w:World) (h0:w.cell? ⟨b,0,none⟩=some (.pointer (some ⟨b,0,none⟩))):
  Calls Tryz.prog 102 #[.pointer (some ⟨b,0,none⟩)] w fun e w'=>e= .returned (.tuple #[])∧w'=w:=by
 obtain ⟨j,hj,_⟩:=Option.map_eq_some_iff.1 b_size
 go_enter Tryz.func102,Tryz.ntmps102
 go_wp2
 rw [Lib.run_neq_ptr_same w _ Tryz.underlying87 hj]
 go_wp2
 go_end0
 exact ⟨rfl,rfl⟩
set_option maxHeartbeats 1000000 in
set_option maxRecDepth 100000 in
theorem c_copyCheck_fresh (b:Nat) (w:World) (h0:w.cell? ⟨b,0,none⟩=some (.pointer none)) (hsh:w.shape? b=some (89,2)) (hfz:w.frozen? ⟨b,0,none⟩=false):
  Calls Tryz.prog 102 #[.pointer (some ⟨b,0,none⟩)] w fun e w'=>e= .returned (.tuple #[])∧w'=w.setCell ⟨b,0,none⟩ (.pointer (some ⟨b,0,none⟩)):=by
 obtain ⟨j,hj,hjs⟩:=Option.map_eq_some_iff.1 b_size
 go_enter Tryz.func102,Tryz.ntmps102
 go_wp2
 rw [Lib.run_to_unsafe w ⟨b,0,none⟩ Tryz.underlying87 Tryz.underlying186 hj (by rw [hjs]; decide) hsh (Nat.zero_lt_succ 1)]
 simp only [Result.andThen]
 rw [Oper.upon_value]
 go_wp2
 rw [run_callFunc_extern Tryz.func147 (by kernel_rfl) (by kernel_rfl) (by kernel_rfl) (e:=Extern.AbiNoEscape.same) (by kernel_rfl)]
 rw [Lib.run_noEscape]
 simp only [Result.andThen]
 rw [Oper.upon_value]
 go_wp2
 rw [Lib.run_from_unsafe w ⟨b,0,none⟩ Tryz.underlying186 Tryz.underlying87 hj hsh b_lies]
 simp only [Result.andThen]
 rw [Oper.upon_value]
 go_wp2
 go_end0
 exact ⟨rfl,rfl⟩
theorem c_copyCheck (B b:Nat) (bs:List Value) (w:World) (h:IsBuilder 89 5 B b bs w):
  Calls Tryz.prog 102 #[.pointer (some ⟨b,0,none⟩)] w fun e w'=>e= .returned (.tuple #[])∧(BuilderAt 89 5 B b (.pointer (some ⟨b,0,none⟩)) bs w'∧Below B w w'):=by
 rcases h with h | h
 ·refine (c_copyCheck_fresh b w h.cell0 h.shape h.frozen0).mono ?_
  rintro e w' ⟨rfl,rfl⟩
  exact ⟨rfl,h.used _,(Below.refl B w).setCell (p:=⟨b,0,none⟩) h.1 _⟩
 ·refine (c_copyCheck_used b w h.cell0).mono ?_
  rintro e w' ⟨rfl,rfl⟩
  exact ⟨rfl,h,Below.refl B _⟩
set_option maxHeartbeats 1000000 in
set_option maxRecDepth 100000 in
theorem c_WriteString (B b:Nat) (bs:List Value) (s:ByteArray) (w:World) (h:IsBuilder 89 5 B b bs w) (hlen:bs.length+s.size≤140737488355328) (hBw:B≤w.heap.size):
  Calls Tryz.prog 51 #[.pointer (some ⟨b,0,none⟩),.string s] w fun e w'=>e= .returned (.tuple #[.int .i64 s.size,.nilIface])∧(BuilderAt 89 5 B b (.pointer (some ⟨b,0,none⟩)) (bs++strCells s) w'∧Below B w w'):=by
 obtain ⟨i0,hi,hz0,hz1,hz2⟩:=info_parts byte_info
 go_enter Tryz.func51,Tryz.ntmps51
 go_wp2_with fail
 refine (c_copyCheck B b bs _ h).mono ?_
 rintro e w1 ⟨rfl,h1,hb1⟩
 obtain ⟨hB,v,hbk,hown,hne⟩:=h1
 have c0:w1.cell? ⟨b,0,none⟩=some (.pointer (some ⟨b,0,none⟩)):=by rw [Lib.cell_of_heap hbk]; rfl
 have c1:w1.cell? ⟨b,1,none⟩=some v:=by rw [Lib.cell_of_heap hbk]; rfl
 go_wp2_with (at_builtin; refine Lib.wpList_append_own_string _ rfl _ _ 22 9 rfl B 5 i0 Tryz.underlying22 Tryz.underlying9 hi hz0 hz1 hz2 _ _ _ rfl hown s rfl ?c3 ?c4 ?c5 ?_)
 case c3=>unfold maxLen; omega
 case c4=>omega
 case c5=>have:=hb1.size; omega
 intro v' w2 hown' hgrow _
 have hlt:b<w1.heap.size:=by
  rcases Nat.lt_or_ge b w1.heap.size with h' | h'
  ·exact h'
  ·simp [Array.getElem?_eq_none h'] at hbk
 have hb2:w2.heap[b]? =some (.cells #[.pointer (some ⟨b,0,none⟩),v] 89 (0,0)):=by
  rw [hgrow.block b hlt (fun e=>hne e.symm)]
  exact hbk
 have d0:w2.cell? ⟨b,0,none⟩=some (.pointer (some ⟨b,0,none⟩)):=by rw [Lib.cell_of_heap hb2]; rfl
 have d1:w2.cell? ⟨b,1,none⟩=some v:=by rw [Lib.cell_of_heap hb2]; rfl
 have f1:w2.frozen? ⟨b,1,none⟩=false:=Lib.frozen_of_heap hb2 1
 obtain ⟨ao,n',cap,rfl⟩:∃ao n' cap,v'= .slice ao n' cap:=by
  rcases hown'.2 with ⟨hv,_⟩ | ⟨g,cap,cur,hv,_⟩
  ·exact ⟨_,_,_,hv⟩
  ·exact ⟨_,_,_,hv⟩
 go_wp2
 go_ret2
 refine ⟨rfl,?_,?_⟩
 ·exact Lib.BuilderAt.put (T:=89) (e:=5) hB hb2 (bs':=bs++Lib.strCells s) (by simpa [Lib.strCells_length] using hown') (by decide)
 ·exact (hb1.grown hgrow (by have:=hb1.size; omega) (fun k hk=>(hown.lt k hk).1)).setCell (p:=⟨b,1,none⟩) hB _
end Go.Proofs.YtinindjjapblcaaGreatDoor
namespace Go.Proofs.YtinindjjapblcaaGreatDoor
open Go.RowKit
open Go.Lib hiding intOf
theorem owns_ext {w w':World} {base:Nat} {e:TypeId} {size:Nat} {v:Value} {n:Nat} {xs:List Value} (h:w.ownsRow base e size v n xs) (hx:Ext w w'):w'.ownsRow base e size v n xs:=by
 obtain ⟨h1,h2⟩:=h
 refine ⟨h1,?_⟩
 rcases h2 with h2 | ⟨g,cap,cur,hv,hb,hh,r⟩
 ·exact .inl h2
 ·have hg:g<w.heap.size:=by
   rcases Nat.lt_or_ge g w.heap.size with hlt | hge
   ·exact hlt
   ·rw [Array.getElem?_eq_none hge] at hh; cases hh
  exact .inr ⟨g,cap,cur,hv,hb,(hx.block g hg).trans hh,r⟩
theorem builder_ext {T e:TypeId} {B b:Nat} {p:Value} {bs:List Value} {w w':World} (h:BuilderAt T e B b p bs w) (hx:Ext w w'):BuilderAt T e B b p bs w':=by
 have hl:=h.lt
 obtain ⟨hB,v,hb,hown,hne⟩:=h
 exact ⟨hB,v,(hx.block b hl).trans hb,owns_ext hown hx,hne⟩
theorem isBuilder_ext {T e:TypeId} {B b:Nat} {bs:List Value} {w w':World} (h:IsBuilder T e B b bs w) (hx:Ext w w'):IsBuilder T e B b bs w':=
 h.elim (fun h=> .inl (builder_ext h hx)) (fun h=> .inr (builder_ext h hx))
theorem byteCells_app (a b:List UInt8):byteCells (a++b)=byteCells a++strCells (mkB b):=by
 simp [byteCells,strCells,mkB_list]
set_option maxHeartbeats 1000000 in
set_option maxRecDepth 8000 in
theorem c_JournalOf (A:Option Addr) (n c:Nat) (es:List Event) (w:World) (hs:SliceOf w 5 Event.cells A n c es) (hg:GlobJ w):
  Calls Tryz.prog 12 #[.slice A n c] w (Ret (.tuple #[.string (mkB (jourR es).1),.int .i64 (jourR es).2]) w):=by
 have hm:=hs.max
 have hcap:=hs.cap
 have HN:=hide hs.len
 by_cases h:300<n
 ·have HR:=hide (show jourR es=([],3) by unfold jourR; rw [if_pos (by have:=HN.out; omega)])
  go_enter Tryz.func12,Tryz.ntmps12
  go_wp2_with fail
  exact bodyPost_ret (v:= .tuple #[.string ⟨#[]⟩,.int .i64 3]) (by simp [results,Tryz.results12,go_sem]) rfl (Ret.of (by rw [HR.out]; rfl) (Ext.refl _))
 ·have HR:=hide (show jourR es=if es.all evB=false then ([],1) else (textL es 1,0) by unfold jourR; rw [if_neg (by have:=HN.out; omega)])
  cases hall:es.all evB with
  | false=>
   have HR2:=hide (show jourR es=([],1) by rw [HR.out,if_pos hall])
   go_enter Tryz.func12,Tryz.ntmps12
   go_wp2_with fail
   refine (c_ContainsFuncE A n c es _ hs).mono ?_
   rw [hall]
   rintro e w1 ⟨rfl,hx1⟩
   go_wp2_with fail
   exact bodyPost_ret (v:= .tuple #[.string ⟨#[]⟩,.int .i64 1]) (by simp [results,Tryz.results12,go_sem]) rfl (Ret.of (by rw [HR2.out]; rfl) hx1)
  | true=>
   have HR2:=hide (show jourR es=(textL es 1,0) by rw [HR.out,if_neg (by rw [hall]; decide)])
   have HAL:=hide (List.all_eq_true.1 hall)
   go_enter Tryz.func12,Tryz.ntmps12
   go_wp2_with fail
   refine (c_ContainsFuncE A n c es _ hs).mono ?_
   rw [hall]
   clear hall
   rintro e w1 ⟨rfl,hx1⟩
   have hs1:=hs.ext hx1
   have hg1:=hg.ext hx1
   have hb0:IsBuilder 89 5 w1.heap.size w1.heap.size (byteCells []) (w1.alloc (.cells #[.pointer none,.slice none 0 0] 89)):=
    .inl ⟨Nat.le_refl _,.slice none 0 0,heap_alloc_new w1 _,⟨by simp [byteCells],.inl ⟨rfl,rfl⟩⟩,by simp [Value.ownBlock]⟩
   go_wp2_with fail
   go_loopw [5,7,8,9,17] (fun x _ _ _ i wr=>∃(k:Nat) (z:Int) (L:List UInt8),k≤n∧L.length≤49*k∧i= .int .i64 k∧x= .int .i64 z∧0≤z∧z<99991∧Hid (z=sumEs (es.take k) 1)∧Hid (L=textL (es.take k) 1)∧IsBuilder 89 5 w1.heap.size w1.heap.size (byteCells L) wr∧Ext w1 wr) (fun _ _ _ _ i _=>n-(intOf i).toNat)
   case atStart=>exact ⟨0,1,[],Nat.zero_le _,by simp,rfl,rfl,by omega,by omega,hide rfl,hide rfl,hb0,Ext.alloc _ _⟩
   case round=>
    clear hb0
    obtain ⟨k,z,L,hk,hL,rfl,rfl,z0,z1,HZ,HL,hbd,hx⟩:=hrel
    have hzx:=hx.size
    by_cases hlt:k<n
    ·obtain ⟨b,off,p,rfl,hb,hxk,hc⟩:=(hs1.ext hx).get hlt
     have hc0:=hc 0 _ rfl
     have hc1:=hc 1 _ rfl
     have hc2:=hc 2 _ rfl
     have hc3:=hc 3 _ rfl
     have hc4:=hc 4 _ rfl
     clear hc
     simp only [Nat.add_zero] at hc0
     have HX:=hide hxk
     have hev:=HAL.out p (List.mem_of_getElem? hxk)
     clear hxk
     have hls:=lineL_small p z hev z0 z1
     have hsb:=sumE_bound p z z0 z1
     have HT:=hide (textL_take HX.out)
     have hx2:Ext wr (wr.alloc (.cells #[.int .i64 p.kind,.int .i64 p.a,.int .i64 p.b,.int .i64 p.c,.int .i64 p.d] 54)):=Ext.alloc _ _
     go_wp2_with fail
     refine (c_eventLine p z _ hev z0 z1 (hg1.ext (hx.trans hx2))).mono ?_
     rintro e w3 ⟨rfl,hx3⟩
     have hbd3:=isBuilder_ext (isBuilder_ext hbd hx2) hx3
     have hX3:=hx.trans (hx2.trans hx3)
     have hz3:=hX3.size
     clear hbd hx2 hx3
     have q1:(mkB (lineL p z++[10])).size≤49:=by rw [mkB_size]; simp; omega
     go_wp2_with fail
     refine (c_WriteString w1.heap.size w1.heap.size (byteCells L) (mkB (lineL p z++[10])) _ hbd3 (by rw [byteCells_length]; omega) hz3).mono ?_
     rintro e w4 ⟨rfl,hbd4,hB4⟩
     have hX4:Ext w1 w4:=Below.trans hX3 hB4
     go_wp2_with fail
     go_roundw
     case rel=>exact ⟨k+1,sumE p z,L++(lineL p z++[10]),by omega,by simp; omega,by go_num,rfl,hsb.1,hsb.2,hide (by rw [HT.out.2, ←HZ.out]),hide (by rw [HT.out.1, ←HZ.out,HL.out,List.append_assoc]),by rw [byteCells_app]; exact .inr hbd4,hX4⟩
     case measure=>simp [intOf]; omega
    ·have hkn:k=n:=by omega
     have HL2:=hide (show L=textL es 1 by rw [HL.out,hkn,HN.out,List.take_length])
     clear hkn
     go_wp2_with fail
     refine (Tryz.Builder_String_any w1.heap.size w1.heap.size L _ hbd hzx).mono ?_
     rintro e w3 ⟨rfl,hB3⟩
     have hX3:Ext w1 w3:=Below.trans hx hB3
     go_wp2_with fail
     exact bodyPost_ret (v:= .tuple #[.string (mkB L),.int .i64 0]) (by simp [results,Tryz.results12,go_sem,mkB]) rfl (Ret.of (by rw [HR2.out,HL2.out]) (hx1.trans hX3))
end Go.Proofs.YtinindjjapblcaaGreatDoor
