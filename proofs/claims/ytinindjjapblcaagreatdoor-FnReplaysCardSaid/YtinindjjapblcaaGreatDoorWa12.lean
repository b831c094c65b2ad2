/-
  Components, forest and chords of a network, of the reference.
-/
import Derived.Test.YtinindjjapblcaaGreatDoorWa09
import Derived.Test.YtinindjjapblcaaGreatDoorWa04
import Derived.Test.YtinindjjapblcaaGreatDoorWa11
import Derived.Test.YtinindjjapblcaaGreatDoorWa01
namespace Go.Proofs.YtinindjjapblcaaGreatDoor
open Go.RowKit
set_option maxHeartbeats 4000000 in
theorem c_l04Components (A1 A2:Option Addr) (n1 c1 n2 c2:Nat) (ps:List Pipe) (w:World) (hs2:SliceOf w 5 Pipe.cells A2 n2 c2 ps) (m1:n1≤100000) (m2:n2≤100000) (he:EndsIn n1 ps):
  Calls Tryz.prog 217 #[.agg #[.slice A1 n1 c1,.slice A2 n2 c2]] w (RetI (fun E=>E.length=n1) w):=by
 have hB:=Row.new w 27 [.slice A1 n1 c1,.slice A2 n2 c2]
 have hx0:Ext w (w.alloc (.cells #[.slice A1 n1 c1,.slice A2 n2 c2] 27)):=Ext.alloc _ _
 have hmkI:=fun W=>run_make_flat (P:=Tryz.prog) 137 2 _ _ 1 8 Tryz.underlying137 int_info (f:=intC) 0 rfl rfl rfl (by omega) n1 (by omega) (by omega) W
 have HE:=hide he
 clear he
 go_enter Tryz.func217,Tryz.ntmps217
 go_wp2_with fail
 go_loopw [4] (fun i wr=>∃(k:Nat) (E:List Int),k≤n1∧i= .int .i64 k∧RowOf wr (w.heap.size+1) 2 intC E∧E.length=n1∧Ext (w.alloc (.cells #[.slice A1 n1 c1,.slice A2 n2 c2] 27)) wr) (fun i _=>n1-(intOf i).toNat)
 case atStart=>exact ⟨0,List.replicate n1 0,Nat.zero_le _,rfl,Row.newG _ _ (by simp),by simp,Ext.alloc _ _⟩
 case round=>
  obtain ⟨k,E,hk,rfl,hEn,hel,hx⟩:=hrel
  have hle:=hEn.lt
  by_cases hlt:k<n1
  ·obtain ⟨u,hu⟩:=hEn.there intC_len (i:=k) (by omega) (j:=0) (by omega)
   simp only [Nat.mul_one,Nat.add_zero] at hu
   have hf:=hEn.frozen k
   have hN:=RowOf.set0 hEn (fun x=>⟨_,rfl⟩) (d:=k) (by omega) (-1) (.int .i64 (-1)) rfl
   have hx2:=hx.setCell (p:=⟨w.heap.size+1,k,none⟩) (by simp) (.int .i64 (-1))
   clear hx hEn
   go_wp2_with fail
   go_roundw
   case rel=>exact ⟨k+1,_,by omega,by go_num,hN,by rw [List.length_set]; exact hel,hx2⟩
   case measure=>simp [intOf]; omega
  ·obtain rfl:n1=k:=by omega
   clear hmkI
   go_wp2_with fail
   go_loopw [5] (fun i wr=>∃(k:Nat) (E:List Int),k≤n1∧i= .int .i64 k∧RowOf wr (w.heap.size+1) 2 intC E∧E.length=n1∧Ext (w.alloc (.cells #[.slice A1 n1 c1,.slice A2 n2 c2] 27)) wr) (fun i _=>n1-(intOf i).toNat)
   case atStart=>exact ⟨0,E,Nat.zero_le _,rfl,hEn,hel,hx⟩
   case round=>
    clear hx hEn hel hle hlt hk
    obtain ⟨k,E,hk,rfl,hEn,hel,hx⟩:=hrel
    have hle:=hEn.lt
    by_cases hlt:k<n1
    ·obtain ⟨z,hz⟩:∃z,E[k]? =some z:=⟨_,List.getElem?_eq_getElem (by omega)⟩
     have hu:=hEn.get intC_len hz (j:=0) rfl
     simp only [Nat.mul_one,Nat.add_zero] at hu
     have hf:=hEn.frozen k
     by_cases h0:0≤z
     ·clear hz
      go_wp2_with fail
      go_roundw
      case rel=>exact ⟨k+1,_,by omega,by go_num,hEn,hel,hx⟩
      case measure=>simp [intOf]; omega
     ·clear hz
      have hb0:=(hB.ext hx).cell 0
      have hb1:=(hB.ext hx).cell 1
      simp at hb0 hb1
      have hbl:=(hB.ext hx).lt
      go_wp2_with fail
      refine (c_l04Search A1 A2 n1 c1 n2 c2 ps _ (hs2.ext (hx0.trans hx)) m1 m2 HE.out k hlt).mono ?_
      rintro e w2 ⟨v1,v2,en,Eo,rfl,ho1,ho2,HF,hx2⟩
      obtain ⟨Ao,co,rfl,_⟩:=ho2.sl intC_len (by omega)
      obtain ⟨_,ho3,_,hin⟩:=HF.out
      have HIN:=hide hin
      have hE2:=hEn.ext hx2
      have hX2:=hx.trans hx2
      clear hu hf hb0 hb1 hbl hEn hx hin ho1
      go_wp2_with fail
      go_loopw [8] (fun i wr'=>∃(j:Nat) (E:List Int),j≤Eo.length∧i= .int .i64 j∧RowOf wr' (w.heap.size+1) 2 intC E∧E.length=n1∧OwnL wr' wr.heap.size 2 1 intC (.slice Ao Eo.length co) Eo∧Ext (w.alloc (.cells #[.slice A1 n1 c1,.slice A2 n2 c2] 27)) wr') (fun i _=>Eo.length-(intOf i).toNat)
      case atStart=>exact ⟨0,E,Nat.zero_le _,rfl,hE2,hel,ho2,hX2⟩
      case round=>
       clear ho2 hE2 hX2 hel hx2
       obtain ⟨j,E,hj,rfl,hE2,hel,ho2,hX2⟩:=hrel
       have hl2:=hE2.lt
       by_cases hjl:j<Eo.length
       ·obtain ⟨bo,oo,zo,rfl,hbo,hok,hco⟩:=(ho2.slE intC_len (by omega)).get hjl
        have hc0:=hco 0 _ rfl
        simp only [Nat.add_zero,Nat.mul_one] at hc0
        obtain ⟨y,rfl,hy⟩:=HIN.out.at hok
        obtain ⟨u,hu⟩:=hE2.there intC_len (i:=y) (by omega) (j:=0) (by omega)
        simp only [Nat.mul_one,Nat.add_zero] at hu
        have hf:=hE2.frozen y
        have hN:=RowOf.set0 hE2 (fun x=>⟨_,rfl⟩) (d:=y) (by omega) (k:Int) (.int .i64 k) rfl
        have hx3:=hX2.setCell (p:=⟨w.heap.size+1,y,none⟩) (by simp) (.int .i64 k)
        have ho3:=ho2.farK (p:=⟨w.heap.size+1,y,none⟩) hle (.int .i64 k)
        clear hok hco hE2 hX2 ho2
        go_wp2_with fail
        go_roundw
        case rel=>exact ⟨j+1,_,by omega,by go_num,hN,by rw [List.length_set]; exact hel,ho3,hx3⟩
        case measure=>simp [intOf]; omega
       ·go_wp2_with fail
        go_roundw
        case rel=>exact ⟨k+1,E,by omega,by go_num,hE2,hel,hX2⟩
        case measure=>simp [intOf]; omega
    ·go_wp2_with fail
     go_ret
     have hO:=OwnL.of_row hEn intC_len (base:=w.heap.size) (by omega) (by omega)
     rw [hel] at hO
     exact ⟨_,E,rfl,hO,hide hel,hx0.trans hx⟩
end Go.Proofs.YtinindjjapblcaaGreatDoor
namespace Go.Proofs.YtinindjjapblcaaGreatDoor
open Go.RowKit
set_option maxHeartbeats 4000000 in
theorem c_l04Forest (A1 A2:Option Addr) (n1 c1 n2 c2:Nat) (ps:List Pipe) (w:World) (hs2:SliceOf w 5 Pipe.cells A2 n2 c2 ps) (m1:n1≤100000) (m2:n2≤100000) (he:EndsIn n1 ps):
  Calls Tryz.prog 204 #[.agg #[.slice A1 n1 c1,.slice A2 n2 c2]] w (RetI (fun E=>E.length≤n2) w):=by
 have hB:=Row.new w 27 [.slice A1 n1 c1,.slice A2 n2 c2]
 have hx0:Ext w (w.alloc (.cells #[.slice A1 n1 c1,.slice A2 n2 c2] 27)):=Ext.alloc _ _
 have hmkB:=fun W=>run_make_flat (P:=Tryz.prog) 249 4 _ _ 1 1 Tryz.underlying249 bool_info (f:=boolC) false rfl rfl rfl (by omega) n2 (by omega) (by omega) W
 have HE:=hide he
 clear he
 go_enter Tryz.func204,Tryz.ntmps204
 go_wp2_with fail
 have hI0:RowOf ((w.alloc (.cells #[.slice A1 n1 c1,.slice A2 n2 c2] 27)).alloc (.cells ((List.replicate n2 false).flatMap boolC).toArray 4)) (w.heap.size+1) 4 boolC (List.replicate n2 false):=Row.newG _ _ (by simp)
 refine (c_l04Components A1 A2 n1 c1 n2 c2 ps _ (hs2.ext (hx0.and_alloc _)) m1 m2 HE.out).mono ?_
 rintro e w1 ⟨v1,R,rfl,hor,HR,hx1⟩
 have hI1:=hI0.ext hx1
 have hX1:Ext (w.alloc (.cells #[.slice A1 n1 c1,.slice A2 n2 c2] 27)) w1:=(Ext.alloc _ _).trans hx1
 have hlR:R.length=n1:=HR.out
 obtain ⟨wb,hwb⟩:∃wb,w.heap.size+1+1=wb:=⟨_,rfl⟩
 have hor1:OwnL w1 wb 2 1 intC v1 R:=hor.lowG (by rw [←hwb]; simp)
 obtain ⟨Ar,cr,rfl,_⟩:=hor1.sl intC_len (by omega)
 clear hmkB hI0 hor hx1
 go_wp2_with fail
 go_loopw [5] (fun i wr=>∃(k:Nat) (l:List Bool),k≤n1∧i= .int .i64 k∧RowOf wr (w.heap.size+1) 4 boolC l∧l.length=n2∧OwnL wr wb 2 1 intC (.slice Ar R.length cr) R∧Ext (w.alloc (.cells #[.slice A1 n1 c1,.slice A2 n2 c2] 27)) wr) (fun i _=>n1-(intOf i).toNat)
 case atStart=>exact ⟨0,_,Nat.zero_le _,rfl,hI1,by simp,hor1,hX1⟩
 case round=>
  clear hI1 hor1 hX1
  obtain ⟨k,l,hk,rfl,hI,hll,hor,hx⟩:=hrel
  have hle:=hI.lt
  by_cases hlt:k<n1
  ·obtain ⟨br,rr,z,rfl,hbr,hrk,hcr⟩:=(hor.slE intC_len (by omega)).get (k:=k) (by omega)
   have hc0:=hcr 0 _ rfl
   simp only [Nat.add_zero,Nat.mul_one] at hc0
   clear hcr hrk
   cases h0:(z==(k:Int))
   ·go_wp2_with fail
    go_roundw
    case rel=>exact ⟨k+1,_,by omega,by go_num,hI,hll,hor,hx⟩
    case measure=>simp [intOf]; omega
   ·have hb0:=(hB.ext hx).cell 0
    have hb1:=(hB.ext hx).cell 1
    simp at hb0 hb1
    have hbl:=(hB.ext hx).lt
    go_wp2_with fail
    refine (c_l04Search A1 A2 n1 c1 n2 c2 ps _ (hs2.ext (hx0.trans hx)) m1 m2 HE.out k hlt).mono ?_
    rintro e w2 ⟨v1,v2,en,Eo,rfl,ho1,ho2,HF,hx2⟩
    obtain ⟨Ao,co,rfl,_⟩:=ho1.sl intC_len (by omega)
    obtain ⟨hen,_,henb,_⟩:=HF.out
    have HIN:=hide henb
    have hI2:=hI.ext hx2
    have hX2:=hx.trans hx2
    have hor2:=hor.ext hx2
    clear hb0 hb1 hbl hI hx henb ho2 hor hc0
    go_wp2_with fail
    go_loopw [8] (fun i wr'=>∃(j:Nat) (l:List Bool),j≤en.length∧i= .int .i64 j∧RowOf wr' (w.heap.size+1) 4 boolC l∧l.length=n2∧OwnL wr' wr.heap.size 2 1 intC (.slice Ao en.length co) en∧OwnL wr' wb 2 1 intC (.slice (some ⟨br,rr,none⟩) R.length cr) R∧Ext (w.alloc (.cells #[.slice A1 n1 c1,.slice A2 n2 c2] 27)) wr') (fun i _=>en.length-(intOf i).toNat)
    case atStart=>exact ⟨0,l,Nat.zero_le _,rfl,hI2,hll,ho1,hor2,hX2⟩
    case round=>
     clear ho1 hI2 hX2 hll hx2 hor2
     obtain ⟨j,l,hj,rfl,hI2,hll,ho2,hor2,hX2⟩:=hrel
     have hl2:=hI2.lt
     by_cases hjl:j<en.length
     ·obtain ⟨bo,oo,y,rfl,hbo,hok,hco⟩:=(ho2.slE intC_len (by omega)).get hjl
      have hc0:=hco 0 _ rfl
      simp only [Nat.add_zero,Nat.mul_one] at hc0
      have hyb:=HIN.out y (List.mem_of_getElem? hok)
      clear hok hco
      by_cases hy0:0≤y
      ·obtain ⟨d,rfl⟩:=Int.eq_ofNat_of_zero_le hy0
       have hd:d<n2:=by omega
       obtain ⟨u,hu⟩:=hI2.there boolC_len (i:=d) (by omega) (j:=0) (by omega)
       simp only [Nat.mul_one,Nat.add_zero] at hu
       have hf:=hI2.frozen d
       have hN:=RowOf.set0 hI2 (fun x=>⟨_,rfl⟩) (d:=d) (by omega) true (.bool true) rfl
       have hx3:=hX2.setCell (p:=⟨w.heap.size+1,d,none⟩) (by simp) (.bool true)
       have ho3:=ho2.farK (p:=⟨w.heap.size+1,d,none⟩) hle (.bool true)
       have hor3:=hor2.farK (p:=⟨w.heap.size+1,d,none⟩) (by show w.heap.size+1<wb; omega) (.bool true)
       clear hI2 hX2 ho2 hor2
       go_wp2_with fail
       go_roundw
       case rel=>exact ⟨j+1,_,by omega,by go_num,hN,by rw [List.length_set]; exact hll,ho3,hor3,hx3⟩
       case measure=>simp [intOf]; omega
      ·go_wp2_with fail
       go_roundw
       case rel=>exact ⟨j+1,_,by omega,by go_num,hI2,hll,ho2,hor2,hX2⟩
       case measure=>simp [intOf]; omega
     ·go_wp2_with fail
      go_roundw
      case rel=>exact ⟨k+1,l,by omega,by go_num,hI2,hll,hor2,hX2⟩
      case measure=>simp [intOf]; omega
  ·subst hwb
   have hO:=own_new wr (w.heap.size+1+1) 2 1 intC _ rfl hle
   have hI3:=hI.ext (Ext.alloc wr (.cells #[] 2))
   have hX3:=hx.and_alloc (.cells #[] 2)
   clear hI hor hx
   go_wp2_with fail
   go_loopw [9,10] (fun v i wr=>∃(j:Nat) (E:List Int),j≤n2∧i= .int .i64 j∧E.length≤j∧RowOf wr (w.heap.size+1) 4 boolC l∧OwnL wr (w.heap.size+1+1) 2 1 intC v E∧Ext (w.alloc (.cells #[.slice A1 n1 c1,.slice A2 n2 c2] 27)) wr) (fun _ i _=>n2-(intOf i).toNat)
   case atStart=>exact ⟨0,[],Nat.zero_le _,rfl,Nat.le_refl _,hI3,hO,hX3⟩
   case round=>
    clear hI3 hO hX3 hlt hle
    obtain ⟨j,E,hj,rfl,hE,hI,hown,hx⟩:=hrel
    have hle:=hI.lt
    by_cases hlt:j<n2
    ·obtain ⟨bb,hbb⟩:∃bb,l[j]? =some bb:=⟨_,List.getElem?_eq_getElem (by omega)⟩
     have hsc:=hI.get boolC_len hbb (j:=0) rfl
     simp only [Nat.mul_one,Nat.add_zero] at hsc
     clear hbb
     cases bb
     ·go_wp2_with fail
      go_roundw
      case rel=>exact ⟨j+1,E,by omega,by go_num,by omega,hI,hown,hx⟩
      case measure=>simp [intOf]; omega
     ·go_wp2_with (at_builtin; go_must (refine wpList_append_where rfl _ _ 137 rfl (w.heap.size+1+1) 2 _ 1 8 Tryz.underlying137 int_info rfl (by decide) intC intC_len int_one' (_) E rfl (hown.ext (Ext.alloc _ _)) (wr.heap.size) 0 1 1 [(j:Int)] rfl (new_int wr _ _ (by simp)) (by omega) (by omega) (by first | omega | (simp; omega)) ?_))
      intro v1 w4 hown4 hg4 _
      have hI0:=hI.ext (Ext.alloc wr (.cells #[.int .i64 j] 2))
      have hI4:RowOf w4 (w.heap.size+1) 4 boolC l:=(hg4.block _ hI0.lt (fun e=>by have:=hown.block_le e.symm; omega)).trans hI0
      have hx4:=(hx.and_alloc _).grown hg4 (fun k hk=>by have:=hown.block_le hk; rw [World.size_alloc]; omega)
      clear hI hown hx hI0 hg4
      go_wp2_with fail
      go_roundw
      case rel=>exact ⟨j+1,_,by omega,by go_num,by rw [List.length_append]; simp; omega,hI4,hown4,hx4⟩
      case measure=>simp [intOf]; omega
    ·go_wp2_with fail
     go_ret
     exact ⟨_,E,rfl,hown.lowG (by omega),hide (by omega),hx0.trans hx⟩
set_option maxHeartbeats 2000000 in
theorem c_l05Chords (A1 A2:Option Addr) (n1 c1 n2 c2:Nat) (ps:List Pipe) (w:World) (hs2:SliceOf w 5 Pipe.cells A2 n2 c2 ps) (m1:n1≤100000) (m2:n2≤100000) (he:EndsIn n1 ps):
  Calls Tryz.prog 191 #[.agg #[.slice A1 n1 c1,.slice A2 n2 c2]] w (RetI (fun E=>E.length≤n2) w):=by
 have hB:=Row.new w 27 [.slice A1 n1 c1,.slice A2 n2 c2]
 have hx0:Ext w (w.alloc (.cells #[.slice A1 n1 c1,.slice A2 n2 c2] 27)):=Ext.alloc _ _
 have HE:=hide he
 clear he
 go_enter Tryz.func191,Tryz.ntmps191
 go_wp2_with fail
 refine (c_l04Forest A1 A2 n1 c1 n2 c2 ps _ (hs2.ext hx0) m1 m2 HE.out).mono ?_
 rintro e w1 ⟨v1,R,rfl,hor,HR,hx1⟩
 obtain ⟨Ar,cr,rfl,_⟩:=hor.sl intC_len (by omega)
 have hlR:R.length≤n2:=HR.out
 have hsR:=hor.slE intC_len (by omega)
 have hO:=own_new w1 w1.heap.size 2 1 intC _ rfl (Nat.le_refl _)
 clear hor
 go_wp2_with fail
 go_loopw [4,5] (fun v i wr=>∃(j:Nat) (E:List Int),j≤n2∧i= .int .i64 j∧E.length≤j∧OwnL wr w1.heap.size 2 1 intC v E∧Ext w1 wr) (fun _ i _=>n2-(intOf i).toNat)
 case atStart=>exact ⟨0,[],Nat.zero_le _,rfl,Nat.le_refl _,hO,Ext.alloc _ _⟩
 case round=>
  clear hO
  obtain ⟨j,E,hj,rfl,hE,hown,hx⟩:=hrel
  have hX:=hx1.trans hx
  have hb0:=(hB.ext hX).cell 0
  have hb1:=(hB.ext hX).cell 1
  simp at hb0 hb1
  have hbl:=(hB.ext hX).lt
  by_cases hlt:j<n2
  ·go_wp2_with fail
   refine (c_l02Has Ar R.length cr R j _ (hsR.ext hx) (by omega)).mono ?_
   rintro e w2 ⟨bb,rfl,hx2⟩
   have hx12:=hx.trans hx2
   have hown2:=hown.ext hx2
   have hz2:=hx12.size
   clear hown hx hX hb0 hb1 hbl
   cases bb
   ·go_wp2_with (at_builtin; go_must (refine wpList_append_one rfl _ _ 137 rfl w1.heap.size 2 _ 1 8 Tryz.underlying137 int_info rfl (by decide) intC intC_len int_one' _ _ rfl (hown2.ext (Ext.alloc _ _)) _ (j:Int) rfl _ rfl (by first | rfl | simp) (by omega) (by omega) (by omega) ?_))
    intro v4 w4 hown4 hext4
    have hx4:=hext4 _ (Nat.le_refl _) (hx12.and_alloc _)
    go_wp2_with fail
    go_roundw
    case rel=>exact ⟨j+1,_,by omega,by go_num,by simp; omega,hown4,hx4⟩
    case measure=>simp [intOf]; omega
   ·go_wp2_with fail
    go_roundw
    case rel=>exact ⟨j+1,_,by omega,by go_num,by omega,hown2,hx12⟩
    case measure=>simp [intOf]; omega
  ·go_wp2_with fail
   go_ret
   exact ⟨_,E,rfl,hown.lowG (by have:=(hx0.trans hx1).size; omega),hide (by omega),hx0.trans hX⟩
def RetIC (P:Nat) (w:World) (e:Ending) (w':World):Prop:=
 ∃v E z,e= .returned (.tuple #[v,.int .i64 z])∧OwnL w' w.heap.size 2 1 intC v E∧E.length≤P∧Ext w w'
theorem c_ChordsOf (A1 A2:Option Addr) (n1 c1 n2 c2:Nat) (ns:List Node) (ps:List Pipe) (w:World) (hs1:SliceOf w 3 Node.cells A1 n1 c1 ns) (hs2:SliceOf w 5 Pipe.cells A2 n2 c2 ps) (hnm:∀x∈ns,x.name.size≤1048576):
  Calls Tryz.prog 158 #[.agg #[.slice A1 n1 c1,.slice A2 n2 c2]] w (RetIC n2 w):=by
 have hB:=Row.new w 27 [.slice A1 n1 c1,.slice A2 n2 c2]
 have hx0:Ext w (w.alloc (.cells #[.slice A1 n1 c1,.slice A2 n2 c2] 27)):=Ext.alloc _ _
 have HNM:=hide hnm
 have HL1:=hide hs1.len
 have HL2:=hide hs2.len
 clear hnm
 cases hb:netB ns ps
 ·go_enter Tryz.func158,Tryz.ntmps158
  go_wp2_with fail
  refine (c_specIsNetwork A1 A2 n1 c1 n2 c2 ns ps _ (hs1.ext hx0) (hs2.ext hx0) HNM.out).mono ?_
  rw [hb]
  rintro e w1 ⟨rfl,hx1⟩
  go_wp2_with fail
  go_ret2
  exact ⟨_,[],1,rfl,OwnL.nil_ _ _ _ _ _,Nat.zero_le _,hx0.trans hx1⟩
 ·obtain ⟨he,h1,h2,h3⟩:=netB_facts hb
  rw [←HL1.out] at he h2
  rw [←HL2.out] at h3
  have HE:=hide he
  clear he
  go_enter Tryz.func158,Tryz.ntmps158
  go_wp2_with fail
  refine (c_specIsNetwork A1 A2 n1 c1 n2 c2 ns ps _ (hs1.ext hx0) (hs2.ext hx0) HNM.out).mono ?_
  rw [hb]
  rintro e w1 ⟨rfl,hx1⟩
  have hb0:=(hB.ext hx1).cell 0
  have hb1:=(hB.ext hx1).cell 1
  simp at hb0 hb1
  have hbl:=(hB.ext hx1).lt
  go_wp2_with fail
  refine (c_l05Chords A1 A2 n1 c1 n2 c2 ps _ (hs2.ext (hx0.trans hx1)) (by omega) (by omega) HE.out).mono ?_
  rintro e w2 ⟨v,E,rfl,ho,HL,hx2⟩
  go_wp2_with fail
  go_ret2
  exact ⟨_,E,0,rfl,ho.lowG (hx0.trans hx1).size,HL.out,hx0.trans (hx1.trans hx2)⟩
end Go.Proofs.YtinindjjapblcaaGreatDoor
namespace Go.Proofs.YtinindjjapblcaaGreatDoor
open Go.RowKit
section
variable {w0 w wr wr':World} {a n c g:Nat} {A:Option Addr} {v1 v2 v3 v':Value} {ns:List Node} {ps qs:List Pipe}
def DrawnN (w0:World) (a:Nat) (A:Option Addr) (n c:Nat) (w:World) (e:Ending) (w':World):Prop:=
 ∃x:Int,e= .returned (.int .i64 x)∧Src w0 w' a A n c∧Only a w w'
set_option maxHeartbeats 1000000 in
theorem c_l02DrawIndex (m:Nat) (hm:m≤1000) (h:Src w0 w a A n c):
  Calls Tryz.prog 159 #[.pointer (some ⟨a,0,none⟩),.int .i64 m] w (DrawnN w0 a A n c w):=by
 go_enter Tryz.func159,Tryz.ntmps159
 go_wp2_with fail
 refine (c_next m h (by omega) (by omega)).mono ?_
 rintro e w1 ⟨x1,rfl,hx1,hx1',hs1,ho1⟩
 go_wp2_with fail
 refine (c_next 16 hs1 (by omega) (by omega)).mono ?_
 rintro e w2 ⟨x2,rfl,hx2,hx2',hs2,ho2⟩
 have e1:x2.tdiv 15=0∨x2.tdiv 15=1:=by rw [Int.tdiv_eq_ediv_of_nonneg hx2]; omega
 go_wp2_with fail
 refine (c_next 24 hs2 (by omega) (by omega)).mono ?_
 rintro e w3 ⟨x3,rfl,hx3,hx3',hs3,ho3⟩
 go_wp2_with fail
 go_ret
 exact ⟨_,rfl,hs3,(ho1.trans ho2).trans ho3⟩
structure LSt (w0 w:World) (a:Nat) (A:Option Addr) (n c g:Nat) (v1 v2 v3:Value) (ns:List Node) (qs:List Pipe) (wr:World):Prop where
 lt:a<w.heap.size
 src:Src w0 wr a A n c
 only:Only a w wr
 res:Row wr w.heap.size 27 [.slice none 0 0,.slice none 0 0]
 var:Row wr g 27 [v1,v2]
 hg:w.heap.size<g
 o1:OwnL wr (w.heap.size+1) 147 3 Node.cells v1 ns
 o3:OwnL wr (w.heap.size+1) 149 5 Pipe.cells v3 qs
 nm:Short ns
theorem LSt.draw (h:LSt w0 w a A n c g v1 v2 v3 ns qs wr) (hs:Src w0 wr' a A n c) (ho:Only a wr wr'):LSt w0 w a A n c g v1 v2 v3 ns qs wr':=
 have hl:=h.lt
 have hg:=h.hg
 ⟨h.lt,hs,h.only.trans ho,h.res.only ho (by omega),h.var.only ho (by omega),h.hg,h.o1.only ho (by omega),h.o3.only ho (by omega),h.nm⟩
theorem LSt.more (h:LSt w0 w a A n c g v1 v2 v3 ns qs wr) (hx:Ext wr wr'):LSt w0 w a A n c g v1 v2 v3 ns qs wr':=h.draw (h.src.more hx) (Only.of_ext hx a)
theorem LSt.app (h:LSt w0 w a A n c g v1 v2 v3 ns qs wr) (hgr:wr.grownBy wr' v3.ownBlock) {qs':List Pipe} (ho:OwnL wr' (w.heap.size+1) 149 5 Pipe.cells v' qs'):LSt w0 w a A n c g v1 v2 v' ns qs' wr':=by
 have hl:=h.lt
 have hle:=h.src.le0
 have hb:=fun k (hk:v3.ownBlock=some k)=>h.o3.block_le hk
 refine ⟨h.lt,h.src.grow hgr (fun k hk=>by have:=hb k hk; omega),h.only.grown hgr (fun k hk=> .inl (by have:=hb k hk; omega)),h.res.grown hgr (fun e=>by have:=hb _ e; omega),h.var.grown hgr (fun e=>h.o3.not_row h.var (by decide) g e rfl),h.hg,h.o1.grown hgr (fun k hk=> ?_),ho,h.nm⟩
 exact fun e=>OwnL.apart h.o3 h.o1 (by decide) k hk e
theorem LSt.fin (h:LSt w0 w a A n c g v1 v2 v3 ns qs wr) (h2:ns.length≤7) (h3:qs.length≤30):
  DrawnNet2 w0 a A n c w (.returned (.agg #[v1,v3])) (putCells wr w.heap.size 0 [v1,v3]):=by
 have hl:=h.lt
 have hle:=h.src.le0
 exact ⟨v1,v3,ns,qs,rfl,h.src.put (by omega) (by omega) _ _,h.only.putNew (Nat.le_refl _) _ _,h.o1.put h.res (by decide) _ _,h.o3.put h.res (by decide) _ _,h2,h3,h.nm⟩
set_option maxHeartbeats 4000000 in
theorem c_l05DrawLoops (h:Src w0 w a A n c):
  Calls Tryz.prog 156 #[.pointer (some ⟨a,0,none⟩)] w (DrawnNet2 w0 a A n c w):=by
 have hal:=h.lt
 have hle:=h.le0
 go_enter Tryz.func156,Tryz.ntmps156
 go_wp2_with fail
 refine (c_l02Draw (h.more (Ext.alloc _ _))).mono ?_
 rintro e w1 ⟨v1,v2,ns,ps,rfl,hs1,ho1,o1,o2,hn1,hn7,hp,hnm⟩
 have hD0:=ASt.new hal hs1 ho1 (o1.lowG (by simp)) (o2.lowG (by simp)) hnm
 have hz1:=ho1.size
 simp at hz1
 obtain ⟨A1,c1,rfl,hc1,hc1'⟩:=hD0.o1.form
 obtain ⟨A2,c2,rfl,hs2⟩:=hD0.o2.sl pipe_len (by omega)
 clear hs1 ho1 o1 o2 hnm
 have hD1:LSt w0 w a A n c w1.heap.size (.slice A1 ns.length c1) (.slice A2 ps.length c2) (.slice (some ⟨w1.heap.size+1,0,none⟩) 0 0) ns [] ((w1.alloc (.cells #[.slice A1 ns.length c1,.slice A2 ps.length c2] 27)).alloc (.cells #[] 149)):=
  have hx:=Ext.alloc (w1.alloc (.cells #[.slice A1 ns.length c1,.slice A2 ps.length c2] 27)) (.cells #[] 149)
  ⟨hD0.lt,hD0.src.more hx,hD0.only.trans (Only.of_ext hx a),hD0.res.ext hx,hD0.var.ext hx,hD0.hg,hD0.o1.ext hx,own_new _ _ _ _ _ _ (by simp) (by omega),hD0.nm⟩
 have hs3:=hs2.ext (Ext.alloc (w1.alloc (.cells #[.slice A1 ns.length c1,.slice A2 ps.length c2] 27)) (.cells #[] 149))
 clear hs2 hD0
 go_wp2_with (at_builtin; go_must (refine wpList_append_grow rfl _ _ 25 rfl (w.heap.size+1) 149 _ 5 40 Tryz.underlying25 pipe_info rfl (by decide) Pipe.cells pipe_len pipe_one' _ [] rfl (hD1.o3) A2 ps.length c2 ps rfl (hs3) (by simp; omega) (by omega) (by first | exact Nat.le_refl _ | omega | (simp; done) | (simp; omega)) ?_))
 intro v3 w2 ho2 hg2
 have hD2:=hD1.app hg2 ho2
 clear hD1 hs3 ho2 hg2
 go_wp2_with fail
 refine (c_next 3 hD2.src (by omega) (by omega)).mono ?_
 rintro e w3 ⟨x3,rfl,hx3,hx3',hs3,ho3⟩
 have hD3:=hD2.draw hs3 ho3
 clear hD2 hs3 ho3
 obtain ⟨j0,rfl⟩:=Int.eq_ofNat_of_zero_le hx3
 go_wp2_with fail
 go_loopw [5,6] (fun u i wr=>∃(j:Nat) (qs:List Pipe),j≤2∧i= .int .i64 j∧qs.length+j≤14∧LSt w0 w a A n c w1.heap.size (.slice A1 ns.length c1) (.slice A2 ps.length c2) u ns qs wr) (fun _ i _=>(intOf i).toNat)
 case atStart=>exact ⟨j0,ps,by omega,rfl,by omega,hD3⟩
 case round=>
  obtain ⟨j,qs,hj,rfl,hqs,hD⟩:=hrel
  clear hD3
  by_cases hgo:0<j∧1<ns.length
  ·obtain ⟨hj0,hq1⟩:=hgo
   go_wp2_with fail
   refine (c_next ns.length hD.src (by omega) (by omega)).mono ?_
   rintro e w4 ⟨x4,rfl,hx4,hx4',hs4,ho4⟩
   have hD4:=hD.draw hs4 ho4
   clear hD hs4 ho4
   have e2:IntKind.i64.wrap ((ns.length:Int)-1)=(ns.length:Int)-1:=IntWalk.i64_in _ (by omega)
   go_wp2_with fail
   refine (c_next _ hD4.src (by omega) (by omega)).mono ?_
   rintro e w5 ⟨x5,rfl,hx5,hx5',hs5,ho5⟩
   have hD5:=hD4.draw hs5 ho5
   clear hD4 hs5 ho5
   go_wp2_with fail
   refine (c_l02DrawPipe _ _ hD5.src).mono ?_
   rintro e w6 ⟨p,rfl,hs6,ho6⟩
   have hD6:=hD5.draw hs6 ho6
   have hsz6:=hD6.res.lt
   clear hD5 hs6 ho6
   go_wp2_with (at_builtin; go_must (refine wpList_append_grow rfl _ _ 25 rfl (w.heap.size+1) 149 _ 5 40 Tryz.underlying25 pipe_info rfl (by decide) Pipe.cells pipe_len pipe_one' _ _ rfl (hD6.o3.ext (Ext.alloc _ _)) _ 1 1 [p] rfl (new_one pipe_len w6 149 p) (by simp; omega) (by omega) (by first | exact Nat.le_refl _ | omega | (simp; done) | (simp; omega)) ?_))
   intro v7 w7 hown7 hg7
   have hD7:=(hD6.more (Ext.alloc w6 (.cells #[.int .i64 p.src,.int .i64 p.dst,.int .i64 p.k,.int .i64 p.volume,.int .i64 p.limit] 149))).app hg7 hown7
   clear hD6 hown7 hg7
   go_wp2_with fail
   go_roundw
   case rel=>exact ⟨j-1,_,by omega,by go_num,by simp; omega,hD7⟩
   case measure=>simp [intOf]; omega
  ·obtain ⟨A3,c3,rfl,_,_⟩:=hD.o3.form
   have HF:=hide (hD.fin (by omega) (by omega))
   have p0:=hD.var.cell 0
   have p1:=hD.var.cell 1
   simp at p0 p1
   have pf:=hD.var.frozen
   have pl:=hD.var.lt
   have q0:=hD.res.cell 0
   have q1:=hD.res.cell 1
   simp at q0 q1
   have qf:=hD.res.frozen
   have ql:=hD.res.lt
   clear hD
   by_cases hj0:j=0
   ·subst hj0
    go_wp2_with fail
    refine bodyPost_ret (v:= .agg #[.slice A1 ns.length c1,.slice A3 qs.length c3]) (by simp [results,Tryz.results156,go_sem,q0,q1]) rfl ?_
    exact HF.out
   ·have hq1:¬1<ns.length:=by omega
    go_wp2_with fail
    refine bodyPost_ret (v:= .agg #[.slice A1 ns.length c1,.slice A3 qs.length c3]) (by simp [results,Tryz.results156,go_sem,q0,q1]) rfl ?_
    exact HF.out
end
end Go.Proofs.YtinindjjapblcaaGreatDoor
namespace Go.Proofs.YtinindjjapblcaaGreatDoor
open Go.RowKit
section
variable {w0 w wr wr':World} {a n c g:Nat} {A:Option Addr} {v1 v2 v3 v':Value} {ns:List Node} {ps qs:List Pipe}
def DrawnNet3 (w0:World) (a:Nat) (A:Option Addr) (n c:Nat) (w:World) (e:Ending) (w':World):Prop:=
 ∃(v1 v2:Value) (ns:List Node) (ps:List Pipe) (x:Int),e= .returned (.tuple #[.agg #[v1,v2],.int .i64 x])∧Src w0 w' a A n c∧Only a w w'∧OwnL w' (w.heap.size+1) 147 3 Node.cells v1 ns∧OwnL w' (w.heap.size+1) 149 5 Pipe.cells v2 ps∧ns.length≤7∧ps.length≤30∧Short ns
theorem ASt.fin3 (h:ASt w0 w a A n c g v1 v2 ns ps wr) (h2:ns.length≤7) (h3:ps.length≤30) (x:Int):
  DrawnNet3 w0 a A n c w (.returned (.tuple #[.agg #[v1,v2],.int .i64 x])) (putCells wr w.heap.size 0 [v1,v2]):=by
 have hl:=h.lt
 have hle:=h.src.le0
 exact ⟨v1,v2,ns,ps,x,rfl,h.src.put (by omega) (by omega) _ _,h.only.putNew (Nat.le_refl _) _ _,h.o1.put h.res (by decide) _ _,h.o2.put h.res (by decide) _ _,h2,h3,h.nm⟩
theorem ASt.turn (h:ASt w0 w a A n c g v1 v2 ns ps wr) {u1 u2:Value} {ns':List Node} {ps':List Pipe} (hs:Src w0 wr' a A n c) (ho:Only a wr wr')
  (o1:OwnL wr' (wr.heap.size+1) 147 3 Node.cells u1 ns') (o2:OwnL wr' (wr.heap.size+1) 149 5 Pipe.cells u2 ps') (hn:Short ns'):
  ASt w0 w a A n c g u1 u2 ns' ps' ((wr'.setCell ⟨g,0,none⟩ u1).setCell ⟨g,1,none⟩ u2):=by
 have hl:=h.lt
 have hgg:=h.hg
 have hle:=h.src.le0
 have hv:=h.var.lt
 have hr:=h.res.lt
 have hon:=h.only.trans ho
 refine ⟨hl,(hs.set (by show w0.heap.size≤g; omega) (by show g≠a; omega) _).set (by show w0.heap.size≤g; omega) (by show g≠a; omega) _,?_,?_,?_,hgg,?_,?_,hn⟩
 ·exact (hon.grown ((Only.refl g _).setCell rfl u1) (fun k hk=>by simp at hk; omega)).grown ((Only.refl g _).setCell rfl u2) (fun k hk=>by simp at hk; omega)
 ·exact ((h.res.only ho (by omega)).far (by show w.heap.size≠g; omega) _).far (by show w.heap.size≠g; omega) _
 ·exact ((h.var.only ho (by omega)).set_ 0 u1).set_ 1 u2
 ·exact ((o1.farK (p:=⟨g,0,none⟩) (by show g<wr.heap.size+1; omega) _).farK (p:=⟨g,1,none⟩) (by show g<wr.heap.size+1; omega) _).lowG (by omega)
 ·exact ((o2.farK (p:=⟨g,0,none⟩) (by show g<wr.heap.size+1; omega) _).farK (p:=⟨g,1,none⟩) (by show g<wr.heap.size+1; omega) _).lowG (by omega)
set_option maxHeartbeats 4000000 in
theorem c_l05DrawChord (h:Src w0 w a A n c):
  Calls Tryz.prog 106 #[.pointer (some ⟨a,0,none⟩)] w (DrawnNet3 w0 a A n c w):=by
 have hal:=h.lt
 have hle:=h.le0
 go_enter Tryz.func106,Tryz.ntmps106
 go_wp2_with fail
 refine (c_l05DrawLoops (h.more (Ext.alloc _ _))).mono ?_
 rintro e w1 ⟨v1,v2,ns,ps,rfl,hs1,ho1,o1,o2,hn7,hp,hnm⟩
 have hD0:=ASt.new hal hs1 ho1 (o1.lowG (by simp)) (o2.lowG (by simp)) hnm
 have hz1:=ho1.size
 simp at hz1
 obtain ⟨A1,c1,rfl,_⟩:=o1.form
 obtain ⟨A2,c2,rfl,_⟩:=o2.form
 clear hs1 ho1 o1 o2 hnm
 go_wp2_with fail
 refine (c_next 12 hD0.src (by omega) (by omega)).mono ?_
 rintro e w2 ⟨x2,rfl,hx2,hx2',hs2,ho2⟩
 have hD:=hD0.draw hs2 ho2
 clear hD0 hs2 ho2
 by_cases h0:x2=0
 ·subst h0
  clear hx2 hx2'
  have p0:=hD.var.cell 0
  have p1:=hD.var.cell 1
  simp at p0 p1
  have pf:=hD.var.frozen
  have pl:=hD.var.lt
  go_wp2_with fail
  refine (c_l02DrawAny hD.src).mono ?_
  rintro e w3 ⟨v1,v2,ns',ps',rfl,hs3,ho3,o1,o2,hn7',hp',hnm⟩
  have hD3:=hD.turn hs3 ho3 o1 o2 hnm
  have hv3:=hD.var.only ho3 (by have:=hD.lt; have:=hD.hg; omega)
  obtain ⟨A1',c1',rfl,_⟩:=o1.form
  obtain ⟨A2',c2',rfl,_⟩:=o2.form
  have r0:=hv3.cell 0
  have r1:=hv3.cell 1
  simp at r0 r1
  have rf:=hv3.frozen
  have rl:=hv3.lt
  clear hD hs3 ho3 o1 o2 hnm hv3 p0 p1 pf pl hn7 hp
  have hn7:=hn7'
  have hp:=hp'
  obtain ⟨w4,HW4⟩:∃w4,Hid (((w3.setCell ⟨w1.heap.size,0,none⟩ (.slice A1' ns'.length c1')).setCell ⟨w1.heap.size,1,none⟩ (.slice A2' ps'.length c2'))=w4):=⟨_,hide rfl⟩
  rw [HW4.out] at hD3
  have hD:=hD3
  clear hD3
  have p0:=hD.var.cell 0
  have p1:=hD.var.cell 1
  simp at p0 p1
  have pf:=hD.var.frozen
  have pl:=hD.var.lt
  go_wp2_with fail
  rw [HW4.out]
  obtain ⟨_,_,he1,hsl1⟩:=hD.o1.sl node_len (by omega)
  obtain ⟨_,_,he2,hsl2⟩:=hD.o2.sl pipe_len (by omega)
  simp only [Value.slice.injEq,true_and] at he1 he2
  obtain ⟨rfl,rfl⟩:=he1
  obtain ⟨rfl,rfl⟩:=he2
  refine (c_ChordsOf A1' A2' ns'.length c1' ps'.length c2' ns' ps' _ hsl1 hsl2 (fun x hx=>Nat.le_trans (hD.nm x hx) (by omega))).mono ?_
  rintro e w5 ⟨v5,E,z5,rfl,hE,hEl,hx5⟩
  obtain ⟨A5,c5,rfl,hs5⟩:=hE.sl intC_len (by omega)
  have hD5:=hD.more hx5
  have har:=hD.src.lt
  have hrw:=hD.res.lt
  clear hD hsl1 hsl2 hx5 p0 p1 pf pl
  by_cases hE0:E.length=0
  ·go_wp2_with fail
   have p0:=hD5.var.cell 0
   have p1:=hD5.var.cell 1
   simp at p0 p1
   have pf:=hD5.var.frozen
   have pl:=hD5.var.lt
   go_wp2_with fail
   refine wp_region_phC [(w1.heap.size,0),(w1.heap.size,1)] [([0,1,2,3,4],5),([],6)] [7] (by kernel_rfl) (by kernel_rfl) (by intro c a w d v h; cases d <;> exact h) ?_
   simp only [wpPhC,pickL,nthO]
   repeat (go_big_quiet_step (fail))
   refine wpQuiet_nil ?_
   go_wp2_with fail
   refine (c_l02DrawIndex ps'.length (by omega) (hD5.src.more (Ext.refl _).drew)).mono ?_
   rintro e w7 ⟨x7,rfl,hs7,ho7⟩
   have hD7:=hD5.draw hs7 ((Only.refl a w5).drew.trans ho7)
   have hsm:=(SameC.refl [(w1.heap.size,0),(w1.heap.size,1)] w5).drew.trans (SameC.of_only ho7 (by have:=hD5.var.lt; have:=hD5.hg; have:=hD5.lt; simp; omega))
   clear hD5 hs7 ho7 p0 p1 pf pl
   go_wp2_with fail
   refine ⟨hsm,?_⟩
   repeat (go_big_quiet_step (fail))
   refine wpQuiet_nil ?_
   have q0:=hD7.res.cell 0
   have q1:=hD7.res.cell 1
   simp at q0 q1
   have qf:=hD7.res.frozen
   have ql:=hD7.res.lt
   have HF:=hide (hD7.fin3 (by omega) (by omega) x7)
   have hgg:=hD7.hg
   clear hD7
   go_wp2_with fail
   refine ⟨(hsm.setCell (by simp; omega) _).setCell (by simp; omega) _,?_⟩
   repeat (go_big_quiet_step (fail))
   refine wpQuiet_nil ?_
   go_wp2_with fail
   refine bodyPost_ret (v:= .tuple #[.agg #[.slice A1' ns'.length c1',.slice A2' ps'.length c2'],.int .i64 x7]) (by simp [results,Tryz.results106,go_sem,q0,q1]) rfl ?_
   exact HF.out
  ·go_wp2_with fail
   refine (c_next 8 hD5.src (by omega) (by omega)).mono ?_
   rintro e w6 ⟨x6,rfl,hx6,hx6',hs6,ho6⟩
   have hD6:=hD5.draw hs6 ho6
   have hE6:=hE.only ho6 har
   have har6:=hD5.src.lt
   clear hD5 hs6 ho6 hE hs5
   by_cases h6:x6=0
   ·subst h6
    clear hx6 hx6'
    go_wp2_with fail
    have p0:=hD6.var.cell 0
    have p1:=hD6.var.cell 1
    simp at p0 p1
    have pf:=hD6.var.frozen
    have pl:=hD6.var.lt
    go_wp2_with fail
    refine wp_region_phC [(w1.heap.size,0),(w1.heap.size,1)] [([0,1,2,3,4],5),([],6)] [7] (by kernel_rfl) (by kernel_rfl) (by intro c a w d v h; cases d <;> exact h) ?_
    simp only [wpPhC,pickL,nthO]
    repeat (go_big_quiet_step (fail))
    refine wpQuiet_nil ?_
    go_wp2_with fail
    refine (c_l02DrawIndex ps'.length (by omega) (hD6.src.more (Ext.refl _).drew)).mono ?_
    rintro e w7 ⟨x7,rfl,hs7,ho7⟩
    have hD7:=hD6.draw hs7 ((Only.refl a w6).drew.trans ho7)
    have hsm:=(SameC.refl [(w1.heap.size,0),(w1.heap.size,1)] w6).drew.trans (SameC.of_only ho7 (by have:=hD6.var.lt; have:=hD6.hg; have:=hD6.lt; simp; omega))
    clear hD6 hs7 ho7 p0 p1 pf pl
    go_wp2_with fail
    refine ⟨hsm,?_⟩
    repeat (go_big_quiet_step (fail))
    refine wpQuiet_nil ?_
    have q0:=hD7.res.cell 0
    have q1:=hD7.res.cell 1
    simp at q0 q1
    have qf:=hD7.res.frozen
    have ql:=hD7.res.lt
    have HF:=hide (hD7.fin3 (by omega) (by omega) x7)
    have hgg:=hD7.hg
    clear hD7
    go_wp2_with fail
    refine ⟨(hsm.setCell (by simp; omega) _).setCell (by simp; omega) _,?_⟩
    repeat (go_big_quiet_step (fail))
    refine wpQuiet_nil ?_
    go_wp2_with fail
    refine bodyPost_ret (v:= .tuple #[.agg #[.slice A1' ns'.length c1',.slice A2' ps'.length c2'],.int .i64 x7]) (by simp [results,Tryz.results106,go_sem,q0,q1]) rfl ?_
    exact HF.out
   ·have b6:(x6==0)=false:=by rw [beq_eq_false_iff_ne]; exact h6
    have p0:=hD6.var.cell 0
    have p1:=hD6.var.cell 1
    simp at p0 p1
    have pf:=hD6.var.frozen
    have pl:=hD6.var.lt
    go_wp2_with fail
    refine wp_region_phT [(w1.heap.size,0),(w1.heap.size,1)] (.one [0,1,2,3,4] 5 (.two [6] 7 (.one [] 8 (.last [9])) 8 (.one [] 7 (.last [9])))) (by kernel_rfl) (by kernel_rfl) (by intro c a w d v h; cases d <;> exact h) ?_
    simp only [wpPhT,pickL,nthO]
    repeat (go_big_quiet_step (fail))
    refine wpQuiet_nil ?_
    go_wp2_with fail
    refine (c_next E.length (hD6.src.more (Ext.refl _).drew) (by omega) (by omega)).mono ?_
    rintro e w7 ⟨y,rfl,hy0,hy1,hs7,ho7⟩
    obtain ⟨y,rfl⟩:=Int.eq_ofNat_of_zero_le hy0
    have hyE:y<E.length:=by omega
    have hD7:=hD6.draw hs7 ((Only.refl a w6).drew.trans ho7)
    have hE7:=hE6.only ((Only.refl a w6).drew.trans ho7) har
    have hsm:=(SameC.refl [(w1.heap.size,0),(w1.heap.size,1)] w6).drew.trans (SameC.of_only ho7 (by have:=hD6.var.lt; have:=hD6.hg; have:=hD6.lt; simp; omega))
    obtain ⟨b5,o5,z7,rfl,hb5,-,hz7⟩:=(hE7.slE intC_len (by omega)).get hyE
    have hz70:=hz7 0 _ rfl
    simp only [Nat.add_zero,Nat.mul_one] at hz70
    have hb5w:=hE7.block_le (k:=b5) rfl
    clear hD6 hs7 ho7 p0 p1 pf pl hE6 hE7 hz7
    have hgg:=hD7.hg
    have hrl:=hD7.res.lt
    have hb5n:b5≠w.heap.size:=by omega
    have q0:=hD7.res.cell 0
    have q1:=hD7.res.cell 1
    simp at q0 q1
    have qf:=hD7.res.frozen
    have ql:=hD7.res.lt
    have HF:=hide (hD7.fin3 (by omega) (by omega) z7)
    clear hD7
    go_wp2_with fail
    refine ⟨hsm,?_⟩
    repeat (go_big_quiet_step (fail))
    refine wpQuiet_nil ?_
    refine ⟨?_,?_⟩
    ·go_wp2_with fail
     refine ⟨hsm,?_⟩
     repeat (go_big_quiet_step (fail))
     refine wpQuiet_nil ?_
     go_wp2_with fail
     refine ⟨(hsm.setCell (by simp; omega) _).setCell (by simp; omega) _,?_⟩
     repeat (go_big_quiet_step (fail))
     refine wpQuiet_nil ?_
     go_wp2_with fail
     refine bodyPost_ret (v:= .tuple #[.agg #[.slice A1' ns'.length c1',.slice A2' ps'.length c2'],.int .i64 z7]) (by simp [results,Tryz.results106,go_sem,q0,q1]) rfl ?_
     exact HF.out
    ·go_wp2_with fail
     refine ⟨(hsm.setCell (by simp; omega) _).setCell (by simp; omega) _,?_⟩
     repeat (go_big_quiet_step (fail))
     refine wpQuiet_nil ?_
     go_wp2_with fail
     refine ⟨(hsm.setCell (by simp; omega) _).setCell (by simp; omega) _,?_⟩
     repeat (go_big_quiet_step (fail))
     refine wpQuiet_nil ?_
     go_wp2_with fail
     refine bodyPost_ret (v:= .tuple #[.agg #[.slice A1' ns'.length c1',.slice A2' ps'.length c2'],.int .i64 z7]) (by simp [results,Tryz.results106,go_sem,q0,q1]) rfl ?_
     exact HF.out
 ·have b0:(x2==0)=false:=by rw [beq_eq_false_iff_ne]; exact h0
  have p0:=hD.var.cell 0
  have p1:=hD.var.cell 1
  simp at p0 p1
  have pf:=hD.var.frozen
  have pl:=hD.var.lt
  go_wp2_with fail
  obtain ⟨_,_,he1,hsl1⟩:=hD.o1.sl node_len (by omega)
  obtain ⟨_,_,he2,hsl2⟩:=hD.o2.sl pipe_len (by omega)
  simp only [Value.slice.injEq,true_and] at he1 he2
  obtain ⟨rfl,rfl⟩:=he1
  obtain ⟨rfl,rfl⟩:=he2
  refine (c_ChordsOf A1 A2 ns.length c1 ps.length c2 ns ps _ hsl1 hsl2 (fun x hx=>Nat.le_trans (hD.nm x hx) (by omega))).mono ?_
  rintro e w5 ⟨v5,E,z5,rfl,hE,hEl,hx5⟩
  obtain ⟨A5,c5,rfl,hs5⟩:=hE.sl intC_len (by omega)
  have hD5:=hD.more hx5
  have har:=hD.src.lt
  have hrw:=hD.res.lt
  clear hD hsl1 hsl2 hx5 p0 p1 pf pl
  by_cases hE0:E.length=0
  ·go_wp2_with fail
   have p0:=hD5.var.cell 0
   have p1:=hD5.var.cell 1
   simp at p0 p1
   have pf:=hD5.var.frozen
   have pl:=hD5.var.lt
   go_wp2_with fail
   refine wp_region_phC [(w1.heap.size,0),(w1.heap.size,1)] [([0,1,2,3,4],5),([],6)] [7] (by kernel_rfl) (by kernel_rfl) (by intro c a w d v h; cases d <;> exact h) ?_
   simp only [wpPhC,pickL,nthO]
   repeat (go_big_quiet_step (fail))
   refine wpQuiet_nil ?_
   go_wp2_with fail
   refine (c_l02DrawIndex ps.length (by omega) (hD5.src.more (Ext.refl _).drew)).mono ?_
   rintro e w7 ⟨x7,rfl,hs7,ho7⟩
   have hD7:=hD5.draw hs7 ((Only.refl a w5).drew.trans ho7)
   have hsm:=(SameC.refl [(w1.heap.size,0),(w1.heap.size,1)] w5).drew.trans (SameC.of_only ho7 (by have:=hD5.var.lt; have:=hD5.hg; have:=hD5.lt; simp; omega))
   clear hD5 hs7 ho7 p0 p1 pf pl
   go_wp2_with fail
   refine ⟨hsm,?_⟩
   repeat (go_big_quiet_step (fail))
   refine wpQuiet_nil ?_
   have q0:=hD7.res.cell 0
   have q1:=hD7.res.cell 1
   simp at q0 q1
   have qf:=hD7.res.frozen
   have ql:=hD7.res.lt
   have HF:=hide (hD7.fin3 (by omega) (by omega) x7)
   have hgg:=hD7.hg
   clear hD7
   go_wp2_with fail
   refine ⟨(hsm.setCell (by simp; omega) _).setCell (by simp; omega) _,?_⟩
   repeat (go_big_quiet_step (fail))
   refine wpQuiet_nil ?_
   go_wp2_with fail
   refine bodyPost_ret (v:= .tuple #[.agg #[.slice A1 ns.length c1,.slice A2 ps.length c2],.int .i64 x7]) (by simp [results,Tryz.results106,go_sem,q0,q1]) rfl ?_
   exact HF.out
  ·go_wp2_with fail
   refine (c_next 8 hD5.src (by omega) (by omega)).mono ?_
   rintro e w6 ⟨x6,rfl,hx6,hx6',hs6,ho6⟩
   have hD6:=hD5.draw hs6 ho6
   have hE6:=hE.only ho6 har
   have har6:=hD5.src.lt
   clear hD5 hs6 ho6 hE hs5
   by_cases h6:x6=0
   ·subst h6
    clear hx6 hx6'
    go_wp2_with fail
    have p0:=hD6.var.cell 0
    have p1:=hD6.var.cell 1
    simp at p0 p1
    have pf:=hD6.var.frozen
    have pl:=hD6.var.lt
    go_wp2_with fail
    refine wp_region_phC [(w1.heap.size,0),(w1.heap.size,1)] [([0,1,2,3,4],5),([],6)] [7] (by kernel_rfl) (by kernel_rfl) (by intro c a w d v h; cases d <;> exact h) ?_
    simp only [wpPhC,pickL,nthO]
    repeat (go_big_quiet_step (fail))
    refine wpQuiet_nil ?_
    go_wp2_with fail
    refine (c_l02DrawIndex ps.length (by omega) (hD6.src.more (Ext.refl _).drew)).mono ?_
    rintro e w7 ⟨x7,rfl,hs7,ho7⟩
    have hD7:=hD6.draw hs7 ((Only.refl a w6).drew.trans ho7)
    have hsm:=(SameC.refl [(w1.heap.size,0),(w1.heap.size,1)] w6).drew.trans (SameC.of_only ho7 (by have:=hD6.var.lt; have:=hD6.hg; have:=hD6.lt; simp; omega))
    clear hD6 hs7 ho7 p0 p1 pf pl
    go_wp2_with fail
    refine ⟨hsm,?_⟩
    repeat (go_big_quiet_step (fail))
    refine wpQuiet_nil ?_
    have q0:=hD7.res.cell 0
    have q1:=hD7.res.cell 1
    simp at q0 q1
    have qf:=hD7.res.frozen
    have ql:=hD7.res.lt
    have HF:=hide (hD7.fin3 (by omega) (by omega) x7)
    have hgg:=hD7.hg
    clear hD7
    go_wp2_with fail
    refine ⟨(hsm.setCell (by simp; omega) _).setCell (by simp; omega) _,?_⟩
    repeat (go_big_quiet_step (fail))
    refine wpQuiet_nil ?_
    go_wp2_with fail
    refine bodyPost_ret (v:= .tuple #[.agg #[.slice A1 ns.length c1,.slice A2 ps.length c2],.int .i64 x7]) (by simp [results,Tryz.results106,go_sem,q0,q1]) rfl ?_
    exact HF.out
   ·have b6:(x6==0)=false:=by rw [beq_eq_false_iff_ne]; exact h6
    have p0:=hD6.var.cell 0
    have p1:=hD6.var.cell 1
    simp at p0 p1
    have pf:=hD6.var.frozen
    have pl:=hD6.var.lt
    go_wp2_with fail
    refine wp_region_phT [(w1.heap.size,0),(w1.heap.size,1)] (.one [0,1,2,3,4] 5 (.two [6] 7 (.one [] 8 (.last [9])) 8 (.one [] 7 (.last [9])))) (by kernel_rfl) (by kernel_rfl) (by intro c a w d v h; cases d <;> exact h) ?_
    simp only [wpPhT,pickL,nthO]
    repeat (go_big_quiet_step (fail))
    refine wpQuiet_nil ?_
    go_wp2_with fail
    refine (c_next E.length (hD6.src.more (Ext.refl _).drew) (by omega) (by omega)).mono ?_
    rintro e w7 ⟨y,rfl,hy0,hy1,hs7,ho7⟩
    obtain ⟨y,rfl⟩:=Int.eq_ofNat_of_zero_le hy0
    have hyE:y<E.length:=by omega
    have hD7:=hD6.draw hs7 ((Only.refl a w6).drew.trans ho7)
    have hE7:=hE6.only ((Only.refl a w6).drew.trans ho7) har
    have hsm:=(SameC.refl [(w1.heap.size,0),(w1.heap.size,1)] w6).drew.trans (SameC.of_only ho7 (by have:=hD6.var.lt; have:=hD6.hg; have:=hD6.lt; simp; omega))
    obtain ⟨b5,o5,z7,rfl,hb5,-,hz7⟩:=(hE7.slE intC_len (by omega)).get hyE
    have hz70:=hz7 0 _ rfl
    simp only [Nat.add_zero,Nat.mul_one] at hz70
    have hb5w:=hE7.block_le (k:=b5) rfl
    clear hD6 hs7 ho7 p0 p1 pf pl hE6 hE7 hz7
    have hgg:=hD7.hg
    have hrl:=hD7.res.lt
    have hb5n:b5≠w.heap.size:=by omega
    have q0:=hD7.res.cell 0
    have q1:=hD7.res.cell 1
    simp at q0 q1
    have qf:=hD7.res.frozen
    have ql:=hD7.res.lt
    have HF:=hide (hD7.fin3 (by omega) (by omega) z7)
    clear hD7
    go_wp2_with fail
    refine ⟨hsm,?_⟩
    repeat (go_big_quiet_step (fail))
    refine wpQuiet_nil ?_
    refine ⟨?_,?_⟩
    ·go_wp2_with fail
     refine ⟨hsm,?_⟩
     repeat (go_big_quiet_step (fail))
     refine wpQuiet_nil ?_
     go_wp2_with fail
     refine ⟨(hsm.setCell (by simp; omega) _).setCell (by simp; omega) _,?_⟩
     repeat (go_big_quiet_step (fail))
     refine wpQuiet_nil ?_
     go_wp2_with fail
     refine bodyPost_ret (v:= .tuple #[.agg #[.slice A1 ns.length c1,.slice A2 ps.length c2],.int .i64 z7]) (by simp [results,Tryz.results106,go_sem,q0,q1]) rfl ?_
     exact HF.out
    ·go_wp2_with fail
     refine ⟨(hsm.setCell (by simp; omega) _).setCell (by simp; omega) _,?_⟩
     repeat (go_big_quiet_step (fail))
     refine wpQuiet_nil ?_
     go_wp2_with fail
     refine ⟨(hsm.setCell (by simp; omega) _).setCell (by simp; omega) _,?_⟩
     repeat (go_big_quiet_step (fail))
     refine wpQuiet_nil ?_
     go_wp2_with fail
     refine bodyPost_ret (v:= .tuple #[.agg #[.slice A1 ns.length c1,.slice A2 ps.length c2],.int .i64 z7]) (by simp [results,Tryz.results106,go_sem,q0,q1]) rfl ?_
     exact HF.out
end
end Go.Proofs.YtinindjjapblcaaGreatDoor
