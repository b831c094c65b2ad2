/-
  The reference's draw of a network and a book.
-/
import Derived.Test.YtinindjjapblcaaGreatDoorWa13
import Derived.Test.YtinindjjapblcaaGreatDoorWa04
namespace Go.Proofs.YtinindjjapblcaaGreatDoor
open Go.RowKit
set_option maxHeartbeats 1000000 in
theorem c_specIsContract (A1 A2:Option Addr) (n1 c1 n2 c2:Nat) (ns:List Node) (ps:List Pipe) (x:Contract) (w:World) (hs1:SliceOf w 3 Node.cells A1 n1 c1 ns) (hs2:SliceOf w 5 Pipe.cells A2 n2 c2 ps) (hnm:∀x∈ns,x.name.size≤1048576) (hn:n1≤9223372036854775807):
  Calls Tryz.prog 108 #[.agg #[.slice A1 n1 c1,.slice A2 n2 c2],.agg #[.int .i64 x.shipper,.int .i64 x.entry,.int .i64 x.exit,.int .i64 x.amount,.int .i64 x.cls,.int .i64 x.start,.int .i64 x.stop,.int .i64 x.price]] w (RetB w):=by
 have HNM:=hide hnm
 clear hnm
 have hx0:Ext w ((w.alloc (.cells #[.slice A1 n1 c1,.slice A2 n2 c2] 27)).alloc (.cells #[.int .i64 x.shipper,.int .i64 x.entry,.int .i64 x.exit,.int .i64 x.amount,.int .i64 x.cls,.int .i64 x.start,.int .i64 x.stop,.int .i64 x.price] 98)):=(Ext.alloc _ _).and_alloc _
 have hB:Row ((w.alloc (.cells #[.slice A1 n1 c1,.slice A2 n2 c2] 27)).alloc (.cells #[.int .i64 x.shipper,.int .i64 x.entry,.int .i64 x.exit,.int .i64 x.amount,.int .i64 x.cls,.int .i64 x.start,.int .i64 x.stop,.int .i64 x.price] 98)) w.heap.size 27 [.slice A1 n1 c1,.slice A2 n2 c2]:=(Row.new w 27 _).ext (Ext.alloc _ _)
 have hC:Row ((w.alloc (.cells #[.slice A1 n1 c1,.slice A2 n2 c2] 27)).alloc (.cells #[.int .i64 x.shipper,.int .i64 x.entry,.int .i64 x.exit,.int .i64 x.amount,.int .i64 x.cls,.int .i64 x.start,.int .i64 x.stop,.int .i64 x.price] 98)) (w.heap.size+1) 98 x.cells:=Row.newG _ _ (by simp)
 go_enter Tryz.func108,Tryz.ntmps108
 go_wp2_with fail
 refine (c_specIsNetwork A1 A2 n1 c1 n2 c2 ns ps _ (hs1.ext hx0) (hs2.ext hx0) HNM.out).mono ?_
 cases hb:netB ns ps
 ·rintro e w1 ⟨rfl,hx1⟩
  go_wp2_with fail
  go_ret
  exact ⟨_,rfl,hx0.trans hx1⟩
 ·rintro e w1 ⟨rfl,hx1⟩
  have b0:=(hB.ext hx1).cell 0
  have b1:=(hB.ext hx1).cell 1
  simp at b0 b1
  have bl:=(hB.ext hx1).lt
  have k0:=(hC.ext hx1).cell 0
  have k1:=(hC.ext hx1).cell 1
  have k2:=(hC.ext hx1).cell 2
  have k3:=(hC.ext hx1).cell 3
  have k4:=(hC.ext hx1).cell 4
  have k5:=(hC.ext hx1).cell 5
  have k6:=(hC.ext hx1).cell 6
  have k7:=(hC.ext hx1).cell 7
  simp [Contract.cells] at k0 k1 k2 k3 k4 k5 k6 k7
  have kl:=(hC.ext hx1).lt
  go_wp2_with fail
  refine (c_l20Is A1 A2 n1 c1 n2 c2 x _ hn).mono ?_
  rintro e w2 ⟨rfl,hx2⟩
  go_wp2_with fail
  go_ret
  exact ⟨_,rfl,hx0.trans (hx1.trans hx2)⟩
structure BSt (w0 w:World) (a:Nat) (A:Option Addr) (n c g:Nat) (v1 v2 v3:Value) (ns:List Node) (ps:List Pipe) (xs:List Contract) (wr:World):Prop where
 net:ASt w0 w a A n c g v1 v2 ns ps wr
 o3:OwnL wr (w.heap.size+1) 98 8 Contract.cells v3 xs
 cs:∀x∈xs,CSm x
def DrawnBook (w0:World) (a:Nat) (A:Option Addr) (n c:Nat) (w:World) (e:Ending) (w':World):Prop:=
 ∃(v1 v2 v3:Value) (ns:List Node) (ps:List Pipe) (xs:List Contract),e= .returned (.tuple #[.agg #[v1,v2],v3])∧Src w0 w' a A n c∧Only a w w'∧OwnL w' (w.heap.size+1) 147 3 Node.cells v1 ns∧OwnL w' (w.heap.size+1) 149 5 Pipe.cells v2 ps∧OwnL w' (w.heap.size+1) 98 8 Contract.cells v3 xs∧ns.length≤7∧ps.length≤30∧xs.length≤40∧Short ns∧∀x∈xs,CSm x
section
variable {w0 w wr wr':World} {a n c g:Nat} {A:Option Addr} {v1 v2 v3 v':Value} {ns:List Node} {ps:List Pipe} {xs:List Contract}
theorem BSt.draw (h:BSt w0 w a A n c g v1 v2 v3 ns ps xs wr) (hs:Src w0 wr' a A n c) (ho:Only a wr wr'):BSt w0 w a A n c g v1 v2 v3 ns ps xs wr':=
 have hl:=h.net.lt
 ⟨h.net.draw hs ho,h.o3.only ho (by omega),h.cs⟩
theorem BSt.more (h:BSt w0 w a A n c g v1 v2 v3 ns ps xs wr) (hx:Ext wr wr'):BSt w0 w a A n c g v1 v2 v3 ns ps xs wr':=h.draw (h.net.src.more hx) (Only.of_ext hx a)
theorem BSt.app (h:BSt w0 w a A n c g v1 v2 v3 ns ps xs wr) (hgr:wr.grownBy wr' v3.ownBlock) {xs':List Contract} (ho:OwnL wr' (w.heap.size+1) 98 8 Contract.cells v' xs') (hc:∀x∈xs',CSm x):BSt w0 w a A n c g v1 v2 v' ns ps xs' wr':=by
 have hl:=h.net.lt
 have hle:=h.net.src.le0
 have hb:=fun k (hk:v3.ownBlock=some k)=>h.o3.block_le hk
 refine ⟨⟨hl,h.net.src.grow hgr (fun k hk=>by have:=hb k hk; omega),h.net.only.grown hgr (fun k hk=> .inl (by have:=hb k hk; omega)),h.net.res.grown hgr (fun e=>by have:=hb _ e; omega),h.net.var.grown hgr (fun e=>h.o3.not_row h.net.var (by decide) g e rfl),h.net.hg,h.net.o1.grown hgr (fun k hk=> ?_),h.net.o2.grown hgr (fun k hk=> ?_),h.net.nm⟩,ho,hc⟩
 ·exact fun e=>OwnL.apart h.o3 h.net.o1 (by decide) k hk e
 ·exact fun e=>OwnL.apart h.o3 h.net.o2 (by decide) k hk e
theorem BSt.fin (h:BSt w0 w a A n c g v1 v2 v3 ns ps xs wr) (h2:ns.length≤7) (h3:ps.length≤30) (h4:xs.length≤40):
  DrawnBook w0 a A n c w (.returned (.tuple #[.agg #[v1,v2],v3])) (putCells wr w.heap.size 0 [v1,v2]):=by
 have hl:=h.net.lt
 have hle:=h.net.src.le0
 exact ⟨v1,v2,v3,ns,ps,xs,rfl,h.net.src.put (by omega) (by omega) _ _,h.net.only.putNew (Nat.le_refl _) _ _,h.net.o1.put h.net.res (by decide) _ _,h.net.o2.put h.net.res (by decide) _ _,h.o3.put h.net.res (by decide) _ _,h2,h3,h4,h.net.nm,h.cs⟩
theorem con_snoc (h:∀x∈xs,CSm x) {y:Contract} (hy:CSm y):∀x∈xs++[y],CSm x:=by
 intro x hx
 rcases List.mem_append.1 hx with hx | hx
 ·exact h x hx
 ·obtain rfl:=List.mem_singleton.1 hx; exact hy
theorem con_one' (y:Contract):∀u∈y.cells,u.oneCell'=true:=by intro u hu; simp [Contract.cells] at hu; rcases hu with rfl | rfl | rfl | rfl | rfl | rfl | rfl | rfl <;> rfl
set_option maxHeartbeats 8000000 in
theorem c_l20Draw (h:Src w0 w a A n c):
  Calls Tryz.prog 57 #[.pointer (some ⟨a,0,none⟩)] w (DrawnBook w0 a A n c w):=by
 have hal:=h.lt
 have hle:=h.le0
 go_enter Tryz.func57,Tryz.ntmps57
 go_wp2_with fail
 refine (c_l05DrawChord (h.more (Ext.alloc _ _))).mono ?_
 rintro e w1 ⟨v1,v2,ns,ps,x1,rfl,hs1,ho1,o1,o2,hn7,hp,hnm⟩
 have hD0:=ASt.new hal hs1 ho1 (o1.lowG (by simp)) (o2.lowG (by simp)) hnm
 have hz1:=ho1.size
 simp at hz1
 obtain ⟨A1,c1,rfl,hs1'⟩:=hD0.o1.sl node_len (by omega)
 obtain ⟨A2,c2,rfl,hs2'⟩:=hD0.o2.sl pipe_len (by omega)
 clear hs1 ho1 o1 o2 hs1' hs2'
 have hx:=Ext.alloc (w1.alloc (.cells #[.slice A1 ns.length c1,.slice A2 ps.length c2] 27)) (.cells #[] 98)
 have hD1:BSt w0 w a A n c w1.heap.size (.slice A1 ns.length c1) (.slice A2 ps.length c2) (.slice (some ⟨w1.heap.size+1,0,none⟩) 0 0) ns ps [] ((w1.alloc (.cells #[.slice A1 ns.length c1,.slice A2 ps.length c2] 27)).alloc (.cells #[] 98)):=
  ⟨hD0.more hx,own_new _ _ _ _ _ _ (by simp) (by omega),fun x hx=>by cases hx⟩
 clear hD0 hx
 go_wp2_with fail
 refine (c_next 6 hD1.net.src (by omega) (by omega)).mono ?_
 rintro e w2 ⟨x2,rfl,hx2,hx2',hs2,ho2⟩
 obtain ⟨j0,rfl⟩:=Int.eq_ofNat_of_zero_le hx2
 have hD2:=hD1.draw hs2 ho2
 clear hD1 hs2 ho2
 go_wp2_with fail
 go_loopw [6,7] (fun u i wr=>∃(j:Nat) (xs:List Contract),j≤5∧i= .int .i64 j∧xs.length+j≤5∧BSt w0 w a A n c w1.heap.size (.slice A1 ns.length c1) (.slice A2 ps.length c2) u ns ps xs wr) (fun _ i _=>(intOf i).toNat)
 case atStart=>exact ⟨j0,[],by omega,rfl,by simp; omega,hD2⟩
 case round=>
  clear hD2
  obtain ⟨j,xs,hj,rfl,hxs,hD⟩:=hrel
  by_cases hj0:0<j
  ·have p0:=hD.net.var.cell 0
   have p1:=hD.net.var.cell 1
   simp at p0 p1
   have pf:=hD.net.var.frozen
   have pl:=hD.net.var.lt
   go_wp2_with fail
   refine (c_l20DrawOne A1 A2 ns.length c1 ps.length c2 (by omega) hD.net.src).mono ?_
   rintro e w3 ⟨y,rfl,hyc,hs3,ho3⟩
   have hD3:=hD.draw hs3 ho3
   have hx3:Ext w3 (w3.alloc (.cells y.cells.toArray 98)):=Ext.alloc _ _
   have hD4:=hD3.more hx3
   have hC4:=Row.new w3 98 y.cells
   clear hs3 ho3 hx3 p0 p1 pf pl hD
   have p0:=hD3.net.var.cell 0
   have p1:=hD3.net.var.cell 1
   simp at p0 p1
   have pf:=hD3.net.var.frozen
   have pl:=hD3.net.var.lt
   obtain ⟨W4,HW4⟩:∃W4,Hid (w3.alloc (.cells y.cells.toArray 98)=W4):=⟨_,hide rfl⟩
   rw [HW4.out] at hD4 hC4
   go_wp2_with fail
   have HW4':Hid (w3.alloc (.cells #[.int .i64 y.shipper,.int .i64 y.entry,.int .i64 y.exit,.int .i64 y.amount,.int .i64 y.cls,.int .i64 y.start,.int .i64 y.stop,.int .i64 y.price] 98)=W4):=HW4
   rw [HW4'.out]
   have ha3:=hD3.net.src.lt
   clear hD3 p0 p1 pf pl
   refine (c_specIsContract A1 A2 ns.length c1 ps.length c2 ns ps y _ (hD4.net.o1.slE node_len (by omega)) (hD4.net.o2.slE pipe_len (by omega)) (fun x hx=>Nat.le_trans (hD4.net.nm x hx) (by omega)) (by omega)).mono ?_
   rintro e w5 ⟨bb,rfl,hx5⟩
   have hD5:=hD4.more hx5
   have hC5:=hC4.ext hx5
   clear hD4 hC4 hx5
   cases bb
   ·go_wp2_with fail
    refine (c_next 10 hD5.net.src (by omega) (by omega)).mono ?_
    rintro e w6 ⟨x6,rfl,hx6,hx6',hs6,ho6⟩
    have hD6:=hD5.draw hs6 ho6
    have hC6:=hC5.only ho6 (by omega)
    clear hD5 hs6 ho6 hC5
    by_cases h6:x6=0
    ·subst h6
     have k0:=hC6.cell 0
     have k1:=hC6.cell 1
     have k2:=hC6.cell 2
     have k3:=hC6.cell 3
     have k4:=hC6.cell 4
     have k5:=hC6.cell 5
     have k6:=hC6.cell 6
     have k7:=hC6.cell 7
     simp [Contract.cells] at k0 k1 k2 k3 k4 k5 k6 k7
     have kl:=hC6.lt
     have hv6:=hD6.net.var.lt
     go_wp2_with (at_builtin; go_must (refine wpList_append_grow rfl _ _ 28 rfl (w.heap.size+1) 98 _ 8 64 Tryz.underlying28 contract_info rfl (by decide) Contract.cells contract_len con_one' _ _ rfl (hD6.o3.ext (Ext.alloc _ _)) _ 1 1 [y] rfl (new_one contract_len w6 98 y) (by simp; omega) (by omega) (by first | exact Nat.le_refl _ | omega | (simp; done) | (simp; omega)) ?_))
     intro v7 w7 ho7 hg7
     have hD7:=(hD6.more (Ext.alloc w6 (.cells y.cells.toArray 98))).app hg7 ho7 (con_snoc hD6.cs hyc)
     clear hD6 ho7 hg7 hC6 k0 k1 k2 k3 k4 k5 k6 k7 kl
     go_wp2_with fail
     go_roundw
     case rel=>exact ⟨j-1,_,by omega,by go_num,by simp; omega,hD7⟩
     case measure=>simp [intOf]; omega
    ·have b6:(x6==0)=false:=by rw [beq_eq_false_iff_ne]; exact h6
     go_wp2_with fail
     go_roundw
     case rel=>exact ⟨j-1,_,by omega,by go_num,by omega,hD6⟩
     case measure=>simp [intOf]; omega
   ·have k0:=hC5.cell 0
    have k1:=hC5.cell 1
    have k2:=hC5.cell 2
    have k3:=hC5.cell 3
    have k4:=hC5.cell 4
    have k5:=hC5.cell 5
    have k6:=hC5.cell 6
    have k7:=hC5.cell 7
    simp [Contract.cells] at k0 k1 k2 k3 k4 k5 k6 k7
    have kl:=hC5.lt
    have hv5:=hD5.net.var.lt
    go_wp2_with (at_builtin; go_must (refine wpList_append_grow rfl _ _ 28 rfl (w.heap.size+1) 98 _ 8 64 Tryz.underlying28 contract_info rfl (by decide) Contract.cells contract_len con_one' _ _ rfl (hD5.o3.ext (Ext.alloc _ _)) _ 1 1 [y] rfl (new_one contract_len w5 98 y) (by simp; omega) (by omega) (by first | exact Nat.le_refl _ | omega | (simp; done) | (simp; omega)) ?_))
    intro v7 w7 ho7 hg7
    have hD7:=(hD5.more (Ext.alloc w5 (.cells y.cells.toArray 98))).app hg7 ho7 (con_snoc hD5.cs hyc)
    clear hD5 ho7 hg7 hC5 k0 k1 k2 k3 k4 k5 k6 k7 kl
    go_wp2_with fail
    go_roundw
    case rel=>exact ⟨j-1,_,by omega,by go_num,by simp; omega,hD7⟩
    case measure=>simp [intOf]; omega
  ·obtain rfl:j=0:=by omega
   obtain ⟨A3,c3,rfl,_⟩:=hD.o3.form
   by_cases hx0:xs.length=0
   ·have p0:=hD.net.var.cell 0
    have p1:=hD.net.var.cell 1
    simp at p0 p1
    have pf:=hD.net.var.frozen
    have pl:=hD.net.var.lt
    have q0:=hD.net.res.cell 0
    have q1:=hD.net.res.cell 1
    simp at q0 q1
    have qf:=hD.net.res.frozen
    have ql:=hD.net.res.lt
    have HF:=hide (hD.fin (by omega) (by omega) (by omega))
    clear hD
    go_wp2_with fail
    refine bodyPost_ret (v:= .tuple #[.agg #[.slice A1 ns.length c1,.slice A2 ps.length c2],.slice A3 xs.length c3]) (by simp [results,Tryz.results57,go_sem,q0,q1]) rfl ?_
    exact HF.out
   ·go_wp2_with fail
    refine (c_next 60 hD.net.src (by omega) (by omega)).mono ?_
    rintro e w3 ⟨x3,rfl,hx3,hx3',hs3,ho3⟩
    have hD3:=hD.draw hs3 ho3
    clear hD hs3 ho3
    by_cases h3:x3=0
    ·subst h3
     have hxs1:1≤xs.length:=by omega
     clear hx3 hx3'
     go_wp2_with fail
     go_loopw [6] (fun u wr=>∃(xs:List Contract),1≤xs.length∧xs.length≤34∧BSt w0 w a A n c w1.heap.size (.slice A1 ns.length c1) (.slice A2 ps.length c2) u ns ps xs wr) (fun u _=>34-(match u with | .slice _ m _=>m | _=>0))
     case atStart=>exact ⟨xs,hxs1,by omega,hD3⟩
     case round=>
      clear hD3 hxs hx0 hxs1
      obtain ⟨xs,hxs1,hxs2,hD⟩:=hrel
      obtain ⟨A3,c3,rfl,hs3⟩:=hD.o3.sl contract_len (by omega)
      go_wp2_with fail
      refine (c_next 2 hD.net.src (by omega) (by omega)).mono ?_
      rintro e w4 ⟨x4,rfl,hx4,hx4',hs4,ho4⟩
      have hD4:=hD.draw hs4 ho4
      clear hD hs4 ho4 hs3
      by_cases hm:(xs.length:Int)<32+x4
      ·obtain ⟨b3,o3,y,rfl,hb3,hy,hyc⟩:=(hD4.o3.slE contract_len (by omega)).get (k:=0) (by omega)
       have hyS:=hD4.cs y (List.mem_of_getElem? hy)
       have k0:=hyc 0 _ rfl
       have k1:=hyc 1 _ rfl
       have k2:=hyc 2 _ rfl
       have k3:=hyc 3 _ rfl
       have k4:=hyc 4 _ rfl
       have k5:=hyc 5 _ rfl
       have k6:=hyc 6 _ rfl
       have k7:=hyc 7 _ rfl
       simp only [Nat.zero_mul,Nat.add_zero] at k0 k1 k2 k3 k4 k5 k6 k7
       have hv4:=hD4.net.var.lt
       clear hy hyc
       go_wp2_with (at_builtin; go_must (refine wpList_append_grow rfl _ _ 28 rfl (w.heap.size+1) 98 _ 8 64 Tryz.underlying28 contract_info rfl (by decide) Contract.cells contract_len con_one' _ _ rfl (hD4.o3.ext (Ext.alloc _ _)) _ 1 1 [y] rfl (new_one contract_len w4 98 y) (by simp; omega) (by omega) (by first | exact Nat.le_refl _ | omega | (simp; done) | (simp; omega)) ?_))
       intro v7 w7 ho7 hg7
       have hD7:=(hD4.more (Ext.alloc w4 (.cells y.cells.toArray 98))).app hg7 ho7 (con_snoc hD4.cs hyS)
       have hl7:(xs++[y]).length=xs.length+1:=by simp
       obtain ⟨A7,c7,rfl,_⟩:=ho7.form
       clear hD4 ho7 hg7 k0 k1 k2 k3 k4 k5 k6 k7
       go_wp2_with fail
       go_roundw
       case rel=>exact ⟨xs++[y],by omega,by omega,hD7⟩
       case measure=>simp; omega
      ·have hD:=hD4
       clear hD4
       have p0:=hD.net.var.cell 0
       have p1:=hD.net.var.cell 1
       simp at p0 p1
       have pf:=hD.net.var.frozen
       have pl:=hD.net.var.lt
       have q0:=hD.net.res.cell 0
       have q1:=hD.net.res.cell 1
       simp at q0 q1
       have qf:=hD.net.res.frozen
       have ql:=hD.net.res.lt
       have HF:=hide (hD.fin (by omega) (by omega) (by omega))
       clear hD
       go_wp2_with fail
       refine bodyPost_ret (v:= .tuple #[.agg #[.slice A1 ns.length c1,.slice A2 ps.length c2],.slice A3 xs.length c3]) (by simp [results,Tryz.results57,go_sem,q0,q1]) rfl ?_
       exact HF.out
    ·have b3:(x3==0)=false:=by rw [beq_eq_false_iff_ne]; exact h3
     have hD:=hD3
     clear hD3
     have p0:=hD.net.var.cell 0
     have p1:=hD.net.var.cell 1
     simp at p0 p1
     have pf:=hD.net.var.frozen
     have pl:=hD.net.var.lt
     have q0:=hD.net.res.cell 0
     have q1:=hD.net.res.cell 1
     simp at q0 q1
     have qf:=hD.net.res.frozen
     have ql:=hD.net.res.lt
     have HF:=hide (hD.fin (by omega) (by omega) (by omega))
     clear hD
     go_wp2_with fail
     refine bodyPost_ret (v:= .tuple #[.agg #[.slice A1 ns.length c1,.slice A2 ps.length c2],.slice A3 xs.length c3]) (by simp [results,Tryz.results57,go_sem,q0,q1]) rfl ?_
     exact HF.out
end
end Go.Proofs.YtinindjjapblcaaGreatDoor
