/-
  The reference's draw of a network, a book and nominations.
-/
import Derived.Test.YtfkpghdmljjegaaGreatVe14
import Derived.Test.YtfkpghdmljjegaaGreatVe05
namespace Go.Proofs.YtfkpghdmljjegaaGreat
open Go.RowKit
set_option maxHeartbeats 1000000 in
theorem c_specIsNomination (A1 A2:Option Addr) (n1 c1 n2 c2:Nat) (ns:List Node) (ps:List Pipe) (A:Option Addr) (n c:Nat) (xs:List Contract) (x:Nomination) (w:World) (hs1:SliceOf w 3 Node.cells A1 n1 c1 ns) (hs2:SliceOf w 5 Pipe.cells A2 n2 c2 ps) (hs:SliceOf w 8 Contract.cells A n c xs) (hnm:∀x∈ns,x.name.size≤1048576):
  Calls Tryz.prog 287 #[.agg #[.slice A1 n1 c1,.slice A2 n2 c2],.slice A n c,.agg #[.int .i64 x.contract,.int .i64 x.hour,.int .i64 x.sent,.int .i64 x.amount]] w (RetB w):=by
 have HNM:=hide hnm
 clear hnm
 have hx0:Ext w ((w.alloc (.cells #[.slice A1 n1 c1,.slice A2 n2 c2] 45)).alloc (.cells #[.int .i64 x.contract,.int .i64 x.hour,.int .i64 x.sent,.int .i64 x.amount] 157)):=(Ext.alloc _ _).and_alloc _
 have hC:Row ((w.alloc (.cells #[.slice A1 n1 c1,.slice A2 n2 c2] 45)).alloc (.cells #[.int .i64 x.contract,.int .i64 x.hour,.int .i64 x.sent,.int .i64 x.amount] 157)) (w.heap.size+1) 157 x.cells:=Row.newG _ _ (by simp)
 go_enter Tryz.func287,Tryz.ntmps287
 go_wp2_with fail
 refine (c_specIsBook A1 A2 n1 c1 n2 c2 ns ps A n c xs _ (hs1.ext hx0) (hs2.ext hx0) (hs.ext hx0) HNM.out).mono ?_
 cases hb:(netB ns ps&&bookB n1 xs)
 ·rintro e w1 ⟨rfl,hx1⟩
  go_wp2_with fail
  go_ret
  exact ⟨_,rfl,hx0.trans hx1⟩
 ·rintro e w1 ⟨rfl,hx1⟩
  have HOK:=hide (book_hours (xs:=xs) (nn:=n1) (by simp only [Bool.and_eq_true] at hb; exact hb.2))
  clear hb
  have k0:=(hC.ext hx1).cell 0
  have k1:=(hC.ext hx1).cell 1
  have k2:=(hC.ext hx1).cell 2
  have k3:=(hC.ext hx1).cell 3
  simp [Nomination.cells] at k0 k1 k2 k3
  have kl:=(hC.ext hx1).lt
  go_wp2_with fail
  refine (c_l21Is A n c xs x _ (hs.ext (hx0.trans hx1)) HOK.out).mono ?_
  rintro e w2 ⟨rfl,hx2⟩
  go_wp2_with fail
  go_ret
  exact ⟨_,rfl,hx0.trans (hx1.trans hx2)⟩
theorem own_blkD {A:Option Addr} {n c b:Nat} (h:blkOf A n=some b):(Value.slice A n c).ownBlock=some b:=by
 unfold blkOf at h
 split at h
 ·cases h
 ·cases A with
  | none=>cases h
  | some a=>simpa [Value.ownBlock] using h
structure XSt (w0 w:World) (a:Nat) (A:Option Addr) (n c g:Nat) (v1 v2 v3 v4:Value) (ns:List Node) (ps:List Pipe) (xs:List Contract) (L:List Nomination) (wr:World):Prop where
 bk:BSt w0 w a A n c g v1 v2 v3 ns ps xs wr
 o4:OwnL wr (w.heap.size+1) 157 4 Nomination.cells v4 L
def DrawnNoms (w0:World) (a:Nat) (A:Option Addr) (n c:Nat) (w:World) (e:Ending) (w':World):Prop:=
 ∃(v1 v2 v3 v4:Value) (ns:List Node) (ps:List Pipe) (xs:List Contract) (L:List Nomination),e= .returned (.tuple #[.agg #[v1,v2],v3,v4])∧Src w0 w' a A n c∧Only a w w'∧OwnL w' (w.heap.size+1) 223 3 Node.cells v1 ns∧OwnL w' (w.heap.size+1) 181 5 Pipe.cells v2 ps∧OwnL w' (w.heap.size+1) 153 8 Contract.cells v3 xs∧OwnL w' (w.heap.size+1) 157 4 Nomination.cells v4 L∧ns.length≤7∧ps.length≤30∧xs.length≤40∧L.length≤210∧Short ns∧∀x∈xs,CSm x
section
variable {w0 w wr wr':World} {a n c g:Nat} {A:Option Addr} {v1 v2 v3 v4 v':Value} {ns:List Node} {ps:List Pipe} {xs:List Contract} {L:List Nomination}
theorem XSt.draw (h:XSt w0 w a A n c g v1 v2 v3 v4 ns ps xs L wr) (hs:Src w0 wr' a A n c) (ho:Only a wr wr'):XSt w0 w a A n c g v1 v2 v3 v4 ns ps xs L wr':=
 have hl:=h.bk.net.lt
 ⟨h.bk.draw hs ho,h.o4.only ho (by omega)⟩
theorem XSt.more (h:XSt w0 w a A n c g v1 v2 v3 v4 ns ps xs L wr) (hx:Ext wr wr'):XSt w0 w a A n c g v1 v2 v3 v4 ns ps xs L wr':=h.draw (h.bk.net.src.more hx) (Only.of_ext hx a)
theorem XSt.app (h:XSt w0 w a A n c g v1 v2 v3 v4 ns ps xs L wr) (hgr:wr.grownBy wr' v4.ownBlock) {L':List Nomination} (ho:OwnL wr' (w.heap.size+1) 157 4 Nomination.cells v' L'):XSt w0 w a A n c g v1 v2 v3 v' ns ps xs L' wr':=by
 have hl:=h.bk.net.lt
 have hle:=h.bk.net.src.le0
 have hb:=fun k (hk:v4.ownBlock=some k)=>h.o4.block_le hk
 refine ⟨⟨⟨hl,h.bk.net.src.grow hgr (fun k hk=>by have:=hb k hk; omega),h.bk.net.only.grown hgr (fun k hk=> .inl (by have:=hb k hk; omega)),h.bk.net.res.grown hgr (fun e=>by have:=hb _ e; omega),h.bk.net.var.grown hgr (fun e=>h.o4.not_row h.bk.net.var (by decide) g e rfl),h.bk.net.hg,h.bk.net.o1.grown hgr (fun k hk=> ?_),h.bk.net.o2.grown hgr (fun k hk=> ?_),h.bk.net.nm⟩,h.bk.o3.grown hgr (fun k hk=> ?_),h.bk.cs⟩,ho⟩
 ·exact fun e=>OwnL.apart h.o4 h.bk.net.o1 (by decide) k hk e
 ·exact fun e=>OwnL.apart h.o4 h.bk.net.o2 (by decide) k hk e
 ·exact fun e=>OwnL.apart h.o4 h.bk.o3 (by decide) k hk e
theorem XSt.fin (h:XSt w0 w a A n c g v1 v2 v3 v4 ns ps xs L wr) (h2:ns.length≤7) (h3:ps.length≤30) (h4:xs.length≤40) (h5:L.length≤210):
  DrawnNoms w0 a A n c w (.returned (.tuple #[.agg #[v1,v2],v3,v4])) (putCells wr w.heap.size 0 [v1,v2]):=by
 have hl:=h.bk.net.lt
 have hle:=h.bk.net.src.le0
 exact ⟨v1,v2,v3,v4,ns,ps,xs,L,rfl,h.bk.net.src.put (by omega) (by omega) _ _,h.bk.net.only.putNew (Nat.le_refl _) _ _,h.bk.net.o1.put h.bk.net.res (by decide) _ _,h.bk.net.o2.put h.bk.net.res (by decide) _ _,h.bk.o3.put h.bk.net.res (by decide) _ _,h.o4.put h.bk.net.res (by decide) _ _,h2,h3,h4,h5,h.bk.net.nm,h.bk.cs⟩
theorem nom_one' (y:Nomination):∀u∈y.cells,u.oneCell'=true:=by intro u hu; simp [Nomination.cells] at hu; rcases hu with rfl | rfl | rfl | rfl <;> rfl
set_option maxHeartbeats 8000000 in
theorem c_l21Draw (h:Src w0 w a A n c):
  Calls Tryz.prog 249 #[.pointer (some ⟨a,0,none⟩)] w (DrawnNoms w0 a A n c w):=by
 have hal:=h.lt
 have hle:=h.le0
 go_enter Tryz.func249,Tryz.ntmps249
 go_wp2_with fail
 refine (c_l20Draw (h.more (Ext.alloc _ _))).mono ?_
 rintro e w1 ⟨v1,v2,v3,ns,ps,xs,rfl,hs1,ho1,o1,o2,o3,hn7,hp30,hx40,hnm,hcs⟩
 have hD0:=ASt.new hal hs1 ho1 (o1.lowG (by simp)) (o2.lowG (by simp)) hnm
 have hz1:=ho1.size
 simp at hz1
 obtain ⟨A1,c1,rfl,hs1'⟩:=hD0.o1.sl node_len (by omega)
 obtain ⟨A2,c2,rfl,hs2'⟩:=hD0.o2.sl pipe_len (by omega)
 obtain ⟨A3,c3,rfl,hs3'⟩:=o3.sl contract_len (by omega)
 have hxa:=Ext.alloc w1 (.cells #[.slice A1 ns.length c1,.slice A2 ps.length c2] 45)
 have hx:=Ext.alloc (w1.alloc (.cells #[.slice A1 ns.length c1,.slice A2 ps.length c2] 45)) (.cells #[] 157)
 have hD1:XSt w0 w a A n c w1.heap.size (.slice A1 ns.length c1) (.slice A2 ps.length c2) (.slice A3 xs.length c3) (.slice (some ⟨w1.heap.size+1,0,none⟩) 0 0) ns ps xs [] ((w1.alloc (.cells #[.slice A1 ns.length c1,.slice A2 ps.length c2] 45)).alloc (.cells #[] 157)):=
  ⟨⟨hD0.more hx,((o3.lowG (by simp)).ext hxa).ext hx,hcs⟩,own_new _ _ _ _ _ _ (by simp) (by omega)⟩
 clear hs1 ho1 o1 o2 o3 hs1' hs2' hs3' hD0 hx hxa hnm hcs
 go_wp2_with fail
 refine (c_next 9 hD1.bk.net.src (by omega) (by omega)).mono ?_
 rintro e w2 ⟨x2,rfl,hx2,hx2',hs2,ho2⟩
 obtain ⟨j0,rfl⟩:=Int.eq_ofNat_of_zero_le hx2
 have hD2:=hD1.draw hs2 ho2
 clear hD1 hs2 ho2
 go_wp2_with fail
 go_loopw [7,8,9] (fun u f i wr=>∃(j:Nat) (fr:Int) (L:List Nomination),j≤8∧i= .int .i64 j∧f= .int .i64 fr∧L.length+j≤8∧XSt w0 w a A n c w1.heap.size (.slice A1 ns.length c1) (.slice A2 ps.length c2) (.slice A3 xs.length c3) u ns ps xs L wr) (fun _ _ i _=>(intOf i).toNat)
 case atStart=>exact ⟨j0,-10,[],by omega,rfl,rfl,by simp; omega,hD2⟩
 case round=>
  clear hD2
  obtain ⟨j,fr,L,hj,rfl,rfl,hLj,hD⟩:=hrel
  by_cases hj0:0<j
  ·have p0:=hD.bk.net.var.cell 0
   have p1:=hD.bk.net.var.cell 1
   simp at p0 p1
   have pf:=hD.bk.net.var.frozen
   have pl:=hD.bk.net.var.lt
   go_wp2_with fail
   refine (c_l21DrawOne fr A3 xs.length c3 xs (hD.bk.o3.slE contract_len (by omega)) (fun b hb e=>by have:=hD.bk.o3.block_le (own_blkD hb); omega) hD.bk.cs (by omega) hD.bk.net.src).mono ?_
   rintro e w3 ⟨x,rfl,hs3,ho3⟩
   have hD3:=hD.draw hs3 ho3
   have hD4:=hD3.more (Ext.alloc w3 (.cells x.cells.toArray 157))
   have hC4:=Row.new w3 157 x.cells
   clear hs3 ho3 p0 p1 pf pl hD
   have p0:=hD3.bk.net.var.cell 0
   have p1:=hD3.bk.net.var.cell 1
   simp at p0 p1
   have pf:=hD3.bk.net.var.frozen
   have pl:=hD3.bk.net.var.lt
   obtain ⟨W4,HW4⟩:∃W4,Hid (w3.alloc (.cells x.cells.toArray 157)=W4):=⟨_,hide rfl⟩
   rw [HW4.out] at hD4 hC4
   have HW4':Hid (w3.alloc (.cells #[.int .i64 x.contract,.int .i64 x.hour,.int .i64 x.sent,.int .i64 x.amount] 157)=W4):=HW4
   have ha3:=hD3.bk.net.src.lt
   have HLT:=hide (fun k (hk:u7.ownBlock=some k)=>(hD3.o4.ltG hk).2)
   go_wp2_with fail
   rw [HW4'.out]
   clear hD3 p0 p1 pf pl
   refine (c_specIsNomination A1 A2 ns.length c1 ps.length c2 ns ps A3 xs.length c3 xs x _ (hD4.bk.net.o1.slE node_len (by omega)) (hD4.bk.net.o2.slE pipe_len (by omega)) (hD4.bk.o3.slE contract_len (by omega)) (fun x hx=>Nat.le_trans (hD4.bk.net.nm x hx) (by omega))).mono ?_
   rintro e w5 ⟨bb,rfl,hx5⟩
   have hD5:=hD4.more hx5
   have hC5:=hC4.ext hx5
   clear hD4 hC4 hx5
   cases bb
   ·go_wp2_with fail
    refine (c_next 20 hD5.bk.net.src (by omega) (by omega)).mono ?_
    rintro e w6 ⟨x6,rfl,hx6,hx6',hs6,ho6⟩
    have hD6:=hD5.draw hs6 ho6
    have hC6:=hC5.only ho6 (by omega)
    clear hD5 hs6 ho6 hC5
    by_cases h6:x6=0
    ·subst h6
     have k0:=hC6.cell 0
     have k1:=hC6.cell 1
     have k2:=hC6.cell 2
     have k3:=hC6.cell 3
     simp [Nomination.cells] at k0 k1 k2 k3
     have kl:=hC6.lt
     have hv6:=hD6.bk.net.var.lt
     have ha6:=hD6.bk.net.src.lt
     go_wp2_with (at_builtin; go_must (refine wpList_append_grow rfl _ _ 49 rfl (w.heap.size+1) 157 _ 4 32 Tryz.underlying49 nomination_info rfl (by decide) Nomination.cells nomination_len nom_one' _ _ rfl (hD6.o4.ext (Ext.alloc _ _)) _ 1 1 [x] rfl (new_one nomination_len w6 157 x) (by simp; omega) (by omega) (by first | exact Nat.le_refl _ | omega | (simp; done) | (simp; omega)) ?_))
     intro v7 w7 ho7 hg7
     have hD7:=(hD6.more (Ext.alloc w6 (.cells x.cells.toArray 157))).app hg7 ho7
     have hC7:=(hC6.ext (Ext.alloc w6 (.cells x.cells.toArray 157))).grown hg7 (fun e=>by have:=HLT.out _ e; omega)
     clear hD6 ho7 hg7 hC6 k0 k1 k2 k3 kl
     have k0:=hC7.cell 0
     have k1:=hC7.cell 1
     have k2:=hC7.cell 2
     have k3:=hC7.cell 3
     simp [Nomination.cells] at k0 k1 k2 k3
     have kl:=hC7.lt
     go_wp2_with fail
     generalize (if fr<x.sent then x.sent else fr)=fr'
     go_roundw
     case rel=>exact ⟨j-1,fr',_,by omega,by go_num,rfl,by simp; omega,hD7⟩
     case measure=>simp [intOf]; omega
    ·have b6:(x6==0)=false:=by rw [beq_eq_false_iff_ne]; exact h6
     go_wp2_with fail
     go_roundw
     case rel=>exact ⟨j-1,fr,_,by omega,by go_num,rfl,by omega,hD6⟩
     case measure=>simp [intOf]; omega
   ·have k0:=hC5.cell 0
    have k1:=hC5.cell 1
    have k2:=hC5.cell 2
    have k3:=hC5.cell 3
    simp [Nomination.cells] at k0 k1 k2 k3
    have kl:=hC5.lt
    have hv5:=hD5.bk.net.var.lt
    have ha5:=hD5.bk.net.src.lt
    go_wp2_with (at_builtin; go_must (refine wpList_append_grow rfl _ _ 49 rfl (w.heap.size+1) 157 _ 4 32 Tryz.underlying49 nomination_info rfl (by decide) Nomination.cells nomination_len nom_one' _ _ rfl (hD5.o4.ext (Ext.alloc _ _)) _ 1 1 [x] rfl (new_one nomination_len w5 157 x) (by simp; omega) (by omega) (by first | exact Nat.le_refl _ | omega | (simp; done) | (simp; omega)) ?_))
    intro v7 w7 ho7 hg7
    have hD7:=(hD5.more (Ext.alloc w5 (.cells x.cells.toArray 157))).app hg7 ho7
    have hC7:=(hC5.ext (Ext.alloc w5 (.cells x.cells.toArray 157))).grown hg7 (fun e=>by have:=HLT.out _ e; omega)
    clear hD5 ho7 hg7 hC5 k0 k1 k2 k3 kl
    have k0:=hC7.cell 0
    have k1:=hC7.cell 1
    have k2:=hC7.cell 2
    have k3:=hC7.cell 3
    simp [Nomination.cells] at k0 k1 k2 k3
    have kl:=hC7.lt
    go_wp2_with fail
    generalize (if fr<x.sent then x.sent else fr)=fr'
    go_roundw
    case rel=>exact ⟨j-1,fr',_,by omega,by go_num,rfl,by simp; omega,hD7⟩
    case measure=>simp [intOf]; omega
  ·obtain rfl:j=0:=by omega
   obtain ⟨A4,c4,rfl,_⟩:=hD.o4.form
   by_cases hx0:L.length=0
   ·have p0:=hD.bk.net.var.cell 0
    have p1:=hD.bk.net.var.cell 1
    simp at p0 p1
    have pf:=hD.bk.net.var.frozen
    have pl:=hD.bk.net.var.lt
    have q0:=hD.bk.net.res.cell 0
    have q1:=hD.bk.net.res.cell 1
    simp at q0 q1
    have qf:=hD.bk.net.res.frozen
    have ql:=hD.bk.net.res.lt
    have HF:=hide (hD.fin (by omega) (by omega) (by omega) (by omega))
    clear hD
    go_wp2_with fail
    refine bodyPost_ret (v:= .tuple #[.agg #[.slice A1 ns.length c1,.slice A2 ps.length c2],.slice A3 xs.length c3,.slice A4 L.length c4]) (by simp [results,Tryz.results249,go_sem,q0,q1]) rfl ?_
    exact HF.out
   ·go_wp2_with fail
    refine (c_next 60 hD.bk.net.src (by omega) (by omega)).mono ?_
    rintro e w3 ⟨x3,rfl,hx3,hx3',hs3,ho3⟩
    have hD3:=hD.draw hs3 ho3
    clear hD hs3 ho3
    by_cases h3:x3=0
    ·subst h3
     have hL1:1≤L.length:=by omega
     clear hx3 hx3'
     go_wp2_with fail
     go_loopw [7] (fun u wr=>∃(L:List Nomination),1≤L.length∧L.length≤202∧XSt w0 w a A n c w1.heap.size (.slice A1 ns.length c1) (.slice A2 ps.length c2) (.slice A3 xs.length c3) u ns ps xs L wr) (fun u _=>202-(match u with | .slice _ m _=>m | _=>0))
     case atStart=>exact ⟨L,hL1,by omega,hD3⟩
     case round=>
      clear hD3 hLj hx0 hL1
      obtain ⟨L,hL1,hL2,hD⟩:=hrel
      obtain ⟨A4,c4,rfl,hs3⟩:=hD.o4.sl nomination_len (by omega)
      go_wp2_with fail
      refine (c_next 2 hD.bk.net.src (by omega) (by omega)).mono ?_
      rintro e w4 ⟨x4,rfl,hx4,hx4',hs4,ho4⟩
      have hD4:=hD.draw hs4 ho4
      clear hD hs4 ho4 hs3
      by_cases hm:(L.length:Int)<200+x4
      ·have eL:((L.length:Int)-1)=((L.length-1:Nat):Int):=by omega
       obtain ⟨b3,o3,y,rfl,hb3,hy,hyc⟩:=(hD4.o4.slE nomination_len (by omega)).get (k:=L.length-1) (by omega)
       have k0:=hyc 0 _ rfl
       have k1:=hyc 1 _ rfl
       have k2:=hyc 2 _ rfl
       have k3:=hyc 3 _ rfl
       simp only [Nat.add_zero] at k0
       have hv4:=hD4.bk.net.var.lt
       clear hy hyc
       go_wp2_with (at_builtin; go_must (refine wpList_append_grow rfl _ _ 49 rfl (w.heap.size+1) 157 _ 4 32 Tryz.underlying49 nomination_info rfl (by decide) Nomination.cells nomination_len nom_one' _ _ rfl (hD4.o4.ext (Ext.alloc _ _)) _ 1 1 [y] rfl (new_one nomination_len w4 157 y) (by simp; omega) (by omega) (by first | exact Nat.le_refl _ | omega | (simp; done) | (simp; omega)) ?_))
       intro v7 w7 ho7 hg7
       have hD7:=(hD4.more (Ext.alloc w4 (.cells y.cells.toArray 157))).app hg7 ho7
       have hl7:(L++[y]).length=L.length+1:=by simp
       obtain ⟨A7,c7,rfl,_⟩:=ho7.form
       clear hD4 ho7 hg7 k0 k1 k2 k3 eL
       go_wp2_with fail
       go_roundw
       case rel=>exact ⟨L++[y],by omega,by omega,hD7⟩
       case measure=>simp; omega
      ·have hD:=hD4
       clear hD4
       have p0:=hD.bk.net.var.cell 0
       have p1:=hD.bk.net.var.cell 1
       simp at p0 p1
       have pf:=hD.bk.net.var.frozen
       have pl:=hD.bk.net.var.lt
       have q0:=hD.bk.net.res.cell 0
       have q1:=hD.bk.net.res.cell 1
       simp at q0 q1
       have qf:=hD.bk.net.res.frozen
       have ql:=hD.bk.net.res.lt
       have HF:=hide (hD.fin (by omega) (by omega) (by omega) (by omega))
       clear hD
       go_wp2_with fail
       refine bodyPost_ret (v:= .tuple #[.agg #[.slice A1 ns.length c1,.slice A2 ps.length c2],.slice A3 xs.length c3,.slice A4 L.length c4]) (by simp [results,Tryz.results249,go_sem,q0,q1]) rfl ?_
       exact HF.out
    ·have b3:(x3==0)=false:=by rw [beq_eq_false_iff_ne]; exact h3
     have hD:=hD3
     clear hD3
     have p0:=hD.bk.net.var.cell 0
     have p1:=hD.bk.net.var.cell 1
     simp at p0 p1
     have pf:=hD.bk.net.var.frozen
     have pl:=hD.bk.net.var.lt
     have q0:=hD.bk.net.res.cell 0
     have q1:=hD.bk.net.res.cell 1
     simp at q0 q1
     have qf:=hD.bk.net.res.frozen
     have ql:=hD.bk.net.res.lt
     have HF:=hide (hD.fin (by omega) (by omega) (by omega) (by omega))
     clear hD
     go_wp2_with fail
     refine bodyPost_ret (v:= .tuple #[.agg #[.slice A1 ns.length c1,.slice A2 ps.length c2],.slice A3 xs.length c3,.slice A4 L.length c4]) (by simp [results,Tryz.results249,go_sem,q0,q1]) rfl ?_
     exact HF.out
end
end Go.Proofs.YtfkpghdmljjegaaGreat
