/-
  The reference's draw of a network that may be wrong.
-/
import Derived.Test.YtinindjjapblcaaGreatDoorWa08
import Derived.Test.YtinindjjapblcaaGreatDoorWa09
import Derived.Test.YtinindjjapblcaaGreatDoorWa01
namespace Go.Proofs.YtinindjjapblcaaGreatDoor
open Go.RowKit
theorem flat_one {α:Type} {size:Nat} {f:α→List Value} (hf:∀x,(f x).length=size):∀(L:List α) (k j:Nat) (u:Value) (x y:α),L[k]? =some x→j<size→f y=(f x).set j u→(L.flatMap f).set (k*size+j) u=(L.set k y).flatMap f
 | [],k,j,u,x,y,h,_,_=>by simp at h
 | e::L,0,j,u,x,y,h,hj,hy=>by
  simp only [List.getElem?_cons_zero,Option.some.injEq] at h
  subst h
  rw [List.flatMap_cons,Nat.zero_mul,Nat.zero_add,List.set_append_left _ _ (by rw [hf]; exact hj),List.set_cons_zero,List.flatMap_cons,hy]
 | e::L,k+1,j,u,x,y,h,hj,hy=>by
  have ih:=flat_one hf L k j u x y (by simpa using h) hj hy
  rw [List.flatMap_cons,List.set_append_right _ _ (by rw [hf,Nat.add_mul]; omega),hf,show (k+1)*size+j-size=k*size+j by rw [Nat.add_mul]; omega,ih,List.set_cons_succ,List.flatMap_cons]
theorem OwnL.setOne {α:Type} {w:World} {base:Nat} {e:TypeId} {size:Nat} {f:α→List Value} {A:Option Addr} {n c:Nat} {L:List α} (h:OwnL w base e size f (.slice A n c) L) (hf:∀x,(f x).length=size) {k j:Nat} {x y:α} {u:Value} (hk:L[k]? =some x) (hj:j<size) (hy:f y=(f x).set j u):
  ∃g,A=some ⟨g,0,none⟩∧n=L.length∧base≤g∧g<w.heap.size∧(∀i,w.frozen? ⟨g,i,none⟩=false)∧(∀i v,(f x)[i]? =some v→w.cell? ⟨g,k*size+i,none⟩=some v)∧OwnL (w.setCell ⟨g,k*size+j,none⟩ u) base e size f (.slice A n c) (L.set k y):=by
 have hkl:k<L.length:=(List.getElem?_eq_some_iff.1 hk).1
 have hfl:=flat_len (xs:=L) hf
 obtain ⟨h1,h2⟩:=h
 rcases h2 with ⟨hv,hn⟩ | ⟨g,cap,cur,hv,hb,hh,hnc,hcm,hsz,htk⟩
 ·omega
 ·simp only [Value.slice.injEq] at hv
  obtain ⟨rfl,rfl,rfl⟩:=hv
  have hR:Row w g e cur.toList:=by unfold Row; rw [Array.toArray_toList]; exact hh
  have hlt:∀i,i<size→k*size+i<L.length*size:=fun i hi=>by
   have:(k+1)*size≤L.length*size:=Nat.mul_le_mul_right _ hkl
   rw [Nat.add_mul] at this
   omega
  refine ⟨g,rfl,rfl,hb,hR.lt,hR.frozen,fun i v hv=> ?_,by rw [flat_len hf,List.length_set],.inr ⟨g,c,(cur.toList.set (k*size+j) u).toArray,by rw [List.length_set],hb,hR.set_ (k*size+j) u,by rw [List.length_set]; exact hnc,hcm,by simpa using hsz,?_⟩⟩
  ·have hi:i<size:=by rw [←hf x]; exact (List.getElem?_eq_some_iff.1 hv).1
   have h3:=flat_get hf hk hv
   rw [←htk,List.getElem?_take,if_pos (hlt i hi)] at h3
   rw [hR.cell]; exact h3
  ·rw [List.length_set,List.toList_toArray,List.take_set,htk]
   exact flat_one hf L k j u x y hk hj hy
theorem Short.set {ns:List Node} (h:Short ns) (k:Nat) {x:Node} (hx:x.name.size≤100):Short (ns.set k x):=by
 intro y hy
 rcases List.mem_or_eq_of_mem_set hy with hy | rfl
 ·exact h y hy
 ·exact hx
structure ASt (w0 w:World) (a:Nat) (A:Option Addr) (n c g:Nat) (v1 v2:Value) (ns:List Node) (ps:List Pipe) (wr:World):Prop where
 lt:a<w.heap.size
 src:Src w0 wr a A n c
 only:Only a w wr
 res:Row wr w.heap.size 27 [.slice none 0 0,.slice none 0 0]
 var:Row wr g 27 [v1,v2]
 hg:w.heap.size<g
 o1:OwnL wr (w.heap.size+1) 147 3 Node.cells v1 ns
 o2:OwnL wr (w.heap.size+1) 149 5 Pipe.cells v2 ps
 nm:Short ns
def DrawnNet2 (w0:World) (a:Nat) (A:Option Addr) (n c:Nat) (w:World) (e:Ending) (w':World):Prop:=
 ∃(v1 v2:Value) (ns:List Node) (ps:List Pipe),e= .returned (.agg #[v1,v2])∧Src w0 w' a A n c∧Only a w w'∧OwnL w' (w.heap.size+1) 147 3 Node.cells v1 ns∧OwnL w' (w.heap.size+1) 149 5 Pipe.cells v2 ps∧ns.length≤7∧ps.length≤30∧Short ns
section
variable {w0 w wr wr':World} {a n c g:Nat} {A:Option Addr} {v1 v2 v':Value} {ns:List Node} {ps:List Pipe}
theorem ASt.draw (h:ASt w0 w a A n c g v1 v2 ns ps wr) (hs:Src w0 wr' a A n c) (ho:Only a wr wr'):ASt w0 w a A n c g v1 v2 ns ps wr':=
 have hl:=h.lt
 have hg:=h.hg
 ⟨h.lt,hs,h.only.trans ho,h.res.only ho (by omega),h.var.only ho (by omega),h.hg,h.o1.only ho (by omega),h.o2.only ho (by omega),h.nm⟩
theorem ASt.more (h:ASt w0 w a A n c g v1 v2 ns ps wr) (hx:Ext wr wr'):ASt w0 w a A n c g v1 v2 ns ps wr':=h.draw (h.src.more hx) (Only.of_ext hx a)
theorem ASt.setCellA (h:ASt w0 w a A n c g v1 v2 ns ps wr) {p:Addr} (hp:w.heap.size≤p.block) (u:Value):Src w0 (wr.setCell p u) a A n c∧Only a w (wr.setCell p u):=by
 have hl:=h.lt
 have hle:=h.src.le0
 refine ⟨h.src.set (by omega) (by omega) u,?_⟩
 exact h.only.grown ((Only.refl p.block wr).setCell rfl u) (fun k hk=>by simp at hk; omega)
theorem ASt.setNode (h:ASt w0 w a A n c g v1 v2 ns ps wr) {k j:Nat} {x y:Node} {u:Value} (hk:ns[k]? =some x) (hj:j<3) (hy:y.cells=x.cells.set j u) (hn:y.name.size≤100):
  ∃b c',v1= .slice (some ⟨b,0,none⟩) ns.length c'∧b<wr.heap.size∧b≠g∧(∀i,wr.frozen? ⟨b,i,none⟩=false)∧(∀i v,x.cells[i]? =some v→wr.cell? ⟨b,k*3+i,none⟩=some v)∧ASt w0 w a A n c g v1 v2 (ns.set k y) ps (wr.setCell ⟨b,k*3+j,none⟩ u):=by
 obtain ⟨A1,c1,rfl,_⟩:=h.o1.form
 obtain ⟨b,rfl,_,hb,hlt,hf,hc,ho⟩:=h.o1.setOne node_len hk hj hy
 have hne:b≠g:=fun e=>h.o1.not_row h.var (by decide) b rfl (by rw [e])
 obtain ⟨hs,hon⟩:=h.setCellA (p:=⟨b,k*3+j,none⟩) (by show w.heap.size≤b; omega) u
 have hne2:∀q,v2.ownBlock=some q→q≠b:=fun q hq e=>OwnL.apart h.o1 h.o2 (by decide) q hq (by rw [e]; rfl)
 refine ⟨b,c1,rfl,hlt,hne,hf,hc,h.lt,hs,hon,h.res.far (by show w.heap.size≠b; omega) u,h.var.far (by show g≠b; omega) u,h.hg,ho,?_,h.nm.set k hn⟩
 exact h.o2.grown ((Only.refl b wr).setCell rfl u) (fun q hq e=>hne2 q hq (by simpa using e.symm))
theorem ASt.setPipe (h:ASt w0 w a A n c g v1 v2 ns ps wr) {k j:Nat} {x y:Pipe} {u:Value} (hk:ps[k]? =some x) (hj:j<5) (hy:y.cells=x.cells.set j u):
  ∃b c',v2= .slice (some ⟨b,0,none⟩) ps.length c'∧b<wr.heap.size∧b≠g∧(∀i,wr.frozen? ⟨b,i,none⟩=false)∧(∀i v,x.cells[i]? =some v→wr.cell? ⟨b,k*5+i,none⟩=some v)∧ASt w0 w a A n c g v1 v2 ns (ps.set k y) (wr.setCell ⟨b,k*5+j,none⟩ u):=by
 obtain ⟨A1,c1,rfl,_⟩:=h.o2.form
 obtain ⟨b,rfl,_,hb,hlt,hf,hc,ho⟩:=h.o2.setOne pipe_len hk hj hy
 have hne:b≠g:=fun e=>h.o2.not_row h.var (by decide) b rfl (by rw [e])
 obtain ⟨hs,hon⟩:=h.setCellA (p:=⟨b,k*5+j,none⟩) (by show w.heap.size≤b; omega) u
 have hne2:∀q,v1.ownBlock=some q→q≠b:=fun q hq e=>OwnL.apart h.o2 h.o1 (by decide) q hq (by rw [e]; rfl)
 refine ⟨b,c1,rfl,hlt,hne,hf,hc,h.lt,hs,hon,h.res.far (by show w.heap.size≠b; omega) u,h.var.far (by show g≠b; omega) u,h.hg,?_,ho,h.nm⟩
 exact h.o1.grown ((Only.refl b wr).setCell rfl u) (fun q hq e=>hne2 q hq (by simpa using e.symm))
theorem ASt.app2 (h:ASt w0 w a A n c g v1 v2 ns ps wr) (hgr:wr.grownBy wr' v2.ownBlock) {ps':List Pipe} (ho:OwnL wr' (w.heap.size+1) 149 5 Pipe.cells v' ps'):ASt w0 w a A n c g v1 v' ns ps' (wr'.setCell ⟨g,1,none⟩ v'):=by
 have hl:=h.lt
 have hle:=h.src.le0
 have hgg:=h.hg
 have hb:=fun k (hk:v2.ownBlock=some k)=>h.o2.block_le hk
 have hne:∀k,v2.ownBlock=some k→k≠g:=fun k hk e=>h.o2.not_row h.var (by decide) k hk (by rw [e])
 have s1:Src w0 wr' a A n c:=h.src.grow hgr (fun k hk=>by have:=hb k hk; omega)
 have r1:Row wr' g 27 [v1,v2]:=h.var.grown hgr (fun e=>hne g e rfl)
 have o1:OwnL wr' (w.heap.size+1) 147 3 Node.cells v1 ns:=h.o1.grown hgr (fun k hk=>fun e=>OwnL.apart h.o2 h.o1 (by decide) k hk e)
 have nb1:∀k,v1.ownBlock=some k→k≠g:=fun k hk e=>o1.not_row r1 (by decide) k hk (by rw [e])
 have nb2:∀k,v'.ownBlock=some k→k≠g:=fun k hk e=>ho.not_row r1 (by decide) k hk (by rw [e])
 refine ⟨h.lt,s1.set (by show w0.heap.size≤g; omega) (by show g≠a; omega) _,?_,?_,r1.set_ 1 v',h.hg,?_,?_,h.nm⟩
 ·exact (h.only.grown hgr (fun k hk=> .inl (by have:=hb k hk; omega))).grown ((Only.refl g wr').setCell rfl v') (fun k hk=>by simp at hk; omega)
 ·exact (h.res.grown hgr (fun e=>by have:=hb _ e; omega)).far (by show w.heap.size≠g; omega) _
 ·exact o1.grown ((Only.refl g wr').setCell rfl v') (fun q hq e=>nb1 q hq (by simpa using e.symm))
 ·exact ho.grown ((Only.refl g wr').setCell rfl v') (fun q hq e=>nb2 q hq (by simpa using e.symm))
theorem ASt.none1 (h:ASt w0 w a A n c g v1 v2 ns ps wr):ASt w0 w a A n c g (.slice none 0 0) v2 [] ps (wr.setCell ⟨g,0,none⟩ (.slice none 0 0)):=by
 have hl:=h.lt
 have hgg:=h.hg
 have nb2:∀k,v2.ownBlock=some k→k≠g:=fun k hk e=>h.o2.not_row h.var (by decide) k hk (by rw [e])
 obtain ⟨hs,hon⟩:=h.setCellA (p:=⟨g,0,none⟩) (by show w.heap.size≤g; omega) (.slice none 0 0)
 refine ⟨h.lt,hs,hon,h.res.far (by show w.heap.size≠g; omega) _,h.var.set_ 0 _,h.hg,OwnL.nil_ _ _ _ _ _,?_,fun x hx=>by cases hx⟩
 exact h.o2.grown ((Only.refl g wr).setCell rfl _) (fun q hq e=>nb2 q hq (by simpa using e.symm))
theorem ASt.fin (h:ASt w0 w a A n c g v1 v2 ns ps wr) (h2:ns.length≤7) (h3:ps.length≤30):
  DrawnNet2 w0 a A n c w (.returned (.agg #[v1,v2])) (putCells wr w.heap.size 0 [v1,v2]):=by
 have hl:=h.lt
 have hle:=h.src.le0
 exact ⟨v1,v2,ns,ps,rfl,h.src.put (by omega) (by omega) _ _,h.only.putNew (Nat.le_refl _) _ _,h.o1.put h.res (by decide) _ _,h.o2.put h.res (by decide) _ _,h2,h3,h.nm⟩
end
end Go.Proofs.YtinindjjapblcaaGreatDoor
