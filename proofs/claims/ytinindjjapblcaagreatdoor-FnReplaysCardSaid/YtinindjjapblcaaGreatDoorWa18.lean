/-
  From an argument as it is read (data) to the cells that hold it: slices of structures of integers.
-/
import Derived.Test.YtinindjjapblcaaGreatDoorWa00
import Derived.Deep.Slices
import Derived.Deep.Fields
import Derived.ChangeSame
import Derived.ProofKit
import Derived.OpenShut
import Derived.ShutString
import Derived.ChangeOld
import Derived.Lib.SmallJoins
import Derived.Test.YtinindjjapblcaaGreatDoorWa17
import Derived.Laws.IdiomStrings
import Derived.Laws.BytesString
import Derived.Test.YtinindjjapblcaaGreatDoorProg
import Derived.Test.YtinindjjapblcaaGreatDoorWa01
namespace Go.Proofs.YtinindjjapblcaaGreatDoor
open Go.Joins Go.RowKit Go.ChangeShapes Go.WideShapes Go.Deep
section
variable {H:Type} {enc:TypeId×Value→H} {P:Program} {w:World} {base:Nat} {spare:Nat→Bool} {held:Bool}
def allInt (P:Program) (fs:Array Field):Bool:=fs.toList.all fun f=>match P.underlying f.type with | some (.int .i64)=>true | _=>false
theorem allInt_of {fs:Array Field} (h:allInt P fs=true) {j:Nat} {f:Field} (hj:fs[j]? =some f):P.underlying f.type=some (.int .i64):=by
 have:=List.all_eq_true.1 h f (by rw [Array.mem_toList_iff]; exact Array.mem_of_getElem? hj)
 split at this
 ·assumption
 ·cases this
theorem mk_list {α:Type} {p:Nat→α→Prop} (n:Nat) (h:∀i,i<n→∃x,p i x):∃xs:List α,xs.length=n∧∀i x,xs[i]? =some x→p i x:=by
 induction n with
 | zero=>exact ⟨[],rfl,fun i x hx=>by simp at hx⟩
 | succ n ih=>
  obtain ⟨xs,hl,hp⟩:=ih (fun i hi=>h i (by omega))
  obtain ⟨x,hx⟩:=h n (by omega)
  refine ⟨xs++[x],by simp [hl],fun i y hy=> ?_⟩
  by_cases hi:i<n
  ·rw [List.getElem?_append_left (by omega)] at hy; exact hp i y hy
  ·have hlt:i<(xs++[x]).length:=(List.getElem?_eq_some_iff.1 hy).1
   have:i=n:=by simp [hl] at hlt; omega
   subst this
   rw [List.getElem?_append_right (by omega)] at hy
   simp [hl] at hy
   subst hy
   exact hx
theorem open_flat {t e:TypeId} {fs:Array Field} {fuel:Nat} {v:Value} {x:DataW H×List MemPlace} (ht:P.underlying t=some (.slice e)) (he:P.underlying e=some (.struct fs))
  (hone:oneCellFields P fs=true) (hint:allInt P fs=true) (hC:P.cellsOf e=fs.size) (h0:0<fs.size) (h:DataW.trod enc P w base spare held fuel t [v]=some x):
  ∃(A:Option Addr) (n c:Nat) (xss:List (List Int)),v= .slice A n c∧(∀zs∈xss,zs.length=fs.size)∧SliceOf w fs.size (fun zs=>zs.map (Value.int .i64)) A n c xss:=by
 rcases open_slice ht h with ⟨h0,_⟩ | ⟨a,len,cap,m,n,D,Pl,hcs,hb,hl,hm,hmm,hx,hi⟩
 ·simp at h0
  exact ⟨none,0,0,[],h0,by simp,by simp [SliceOf]⟩
 ·simp at hcs
  have hlm:len≤m:=by rw [hmm]; split <;> omega
  have hel:∀i,i<len→∃zs:List Int,zs.length=fs.size∧∀j u,(zs.map (Value.int .i64))[j]? =some u→w.cell? (a.add (i*fs.size+j))=some u:=by
   intro i hil
   obtain ⟨cs',hc,ht'⟩:=hi i (by omega)
   rw [hC] at hc
   obtain ⟨ys,n',hn',hy,hlen,hyl,hf⟩:=DataW.trod_struct he ht'
   obtain ⟨_,hcl,hat⟩:=World.cells?_some hc
   have hz:∀j,j<fs.size→∃z:Int,w.cell? (a.add (i*fs.size+j))=some (.int .i64 z):=by
    intro j hj
    have hfj:fs[j]? =some fs[j]:=Array.getElem?_eq_getElem hj
    obtain ⟨ho,hk⟩:=hone_of hone j _ hfj
    have h1:=hf j _ hfj
    rw [ho,hk] at h1
    have hone':(cs'.drop j).take 1=[cs'[j]'(by omega)]:=by
     rw [List.drop_eq_getElem_cons (by omega)]
     rfl
    rw [hone'] at h1
    have hys:ys[j]? =some (ys[j]'(by omega)):=List.getElem?_eq_getElem (by omega)
    obtain ⟨z,hz,_,_⟩:=DataW.trod_int (allInt_of hint hfj) (h1.trans hys)
    have hv:cs'[j]? =some (cs'[j]'(by omega)):=List.getElem?_eq_getElem (by omega)
    refine ⟨z,?_⟩
    rw [←Go.Deep.add_add,hat j hj,hv]
    simp at hz
    rw [hz]
   obtain ⟨zs,hzl,hzp⟩:=mk_list (p:=fun j z=>w.cell? (a.add (i*fs.size+j))=some (.int .i64 z)) fs.size hz
   refine ⟨zs,hzl,fun j u hu=> ?_⟩
   rw [List.getElem?_map] at hu
   cases hzj:zs[j]? with
   | none=>rw [hzj] at hu; simp at hu
   | some z=>rw [hzj] at hu; simp at hu; subst hu; exact hzp j z hzj
  obtain ⟨xss,hxl,hxp⟩:=mk_list len hel
  refine ⟨some a,len,cap,xss,hcs,?_,hxl.symm,hl,hm,fun hn=> ?_⟩
  ·intro zs hzs
   obtain ⟨i,hi',hii⟩:=List.mem_iff_getElem.1 hzs
   exact (hxp i zs (by rw [List.getElem?_eq_getElem hi',hii])).1
  ·obtain ⟨zs0,hz0⟩:∃zs,xss[0]? =some zs:=⟨_,List.getElem?_eq_getElem (by omega)⟩
   obtain ⟨hl0,hc0⟩:=hxp 0 zs0 hz0
   obtain ⟨u,hu⟩:∃u,(zs0.map (Value.int .i64))[0]? =some u:=⟨_,List.getElem?_eq_getElem (by simp; omega)⟩
   have hcell:=hc0 0 u hu
   obtain ⟨b,off,spot⟩:=a
   have hspot:spot=none:=by simpa [Addr.add] using World.cell?_spot hcell
   subst hspot
   have hadd:∀k,(Addr.add ⟨b,off,none⟩ k)=⟨b,off+k,none⟩:=fun k=>by unfold Addr.add; split <;> simp_all
   refine ⟨b,off,rfl,?_,fun i zs hz j u hu=> ?_⟩
   ·have:=World.block_lt_of_cell? w _ hcell
    rw [hadd] at this
    exact this
   ·have:=(hxp i zs hz).2 j u hu
    rw [hadd] at this
    rw [Nat.add_assoc]
    exact this
theorem open_nums {t e:TypeId} {k:IntKind} {fuel:Nat} {v:Value} {x:DataW H×List MemPlace} (ht:P.underlying t=some (.slice e)) (he:P.underlying e=some (.int k))
  (hC:P.cellsOf e=1) (h:DataW.trod enc P w base spare held fuel t [v]=some x):
  ∃(A:Option Addr) (n c:Nat) (zs:List Int),v= .slice A n c∧(∀z∈zs,(Lit.int k z).wf=true)∧SliceOf w 1 (fun z=>[Value.int k z]) A n c zs:=by
 rcases open_slice ht h with ⟨h0,_⟩ | ⟨a,len,cap,m,n,D,Pl,hcs,hb,hl,hm,hmm,hx,hi⟩
 ·simp at h0
  exact ⟨none,0,0,[],h0,by simp,by simp [SliceOf]⟩
 ·simp at hcs
  have hlm:len≤m:=by rw [hmm]; split <;> omega
  have hel:∀i,i<len→∃z:Int,(Lit.int k z).wf=true∧w.cell? (a.add i)=some (.int k z):=by
   intro i hil
   obtain ⟨cs',hc,ht'⟩:=hi i (by omega)
   rw [hC,Nat.mul_one] at hc
   obtain ⟨_,hcl,hat⟩:=World.cells?_some hc
   obtain ⟨z,hz,_,hwf⟩:=DataW.trod_int he ht'
   refine ⟨z,hwf,?_⟩
   have:=hat 0 (by omega)
   rw [hz] at this
   simpa [Go.Deep.add_add] using this
  obtain ⟨zs,hzl,hzp⟩:=mk_list len hel
  refine ⟨some a,len,cap,zs,hcs,?_,hzl.symm,hl,hm,fun hn=> ?_⟩
  ·intro z hz
   obtain ⟨i,hi',hii⟩:=List.mem_iff_getElem.1 hz
   exact (hzp i z (by rw [List.getElem?_eq_getElem hi',hii])).1
  ·obtain ⟨z0,hz0⟩:∃z,zs[0]? =some z:=⟨_,List.getElem?_eq_getElem (by omega)⟩
   have hcell:=(hzp 0 z0 hz0).2
   obtain ⟨b,off,spot⟩:=a
   have hspot:spot=none:=by simpa [Addr.add] using World.cell?_spot hcell
   subst hspot
   have hadd:∀k,(Addr.add ⟨b,off,none⟩ k)=⟨b,off+k,none⟩:=fun k=>by unfold Addr.add; split <;> simp_all
   refine ⟨b,off,rfl,?_,fun i z hz j u hu=> ?_⟩
   ·have:=World.block_lt_of_cell? w _ hcell
    rw [hadd] at this
    exact this
   ·have:=(hzp i z hz).2
    rw [hadd] at this
    cases j with
    | zero=>simp at hu; subst hu; simpa using this
    | succ j=>simp at hu
theorem SliceOf.map {α β:Type} {size:Nat} {f:α→List Value} {f':β→List Value} {A:Option Addr} {n c:Nat} {xs:List α} (h:SliceOf w size f A n c xs) (g:α→β) (hg:∀x∈xs,f' (g x)=f x):
  SliceOf w size f' A n c (xs.map g):=by
 obtain ⟨h1,h2,h3,h4⟩:=h
 refine ⟨by simpa using h1,h2,h3,fun hn=> ?_⟩
 obtain ⟨b,off,hA,hb,hc⟩:=h4 hn
 refine ⟨b,off,hA,hb,fun i y hy j u hu=> ?_⟩
 rw [List.getElem?_map] at hy
 cases hx:xs[i]? with
 | none=>rw [hx] at hy; simp at hy
 | some x=>
  rw [hx] at hy
  simp at hy
  subst hy
  exact hc i x hx j u (by rw [←hg x (List.mem_of_getElem? hx)]; exact hu)
end
end Go.Proofs.YtinindjjapblcaaGreatDoor
namespace Go.Proofs.YtinindjjapblcaaGreatDoor
open Go.Joins Go.RowKit Go.ChangeShapes Go.WideShapes Go.Deep
section
variable {H:Type} {enc:TypeId×Value→H} {P:Program} {w:World} {base:Nat} {spare:Nat→Bool} {held:Bool}
theorem open_elems {t e:TypeId} {C:Nat} {fuel:Nat} {v:Value} {x:DataW H×List MemPlace} (ht:P.underlying t=some (.slice e)) (hC:P.cellsOf e=C) (h0:0<C)
  (h:DataW.trod enc P w base spare held fuel t [v]=some x):
  ∃(A:Option Addr) (n c:Nat) (xss:List (List Value)),v= .slice A n c∧(∀vs∈xss,vs.length=C∧∃fuel' y,DataW.trod enc P w base spare held fuel' e vs=some y)∧SliceOf w C id A n c xss:=by
 rcases open_slice ht h with ⟨h0,_⟩ | ⟨a,len,cap,m,n,D,Pl,hcs,hb,hl,hm,hmm,hx,hi⟩
 ·simp at h0
  exact ⟨none,0,0,[],h0,by simp,by simp [SliceOf]⟩
 ·simp at hcs
  have hlm:len≤m:=by rw [hmm]; split <;> omega
  have hel:∀i,i<len→∃vs:List Value,(vs.length=C∧∃fuel' y,DataW.trod enc P w base spare held fuel' e vs=some y)∧∀j u,vs[j]? =some u→w.cell? (a.add (i*C+j))=some u:=by
   intro i hil
   obtain ⟨cs',hc,ht'⟩:=hi i (by omega)
   rw [hC] at hc
   obtain ⟨_,hcl,hat⟩:=World.cells?_some hc
   refine ⟨cs',⟨hcl,_,_,ht'⟩,fun j u hu=> ?_⟩
   have hj:j<C:=by rw [←hcl]; exact (List.getElem?_eq_some_iff.1 hu).1
   rw [←Go.Deep.add_add,hat j hj,hu]
  obtain ⟨xss,hxl,hxp⟩:=mk_list len hel
  refine ⟨some a,len,cap,xss,hcs,?_,hxl.symm,hl,hm,fun hn=> ?_⟩
  ·intro zs hzs
   obtain ⟨i,hi',hii⟩:=List.mem_iff_getElem.1 hzs
   exact (hxp i zs (by rw [List.getElem?_eq_getElem hi',hii])).1
  ·obtain ⟨zs0,hz0⟩:∃zs,xss[0]? =some zs:=⟨_,List.getElem?_eq_getElem (by omega)⟩
   obtain ⟨⟨hl0,_⟩,hc0⟩:=hxp 0 zs0 hz0
   obtain ⟨u,hu⟩:∃u,zs0[0]? =some u:=⟨_,List.getElem?_eq_getElem (by omega)⟩
   have hcell:=hc0 0 u hu
   obtain ⟨b,off,spot⟩:=a
   have hspot:spot=none:=by simpa [Addr.add] using World.cell?_spot hcell
   subst hspot
   have hadd:∀k,(Addr.add ⟨b,off,none⟩ k)=⟨b,off+k,none⟩:=fun k=>by unfold Addr.add; split <;> simp_all
   refine ⟨b,off,rfl,?_,fun i zs hz j u hu=> ?_⟩
   ·have:=World.block_lt_of_cell? w _ hcell
    rw [hadd] at this
    exact this
   ·have:=(hxp i zs hz).2 j u hu
    rw [hadd] at this
    rw [Nat.add_assoc]
    exact this
theorem pick_list {β:Type} {f':β→List Value} {p:β→Prop} (xss:List (List Value)) (hp:∀vs∈xss,∃y:β,f' y=vs∧p y):∃ys:List β,ys.map f'=xss∧∀y∈ys,p y:=by
 induction xss with
 | nil=>exact ⟨[],rfl,by simp⟩
 | cons vs rest ih=>
  obtain ⟨ys,h1,h2⟩:=ih (fun v hv=>hp v (List.mem_cons_of_mem _ hv))
  obtain ⟨y,h3,h4⟩:=hp vs (List.mem_cons_self ..)
  refine ⟨y::ys,by rw [List.map_cons,h1,h3],fun z hz=> ?_⟩
  rcases List.mem_cons.1 hz with rfl | hz
  ·exact h4
  ·exact h2 z hz
theorem SliceOf.pick {β:Type} {size:Nat} {f':β→List Value} {p:β→Prop} {A:Option Addr} {n c:Nat} {xss:List (List Value)} (h:SliceOf w size id A n c xss) (hp:∀vs∈xss,∃y:β,f' y=vs∧p y):
  ∃ys:List β,SliceOf w size f' A n c ys∧∀y∈ys,p y:=by
 obtain ⟨ys,hy,hq⟩:=pick_list xss hp
 subst hy
 obtain ⟨h1,h2,h3,h4⟩:=h
 refine ⟨ys,⟨by simpa using h1,h2,h3,fun hn=> ?_⟩,hq⟩
 obtain ⟨b,off,hA,hb,hc⟩:=h4 hn
 refine ⟨b,off,hA,hb,fun i y hy j u hu=>hc i (f' y) ?_ j u hu⟩
 rw [List.getElem?_map,hy]; rfl
theorem open_fields {t:TypeId} {fs:Array Field} {fuel:Nat} {cs:List Value} {x:DataW H×List MemPlace} (hs:P.underlying t=some (.struct fs)) (h:DataW.trod enc P w base spare held fuel t cs=some x)
  {j:Nat} {f:Field} (hj:fs[j]? =some f) {o k:Nat} (ho:f.offset=o) (hk:P.cellsOf f.type=k):∃n y,DataW.trod enc P w base spare held n f.type ((cs.drop o).take k)=some y:=by
 obtain ⟨ys,n',_,_,hlen,hyl,hf⟩:=DataW.trod_struct hs h
 have h1:=hf j f hj
 rw [ho,hk] at h1
 have hl:j<ys.length:=by
  rw [hyl]
  exact (Array.getElem?_eq_some_iff.1 hj).1
 exact ⟨n',ys[j],h1.trans (List.getElem?_eq_getElem hl)⟩
end
end Go.Proofs.YtinindjjapblcaaGreatDoor
namespace Go.Proofs.YtinindjjapblcaaGreatDoor
open Go.RowKit Go.ChangeShapes Go.WideShapes Go.ChangeAt Go.Deep Go.Joins
def CopiedRoom (r:Room) (w:World) (e:Ending) (w':World):Prop:=
 ∃g1 g2 g3 g4 g5 rs',e= .returned (.agg #[.slice (some ⟨g1,0,none⟩) r.ns.length r.ns.length,.slice (some ⟨g2,0,none⟩) r.ps.length r.ps.length,.slice (some ⟨g3,0,none⟩) r.xs.length r.xs.length,.slice (some ⟨g4,0,none⟩) r.L.length r.L.length,.slice (some ⟨g5,0,none⟩) r.rs.length r.rs.length])∧
  w.heap.size≤g1∧g1<g2∧g2<g3∧g3<g4∧g4<g5∧RowOf w' g1 147 Node.cells r.ns∧RowOf w' g2 149 Pipe.cells r.ps∧RowOf w' g3 98 Contract.cells r.xs∧RowOf w' g4 79 Nomination.cells r.L∧
  RowOf w' g5 81 RS.cells rs'∧rs'.map RS.xs=r.rs.map RS.xs∧(∀q∈rs',OwnRS w' g5 q)∧RsApart rs'∧Ext w w'
theorem OwnRS.far {w:World} {g:Nat} {q:RS} (h:OwnRS w g q) {p:Addr} (hp:p.block≤g) (u:Value):OwnRS (w.setCell p u) g q:=let ⟨g1,a,b,c,d,e,r⟩:=h; ⟨g1,a,b,c,d,e,r.far (by omega) u⟩
theorem open_nodes {H:Type} {enc:TypeId×Value→H} {w:World} {base:Nat} {spare:Nat→Bool} {held:Bool} {fuel:Nat} {v:Value} {x:DataW H×List MemPlace}
  (h:DataW.trod enc Tryz.prog w base spare held fuel 55 [v]=some x):∃(A:Option Addr) (n c:Nat) (ns:List Node),v= .slice A n c∧SliceOf w 3 Node.cells A n c ns∧Named0 ns:=by
 obtain ⟨A,n,c,xss,rfl,hp,hs⟩:=open_elems (C:=3) Tryz.underlying55 (by kernel_rfl) (by omega) h
 obtain ⟨ns,hns,hnm⟩:=SliceOf.pick (f':=Node.cells) (p:=fun x=>x.name.size≤9223372036854775807) hs (by
  intro vs hvs
  obtain ⟨hl,f',y,hy⟩:=hp vs hvs
  match vs,hl with
  | [u0,u1,u2],_=>
   obtain ⟨i0,y0,f0⟩:=open_fields Tryz.underlying163 hy (j:=0) rfl (o:=0) (k:=1) rfl (by kernel_rfl)
   obtain ⟨i1,y1,f1⟩:=open_fields Tryz.underlying163 hy (j:=1) rfl (o:=1) (k:=1) rfl (by kernel_rfl)
   obtain ⟨i2,y2,f2⟩:=open_fields Tryz.underlying163 hy (j:=2) rfl (o:=2) (k:=1) rfl (by kernel_rfl)
   obtain ⟨s,e0,_,hsz⟩:=DataW.trod_string Tryz.underlying9 f0
   obtain ⟨z1,e1,_,_⟩:=DataW.trod_int Tryz.underlying2 f1
   obtain ⟨z2,e2,_,_⟩:=DataW.trod_int Tryz.underlying2 f2
   have k0:[u0]=[.string s]:=e0
   have k1:[u1]=[.int .i64 z1]:=e1
   have k2:[u2]=[.int .i64 z2]:=e2
   simp only [List.cons.injEq,and_true] at k0 k1 k2
   exact ⟨⟨s,z1,z2⟩,by rw [k0,k1,k2]; rfl,hsz⟩)
 exact ⟨A,n,c,ns,rfl,hns,hnm⟩
def pipeOf:List Int→Pipe
 | [a,b,c,d,e]=>⟨a,b,c,d,e⟩
 | _=>⟨0,0,0,0,0⟩
def conOf:List Int→Contract
 | [a,b,c,d,e,f,g,h]=>⟨a,b,c,d,e,f,g,h⟩
 | _=>⟨0,0,0,0,0,0,0,0⟩
section
variable {H:Type} {enc:TypeId×Value→H} {w:World} {base:Nat} {spare:Nat→Bool} {held:Bool}
theorem open_net {fuel:Nat} {v0 v1:Value} {x:DataW H×List MemPlace} (h:DataW.trod enc Tryz.prog w base spare held fuel 58 [v0,v1]=some x):
  ∃(A1 A2:Option Addr) (n1 c1 n2 c2:Nat) (ns:List Node) (ps:List Pipe),v0= .slice A1 n1 c1∧v1= .slice A2 n2 c2∧SliceOf w 3 Node.cells A1 n1 c1 ns∧SliceOf w 5 Pipe.cells A2 n2 c2 ps∧Named0 ns:=by
 obtain ⟨i0,y0,f0⟩:=open_fields Tryz.underlying58 h (j:=0) rfl (o:=0) (k:=1) rfl (by kernel_rfl)
 obtain ⟨i1,y1,f1⟩:=open_fields Tryz.underlying58 h (j:=1) rfl (o:=1) (k:=1) rfl (by kernel_rfl)
 obtain ⟨A1,n1,c1,ns,rfl,s1,hnm⟩:=open_nodes f0
 obtain ⟨A2,n2,c2,ps,rfl,hl,s2⟩:=open_flat Tryz.underlying56 Tryz.underlying166 (by kernel_rfl) (by kernel_rfl) (by kernel_rfl) (by decide) f1
 have s2':SliceOf w 5 Pipe.cells A2 n2 c2 (ps.map pipeOf):=SliceOf.map s2 pipeOf (by
  intro zs hzs
  match zs,hl zs hzs with
  | [a,b,c,d,e],_=>rfl)
 exact ⟨A1,A2,n1,c1,n2,c2,ns,_,rfl,rfl,s1,s2',hnm⟩
theorem open_contracts {fuel:Nat} {v:Value} {x:DataW H×List MemPlace} (h:DataW.trod enc Tryz.prog w base spare held fuel 59 [v]=some x):
  ∃(A:Option Addr) (n c:Nat) (xs:List Contract),v= .slice A n c∧SliceOf w 8 Contract.cells A n c xs:=by
 obtain ⟨A,n,c,xs,rfl,hl,s⟩:=open_flat Tryz.underlying59 Tryz.underlying114 (by kernel_rfl) (by kernel_rfl) (by kernel_rfl) (by decide) h
 exact ⟨A,n,c,_,rfl,SliceOf.map s conOf (by
  intro zs hzs
  match zs,hl zs hzs with
  | [a,b,c,d,e,f,g,h],_=>rfl)⟩
end
end Go.Proofs.YtinindjjapblcaaGreatDoor
namespace Go.Proofs.YtinindjjapblcaaGreatDoor
open Go.RowKit Go.ChangeShapes Go.WideShapes Go.ChangeAt Go.Deep Go.Joins
def roomOk (r:Room):Bool:=roomB r.ns.length r
def RoomLen (r:Room):Prop:=r.ns.length≤1048576∧Named r.ns∧r.ps.length≤1048576∧r.xs.length≤1048576∧r.L.length≤1048576∧r.rs.length≤1048576∧(∀q∈r.rs,q.xs.length≤1048576)∧((r.rs.map RS.xs).map List.length).sum≤1048576
section
variable {w w':World} {A1 A2 A3 A4 A5:Option Addr} {n1 c1 n2 c2 n3 c3 n4 c4 n5 c5:Nat} {r r':Room}
theorem RoomLen.like (h:RoomLen r) (hl:r'.Like r):RoomLen r':=by
 obtain ⟨h1,h2,h3,h4,h5⟩:=hl
 obtain ⟨k1,k2,k3,k4,k5,k6,k7,k8⟩:=h
 have hlen:=congrArg List.length h5
 simp at hlen
 refine ⟨by rw [h1]; exact k1,by rw [h1]; exact k2,by rw [h2]; exact k3,by rw [h3]; exact k4,by rw [h4]; exact k5,by rw [hlen]; exact k6,fun q hq=> ?_,by rw [h5]; exact k8⟩
 have:q.xs∈r.rs.map RS.xs:=by rw [←h5]; exact List.mem_map_of_mem hq
 obtain ⟨q',hq',he⟩:=List.mem_map.1 this
 rw [←he]; exact k7 q' hq'
theorem RoomAt.ok (h:RoomAt w A1 A2 A3 A4 A5 n1 c1 n2 c2 n3 c3 n4 c4 n5 c5 r') (hl:r'.Like r):roomB n1 r'=roomOk r:=by
 unfold roomOk
 rw [h.s1.len,hl.1,roomB_like hl]
end
def RoomOf (r:Room) (w:World) (e:Ending) (w':World):Prop:=∃(A1 A2 A3 A4 A5:Option Addr) (n1 c1 n2 c2 n3 c3 n4 c4 n5 c5:Nat) (r':Room),e= .returned (.agg #[.slice A1 n1 c1,.slice A2 n2 c2,.slice A3 n3 c3,.slice A4 n4 c4,.slice A5 n5 c5])∧RoomAt w' A1 A2 A3 A4 A5 n1 c1 n2 c2 n3 c3 n4 c4 n5 c5 r'∧r'.Like r∧Ext w w'
theorem CopiedRoom.of {r:Room} {w w':World} {e:Ending} (hl:RoomLen r) (h:CopiedRoom r w e w'):RoomOf r w e w':=by
 obtain ⟨g1,g2,g3,g4,g5,rs',rfl,_,_,_,_,_,r1,r2,r3,r4,r5,hm,ho,_,hx⟩:=h
 obtain ⟨k1,_,k2,k3,k4,k5,_⟩:=hl
 have hlen:=congrArg List.length hm
 simp at hlen
 exact ⟨_,_,_,_,_,_,_,_,_,_,_,_,_,_,_,⟨r.ns,r.ps,r.xs,r.L,rs'⟩,rfl,⟨r1.slice node_len rfl (by omega),r2.slice pipe_len rfl (by omega),r3.slice contract_len rfl (by omega),r4.slice nomination_len rfl (by omega),r5.slice rs_len hlen.symm (by omega),fun q hq=>(ho q hq).slice⟩,⟨rfl,rfl,rfl,rfl,hm⟩,hx⟩
end Go.Proofs.YtinindjjapblcaaGreatDoor
namespace Go.Proofs.YtinindjjapblcaaGreatDoor
open Go.RowKit
def mtGo (k:Nat) (out:ByteArray):ByteArray:=if _h:k=0 then out else mtGo (k/10) (⟨#[48+UInt8.ofNat (k % 10)]⟩++out)
termination_by k
decreasing_by omega
theorem mt_step {k:Nat} {out:ByteArray} (h:0<k):mtGo k out=mtGo (k/10) (⟨#[48+UInt8.ofNat (k % 10)]⟩++out):=by
 conv=>lhs; unfold mtGo
 rw [dif_neg (by omega)]
theorem mt_end (out:ByteArray):mtGo 0 out=out:=by
 unfold mtGo
 rw [dif_pos rfl]
def mtext (k:Int):ByteArray:=if k≤0 then ⟨#[109,48]⟩ else ⟨#[109]⟩++mtGo k.toNat ByteArray.empty
theorem digit_conv (W:World) (m:Nat) (z:Int) (hz:z=(m:Int)) (hm:m<10):(convert 22 9 (.slice (some ⟨W.heap.size,0,none⟩) 1 1)).run Tryz.prog (W.alloc (.cells #[.int .u8 (48+z)] 5))= .ok (.string ⟨#[48+UInt8.ofNat m]⟩) (W.alloc (.cells #[.int .u8 (48+z)] 5)):=by
 have h:=run_convert_bytes_back (P:=Tryz.prog) (W.alloc (.cells #[.int .u8 (48+z)] 5)) 22 9 5 ⟨W.heap.size,0,none⟩ 1 [48+UInt8.ofNat m] Tryz.underlying22 Tryz.underlying5 Tryz.underlying9 (fun j hj=>by
  obtain rfl:j=0:=by simp at hj; omega
  have:(Addr.add ⟨W.heap.size,0,none⟩ 0)=⟨W.heap.size,0,none⟩:=rfl
  rw [this,World.cell?_alloc_mark]
  subst hz
  simp
  omega)
 exact h
set_option maxRecDepth 8000 in
theorem c_markText (k:Int) (w:World) (hk:k≤1000000000000000):
  Calls Tryz.prog 125 #[.int .i64 k] w (Ret (.string (mtext k)) w):=by
 by_cases h0:k≤0
 ·have HR:=hide (show mtext k=⟨#[109,48]⟩ by unfold mtext; rw [if_pos h0])
  go_enter Tryz.func125,Tryz.ntmps125
  go_wp2_with fail
  go_ret
  rw [HR.out]
  exact ⟨rfl,Ext.refl _⟩
 ·obtain ⟨K,rfl⟩:∃K:Nat,k=K:=⟨k.toNat,by omega⟩
  have HR:=hide (show mtext K=⟨#[109]⟩++mtGo K ByteArray.empty by unfold mtext; rw [if_neg h0]; rfl)
  go_enter Tryz.func125,Tryz.ntmps125
  go_wp2_with fail
  go_loopw [0,3] (fun i s wr=>∃(j:Nat) (o:ByteArray),j≤1000000000000000∧i= .int .i64 j∧s= .string o∧o.size+j≤1000000000000000∧Hid (mtGo j o=mtGo K ByteArray.empty)∧Ext w wr) (fun i _ _=>(intOf i).toNat)
  case atStart=>exact ⟨K,_,by omega,rfl,rfl,by show 0+K≤_; omega,hide rfl,Ext.refl _⟩
  case round=>
   obtain ⟨j,o,hj,rfl,rfl,hos,HJ,hx⟩:=hrel
   by_cases hlt:0<j
   ·have e1:(j:Int).tmod 10=(j:Int) % 10:=Int.tmod_eq_emod_of_nonneg (by omega)
    have e2:(j:Int).tdiv 10=(j:Int)/10:=Int.tdiv_eq_ediv_of_nonneg (by omega)
    have e3:IntKind.i64.wrap (48+(j:Int) % 10)=48+(j:Int) % 10:=IntWalk.i64_in _ (by omega)
    have e4:IntKind.u8.wrap (48+(j:Int) % 10)=48+(j:Int) % 10:=by simp [IntKind.wrap,IntKind.signed,IntKind.bits]; omega
    have hcv:=digit_conv wr (j % 10) ((j:Int) % 10) (by omega) (by omega)
    have hsz:¬9223372036854775807<1+o.size:=by omega
    go_wp2_with fail
    go_roundw
    case rel=>exact ⟨j/10,_,by omega,by simp,rfl,by rw [ByteArray.size_append]; show 1+o.size+j/10≤_; omega,hide (by rw [←HJ.out,mt_step hlt]),hx.and_alloc _⟩
    case measure=>simp [intOf]; omega
   ·obtain rfl:j=0:=by omega
    have hsz:¬9223372036854775807<1+o.size:=by omega
    have HE:=hide (show o=mtGo K ByteArray.empty by rw [←HJ.out,mt_end])
    go_wp2_with fail
    go_ret
    rw [HR.out, ←HE.out]
    exact ⟨rfl,hx⟩
end Go.Proofs.YtinindjjapblcaaGreatDoor
namespace Go.Proofs.YtinindjjapblcaaGreatDoor
open Go.RowKit
def markNode (a:Int) (n:Nat):List Node:=(List.range n).map fun (i:Nat)=>⟨mtext (a+3*(i:Int)),a+3*(i:Int)+1,a+3*(i:Int)+2⟩
theorem markNode_at (a:Int) (n i:Nat) (h:i<n):(markNode a n)[i]? =some ⟨mtext (a+3*(i:Int)),a+3*(i:Int)+1,a+3*(i:Int)+2⟩:=by
 unfold markNode; rw [List.getElem?_map,List.getElem?_range h]; rfl
def MarkedNode (g:Nat) (A:Option Addr) (n:Nat) (a:Int) (w:World) (e:Ending) (w':World):Prop:=
 e= .returned (.int .i64 (a+3*n))∧OwnS w' g 147 Node.cells A n (markNode a n)∧Only g w w'
set_option maxHeartbeats 1000000 in
theorem c_markNodeS (g:Nat) (A:Option Addr) (n c:Nat) (ts:List Node) (a:Int) (w:World) (hown0:OwnS w g 147 Node.cells A n ts) (hn:n≤1000000000) (hcap:n≤c) (hmax:c≤9223372036854775807) (ha0:0≤a) (ha1:a≤1000000000000):
  Calls Tryz.prog 75 #[.slice A n c,.int .i64 a] w (MarkedNode g A n a w):=by
 go_enter Tryz.func75,Tryz.ntmps75
 go_wp2_with fail
 go_loopw [1,5] (fun q i wr=>∃(k:Nat) (K:Int) (L:List Node),k≤n∧q= .int .i64 K∧i= .int .i64 k∧a+3*(k:Int)≤K∧K≤a+3*(k:Int)∧OwnS wr g 147 Node.cells A n L∧Hid (∀j,j<k→L[j]? =(markNode a n)[j]?)∧Only g w wr) (fun _ i _=>n-(intOf i).toNat)
 case atStart=>exact ⟨0,a,ts,Nat.zero_le _,rfl,rfl,by omega,by omega,hown0,hide (fun j hj=>absurd hj (by omega)),Only.refl _ _⟩
 case round=>
  obtain ⟨k,K,L,hk,rfl,rfl,hK0,hK1,hown,HK,hx⟩:=hrel
  by_cases hlt:k<n
  ·have hn0:0<n:=by omega
   obtain ⟨rfl,_⟩:=hown.2 hn0
   go_wp2_with fail
   refine (c_markText K _ (by omega)).mono ?_
   rintro e w1 ⟨rfl,hx1⟩
   have hown1:=hown.ext hx1
   have hlt1:=hown1.lt hn0
   obtain ⟨v0,hv0⟩:=hown1.there node_len (i:=k) hlt (j:=0) (by omega)
   have hf0:=hown1.frozen hn0 (k*3)
   obtain ⟨v1,hv1⟩:=hown1.there node_len (i:=k) hlt (j:=1) (by omega)
   have hf1:=hown1.frozen hn0 (k*3+1)
   obtain ⟨v2,hv2⟩:=hown1.there node_len (i:=k) hlt (j:=2) (by omega)
   have hf2:=hown1.frozen hn0 (k*3+2)
   rw [Nat.add_zero] at hv0
   have HL:=hide hown.1
   go_wp2_with fail
   go_roundw
   case rel=>
    refine ⟨k+1,_,L.set k ⟨mtext K,K+1,K+1+1⟩,by omega,rfl,by go_num,by omega,by omega,hown1.put node_len hlt ⟨mtext K,K+1,K+1+1⟩,hide ?_,(hx.trans (Only.of_ext hx1 _)).put (k*3) (Node.cells ⟨mtext K,K+1,K+1+1⟩)⟩
    intro j hj
    rw [List.getElem?_set]
    by_cases e:k=j
    ·subst e
     rw [if_pos rfl,if_pos (by rw [←HL.out]; exact hlt),markNode_at _ _ _ hlt]
     have:K=a+3*(k:Int):=by omega
     subst this
     congr 2 <;> omega
    ·rw [if_neg e]; exact HK.out j (by omega)
   case measure=>simp [intOf]; omega
  ·go_wp2_with fail
   go_ret
   have hLts:L=markNode a n:=by
    apply List.ext_getElem?
    intro j
    by_cases hj:j<n
    ·exact HK.out j (by omega)
    ·rw [List.getElem?_eq_none (by have:=hown.1; omega),List.getElem?_eq_none (by simp [markNode]; omega)]
   subst hLts
   refine ⟨?_,hown,hx⟩
   obtain rfl:k=n:=by omega
   have:K=a+3*(k:Int):=by omega
   rw [←this]; rfl
set_option maxRecDepth 8000 in
set_option maxHeartbeats 1000000 in
theorem c_heldNodeS (A:Option Addr) (n c:Nat) (a:Int) (w:World) (hs:SliceOf w 3 Node.cells A n c (markNode a n)) (hn:n≤1000000000) (ha0:0≤a) (ha1:a≤1000000000000):
  Calls Tryz.prog 127 #[.slice A n c,.int .i64 a] w (Ret (.int .i64 (a+3*n)) w):=by
 have hcap:=hs.cap
 have hmax:=hs.max
 go_enter Tryz.func127,Tryz.ntmps127
 go_wp2_with fail
 go_loopw [1,5] (fun q i wr=>∃(k:Nat) (K:Int),k≤n∧q= .int .i64 K∧i= .int .i64 k∧a+3*(k:Int)≤K∧K≤a+3*(k:Int)∧Ext w wr) (fun _ i _=>n-(intOf i).toNat)
 case atStart=>exact ⟨0,a,Nat.zero_le _,rfl,rfl,by omega,by omega,Ext.refl _⟩
 case round=>
  obtain ⟨k,K,hk,rfl,rfl,hK0,hK1,hx⟩:=hrel
  by_cases hlt:k<n
  ·obtain ⟨b,off,x,rfl,hb,hxk,hc⟩:=(hs.ext hx).get hlt
   rw [markNode_at _ _ _ hlt] at hxk
   obtain rfl:(⟨mtext K,K+1,K+1+1⟩:Node)=x:=by
    injection hxk with hxk
    rw [←hxk]
    have:K=a+3*(k:Int):=by omega
    subst this
    congr 1 <;> omega
   clear hxk
   have hc0:=hc 0 _ rfl
   have hc1:=hc 1 _ rfl
   have hc2:=hc 2 _ rfl
   clear hc
   simp only [Nat.add_zero] at hc0
   go_wp2_with fail
   refine wp_region_later (by kernel_rfl) (by kernel_rfl) ?_
   repeat (go_big_quiet_step ((go_at_call 125; exact quiet_later (c_markText K _ (by omega)))))
   refine wpQuiet_nil ?_
   intro w1 hx1
   have hd1:=(hx1.cell b (off+k*3+1) hb).trans hc1
   have hd2:=(hx1.cell b (off+k*3+2) hb).trans hc2
   have hb1:b<w1.heap.size:=Nat.lt_of_lt_of_le hb hx1.size
   go_wp2_with fail
   go_roundw
   case rel=>exact ⟨k+1,_,by omega,rfl,by go_num,by omega,by omega,hx.trans hx1⟩
   case measure=>simp [intOf]; omega
  ·go_wp2_with fail
   go_ret
   obtain rfl:k=n:=by omega
   have:K=a+3*(k:Int):=by omega
   exact ⟨by rw [←this]; rfl,hx⟩
def MarkA {α:Type} (t:TypeId) (f:α→List Value) (A:Option Addr) (n c:Nat) (z:Int) (L:List α) (w:World) (e:Ending) (w':World):Prop:=
 e= .returned (.int .i64 z)∧OwnA w' t f A n c L∧Turn (fun k=>blkOf A n=some k) w w'
theorem m_markNodeS (A:Option Addr) (n c:Nat) (ts:List Node) (a:Int) (w:World) (h:OwnA w 147 Node.cells A n c ts) (hn:n≤1000000000) (ha0:0≤a) (ha1:a≤1000000000000):
  Calls Tryz.prog 75 #[.slice A n c,.int .i64 a] w (MarkA 147 Node.cells A n c (a+3*n) (markNode a n) w):=by
 obtain ⟨g,ho,hg⟩:=h.own
 refine (c_markNodeS g A n c ts a w ho hn h.2.1 h.2.2.1 ha0 ha1).mono fun e w' ⟨h1,h2,h3⟩=> ?_
 exact ⟨h1,h2.toA h.2.1 h.2.2.1,Turn.of_only h3 hg⟩
theorem m_markPipeS (A:Option Addr) (n c:Nat) (ts:List Pipe) (a:Int) (w:World) (h:OwnA w 149 Pipe.cells A n c ts) (hn:n≤1000000000) (ha0:0≤a) (ha1:a≤1000000000000):
  Calls Tryz.prog 76 #[.slice A n c,.int .i64 a] w (MarkA 149 Pipe.cells A n c (a+5*n) (markPipe a n) w):=by
 obtain ⟨g,ho,hg⟩:=h.own
 refine (c_markPipeS g A n c ts a w ho hn h.2.1 h.2.2.1 ha0 ha1).mono fun e w' ⟨h1,h2,h3⟩=> ?_
 exact ⟨h1,h2.toA h.2.1 h.2.2.1,Turn.of_only h3 hg⟩
theorem m_markContractS (A:Option Addr) (n c:Nat) (ts:List Contract) (a:Int) (w:World) (h:OwnA w 98 Contract.cells A n c ts) (hn:n≤1000000000) (ha0:0≤a) (ha1:a≤1000000000000):
  Calls Tryz.prog 30 #[.slice A n c,.int .i64 a] w (MarkA 98 Contract.cells A n c (a+8*n) (markContract a n) w):=by
 obtain ⟨g,ho,hg⟩:=h.own
 refine (c_markContractS g A n c ts a w ho hn h.2.1 h.2.2.1 ha0 ha1).mono fun e w' ⟨h1,h2,h3⟩=> ?_
 exact ⟨h1,h2.toA h.2.1 h.2.2.1,Turn.of_only h3 hg⟩
theorem m_markNominationS (A:Option Addr) (n c:Nat) (ts:List Nomination) (a:Int) (w:World) (h:OwnA w 79 Nomination.cells A n c ts) (hn:n≤1000000000) (ha0:0≤a) (ha1:a≤1000000000000):
  Calls Tryz.prog 77 #[.slice A n c,.int .i64 a] w (MarkA 79 Nomination.cells A n c (a+4*n) (markNomination a n) w):=by
 obtain ⟨g,ho,hg⟩:=h.own
 refine (c_markNominationS g A n c ts a w ho hn h.2.1 h.2.2.1 ha0 ha1).mono fun e w' ⟨h1,h2,h3⟩=> ?_
 exact ⟨h1,h2.toA h.2.1 h.2.2.1,Turn.of_only h3 hg⟩
theorem m_markReadingS (A:Option Addr) (n c:Nat) (ts:List Reading) (a:Int) (w:World) (h:OwnA w 84 Reading.cells A n c ts) (hn:n≤1000000000) (ha0:0≤a) (ha1:a≤1000000000000):
  Calls Tryz.prog 126 #[.slice A n c,.int .i64 a] w (MarkA 84 Reading.cells A n c (a+2*n) (markReading a n) w):=by
 obtain ⟨g,ho,hg⟩:=h.own
 refine (c_markReadingS g A n c ts a w ho hn h.2.1 h.2.2.1 ha0 ha1).mono fun e w' ⟨h1,h2,h3⟩=> ?_
 exact ⟨h1,h2.toA h.2.1 h.2.2.1,Turn.of_only h3 hg⟩
end Go.Proofs.YtinindjjapblcaaGreatDoor
namespace Go.Proofs.YtinindjjapblcaaGreatDoor
open Go.RowKit
def markRS:Int→List RS→List RS
 | _,[]=>[]
 | a,q::t=>⟨q.A,q.n,q.c,markReading a q.n⟩::markRS (a+2*q.n) t
theorem markRS_at (a:Int) (rs:List RS) (j:Nat):(markRS a rs)[j]? =(rs[j]?).map fun q=>⟨q.A,q.n,q.c,markReading (a+2*(((rs.take j).map RS.n).sum:Nat)) q.n⟩:=by
 induction rs generalizing a j with
 | nil=>simp [markRS]
 | cons q t ih=>
  cases j with
  | zero=>simp [markRS]
  | succ j=>
   simp only [markRS,List.getElem?_cons_succ,ih,List.take_succ_cons,List.map_cons,List.sum_cons]
   congr 1
   funext x
   congr 2
   omega
theorem markRS_len (a:Int) (rs:List RS):(markRS a rs).length=rs.length:=by
 induction rs generalizing a with
 | nil=>rfl
 | cons q t ih=>simp [markRS,ih]
theorem markRS_cells (a:Int) (rs:List RS):(markRS a rs).map RS.cells=rs.map RS.cells:=by
 induction rs generalizing a with
 | nil=>rfl
 | cons q t ih=>simp only [markRS,List.map_cons,ih]; rfl
theorem SliceOf.same {α β:Type} {w:World} {size:Nat} {f:α→List Value} {f':β→List Value} {A:Option Addr} {n c:Nat} {xs:List α} {ys:List β} (h:SliceOf w size f A n c xs) (he:ys.map f'=xs.map f):SliceOf w size f' A n c ys:=by
 obtain ⟨h1,h2,h3,h4⟩:=h
 have hl:=congrArg List.length he
 simp at hl
 refine ⟨by rw [hl]; exact h1,h2,h3,fun hn=> ?_⟩
 obtain ⟨b,off,hA,hb,hc⟩:=h4 hn
 refine ⟨b,off,hA,hb,fun i y hy j u hu=> ?_⟩
 have h5:=congrArg (fun l=>l[i]?) he
 simp only [List.getElem?_map,hy,Option.map_some] at h5
 cases hx:xs[i]? with
 | none=>rw [hx] at h5; cases h5
 | some x=>
  rw [hx] at h5
  simp only [Option.map_some,Option.some.injEq] at h5
  exact hc i x hx j u (by rw [←h5]; exact hu)
theorem OwnA.same {α β:Type} {w:World} {t:TypeId} {f:α→List Value} {f':β→List Value} {A:Option Addr} {n c:Nat} {xs:List α} {ys:List β} (h:OwnA w t f A n c xs) (he:ys.map f'=xs.map f):OwnA w t f' A n c ys:=by
 have hl:=congrArg List.length he
 simp at hl
 have hf:ys.flatMap f'=xs.flatMap f:=by rw [List.flatMap_def,List.flatMap_def,he]
 refine ⟨by rw [hl]; exact h.1,h.2.1,h.2.2.1,fun hn=> ?_⟩
 rw [hf]
 exact h.2.2.2 hn
def rsBlk (rs:List RS) (b:Nat):Prop:=∃q∈rs,blkOf q.A q.n=some b
structure MarkedRS (rs:List RS) (a:Int) (w:World) (e:Ending) (w':World):Prop where
 e:e= .returned (.int .i64 (a+2*((rs.map RS.n).sum:Nat)))
 own:∀q∈markRS a rs,OwnA w' 84 Reading.cells q.A q.n q.c q.xs
 turn:Turn (rsBlk rs) w w'
theorem sum_le_of_take {rs:List RS} {k:Nat} {q:RS} (h:rs[k]? =some q):((rs.take k).map RS.n).sum+q.n≤(rs.map RS.n).sum:=by
 have h1:rs.map RS.n=(rs.take (k+1)).map RS.n++(rs.drop (k+1)).map RS.n:=by rw [←List.map_append,List.take_append_drop]
 rw [h1,List.sum_append,sum_take h]
 omega
set_option maxHeartbeats 1000000 in
theorem c_markReadingSS (A:Option Addr) (n c:Nat) (rs:List RS) (a:Int) (w:World) (hs:SliceOf w 1 RS.cells A n c rs) (h6:∀q∈rs,OwnA w 84 Reading.cells q.A q.n q.c q.xs)
  (hrr:SepL (rs.map fun q=>blkOf q.A q.n)) (hfr:∀b,blkOf A n=some b→¬rsBlk rs b) (hsum:(rs.map RS.n).sum≤1048576) (ha0:0≤a) (ha1:a≤100000000000):
  Calls Tryz.prog 78 #[.slice A n c,.int .i64 a] w (MarkedRS rs a w):=by
 have hm:=hs.max
 have hcap:=hs.cap
 have HL:=hide hs.len
 have HSM:=hide hsum
 clear hsum
 go_enter Tryz.func78,Tryz.ntmps78
 go_wp2_with fail
 go_loopw [1,5] (fun z i wr=>∃(k:Nat) (K:Int),k≤n∧z= .int .i64 K∧i= .int .i64 k∧Hid (K=a+2*(((rs.take k).map RS.n).sum:Nat))∧a≤K∧K≤a+2097152∧
   Hid (∀j q,rs[j]? =some q→(j<k→OwnA wr 84 Reading.cells q.A q.n q.c (markReading (a+2*(((rs.take j).map RS.n).sum:Nat)) q.n))∧(k≤j→OwnA wr 84 Reading.cells q.A q.n q.c q.xs))∧Turn (rsBlk rs) w wr) (fun _ i _=>n-(intOf i).toNat)
 case atStart=>exact ⟨0,a,Nat.zero_le _,rfl,rfl,hide (by simp),by omega,by omega,hide (fun j q hq=>⟨fun h=>absurd h (by omega),fun _=>h6 q (List.mem_of_getElem? hq)⟩),Turn.refl _⟩
 case round=>
  obtain ⟨k,K,hk,rfl,rfl,HKK,hK0,hK1,HK,hx⟩:=hrel
  by_cases hlt:k<n
  ·have hsr:=hs.turn hx hfr
   obtain ⟨bb,off,p,rfl,hbb,hxk,t⟩:=hsr.get hlt
   have t0:=t 0 _ rfl
   simp only [Nat.add_zero,Nat.mul_one] at t0
   have HX:=hide hxk
   have hp:=(HK.out k p hxk).2 (Nat.le_refl _)
   have hpn:=sum_le_of_take hxk
   have h0:=HSM.out
   have hp1:p.n≤1048576:=by omega
   have hp2:K+2*(p.n:Int)≤a+2097152:=by rw [HKK.out]; omega
   clear hxk t hpn h0 hsr
   go_wp2_with fail
   refine (m_markReadingS p.A p.n p.c p.xs K _ hp (by omega) (by omega) (by omega)).mono ?_
   rintro e w1 ⟨rfl,ho1,ht1⟩
   go_wp2_with fail
   go_roundw
   case rel=>
    refine ⟨k+1,_,by omega,rfl,by go_num,hide (by rw [sum_take HX.out,HKK.out]; omega),by omega,by omega,hide fun j q hq=>⟨fun hj=> ?_,fun hj=> ?_⟩,hx.trans (ht1.mono fun b hb=>⟨p,List.mem_of_getElem? HX.out,hb⟩)⟩
    ·by_cases e:j=k
     ·subst e; rw [HX.out] at hq; injection hq with hq; subst hq; rw [←HKK.out]; exact ho1
     ·refine ((HK.out j q hq).1 (by omega)).turn ht1 (fun b hb hb'=> ?_)
      exact hrr j k b e (by rw [List.getElem?_map,hq]; simp [hb]) (by rw [List.getElem?_map,HX.out]; simp [hb'])
    ·refine ((HK.out j q hq).2 (by omega)).turn ht1 (fun b hb hb'=> ?_)
     exact hrr j k b (by omega) (by rw [List.getElem?_map,hq]; simp [hb]) (by rw [List.getElem?_map,HX.out]; simp [hb'])
   case measure=>simp [intOf]; omega
  ·go_wp2_with fail
   go_ret
   obtain rfl:n=k:=by omega
   have h1:=HKK.out
   rw [List.take_of_length_le (by have:=HL.out; omega)] at h1
   refine ⟨by rw [←h1]; rfl,fun q' hq'=> ?_,hx⟩
   obtain ⟨j,hj,hjq⟩:=List.mem_iff_getElem.1 hq'
   have h2:=markRS_at a rs j
   rw [List.getElem?_eq_getElem hj,hjq] at h2
   cases hq:rs[j]? with
   | none=>rw [hq] at h2; cases h2
   | some q=>
    rw [hq] at h2
    simp only [Option.map_some,Option.some.injEq] at h2
    subst h2
    exact (HK.out j q hq).1 (by have:=(List.getElem?_eq_some_iff.1 hq).1; have:=HL.out; omega)
set_option maxHeartbeats 1000000 in
theorem c_heldReadingSS (A:Option Addr) (n c:Nat) (rs:List RS) (a:Int) (w:World) (hs:SliceOf w 1 RS.cells A n c (markRS a rs)) (h6:∀q∈markRS a rs,SliceOf w 2 Reading.cells q.A q.n q.c q.xs)
  (hsum:(rs.map RS.n).sum≤1048576) (ha0:0≤a) (ha1:a≤100000000000):
  Calls Tryz.prog 82 #[.slice A n c,.int .i64 a] w (Ret (.int .i64 (a+2*((rs.map RS.n).sum:Nat))) w):=by
 have hm:=hs.max
 have hcap:=hs.cap
 have HL:=hide (hs.len.trans (markRS_len a rs))
 have HSM:=hide hsum
 clear hsum
 go_enter Tryz.func82,Tryz.ntmps82
 go_wp2_with fail
 go_loopw [1,5] (fun z i wr=>∃(k:Nat) (K:Int),k≤n∧z= .int .i64 K∧i= .int .i64 k∧Hid (K=a+2*(((rs.take k).map RS.n).sum:Nat))∧a≤K∧K≤a+2097152∧Ext w wr) (fun _ i _=>n-(intOf i).toNat)
 case atStart=>exact ⟨0,a,Nat.zero_le _,rfl,rfl,hide (by simp),by omega,by omega,Ext.refl _⟩
 case round=>
  obtain ⟨k,K,hk,rfl,rfl,HKK,hK0,hK1,hx⟩:=hrel
  by_cases hlt:k<n
  ·obtain ⟨bb,off,p',rfl,hbb,hxk',t⟩:=(hs.ext hx).get hlt
   have hp:=(h6 p' (List.mem_of_getElem? hxk')).ext hx
   have h2:=markRS_at a rs k
   rw [hxk'] at h2
   obtain ⟨p,hxk⟩:∃p,rs[k]? =some p:=⟨_,List.getElem?_eq_getElem (by have:=HL.out; omega)⟩
   rw [hxk] at h2
   simp only [Option.map_some,Option.some.injEq] at h2
   subst h2
   have t0:=t 0 _ rfl
   simp only [Nat.add_zero,Nat.mul_one] at t0
   simp only at hp
   rw [←HKK.out] at hp
   have HX:=hide hxk
   have hpn:=sum_le_of_take hxk
   have h0:=HSM.out
   have hp1:p.n≤1048576:=by omega
   have hp2:K+2*(p.n:Int)≤a+2097152:=by rw [HKK.out]; omega
   have hp3:¬K+2*(p.n:Int)<0:=by omega
   clear hxk t hpn h0 hxk'
   go_wp2_with fail
   refine (c_heldReadingS p.A p.n p.c K _ hp (by omega) (by omega) (by omega)).mono ?_
   rintro e w1 ⟨rfl,rfl⟩
   go_wp2_with fail
   go_roundw
   case rel=>exact ⟨k+1,_,by omega,rfl,by go_num,hide (by rw [sum_take HX.out,HKK.out]; omega),by omega,by omega,hx⟩
   case measure=>simp [intOf]; omega
  ·go_wp2_with fail
   go_ret
   obtain rfl:n=k:=by omega
   have h1:=HKK.out
   rw [List.take_of_length_le (by have:=HL.out; omega)] at h1
   exact ⟨by rw [←h1]; rfl,hx⟩
end Go.Proofs.YtinindjjapblcaaGreatDoor
