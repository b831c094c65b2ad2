/-
  The search through a network, of the reference.
-/
import Derived.Test.YtfkpghdmljjegaaGreatVe07
import Derived.Test.YtfkpghdmljjegaaGreatVe01
import Derived.Test.YtfkpghdmljjegaaGreatVe02
namespace Go.Proofs.YtfkpghdmljjegaaGreat
open Go.RowKit
theorem Row.newG {W:World} {g:Nat} (t:TypeId) (cs:List Value) (hg:g=W.heap.size):Row (W.alloc (.cells cs.toArray t)) g t cs:=by subst hg; exact Row.new W t cs
def boolC (b:Bool):List Value:=[.bool b]
theorem boolC_len (b:Bool):(boolC b).length=1:=rfl
theorem bool_info:(Tryz.prog.info? 4).map (fun i=>(i.zero,i.size,i.bytes))=some (some (.bool false),1,1):=by kernel_rfl
theorem OwnL.of_row {α:Type} {w:World} {base g:Nat} {t:TypeId} {size:Nat} {f:α→List Value} {xs:List α} (h:RowOf w g t f xs) (hf:∀x,(f x).length=size) (hb:base≤g) (hm:xs.length≤1048576):OwnL w base t size f (.slice (some ⟨g,0,none⟩) xs.length xs.length) xs:=by
 have hl:=flat_len (xs:=xs) hf
 refine ⟨hl,.inr ⟨g,xs.length,_,rfl,hb,h,Nat.le_refl _,by simp [maxLen]; omega,by simp [hl],?_⟩⟩
 rw [List.toList_toArray,List.take_of_length_le (by rw [hl]; exact Nat.le_refl _)]
theorem OwnL.sl {α:Type} {w:World} {base:Nat} {t:TypeId} {size:Nat} {f:α→List Value} {v:Value} {L:List α} (h:OwnL w base t size f v L) (hf:∀x,(f x).length=size) (hs:0<size):∃A c,v= .slice A L.length c∧SliceOf w size f A L.length c L:=by
 obtain ⟨A,c,g,hv,_,hn,hc,ho⟩:=h.own hf hs
 exact ⟨A,c,hv,ho.slice hf hn hc⟩
theorem RowOf.set0 {α:Type} {w:World} {g:Nat} {t:TypeId} {f:α→List Value} {L:List α} (h:RowOf w g t f L) (hf:∀x,∃u,f x=[u]) {d:Nat} (hd:d<L.length) (y:α) (u:Value) (hu:f y=[u]):RowOf (w.setCell ⟨g,d,none⟩ u) g t f (L.set d y):=by
 have hl:∀x,(f x).length=1:=fun x=>by obtain ⟨u,hu⟩:=hf x; rw [hu]; rfl
 have h1:=RowOf.put h hl hd y
 rw [hu,Nat.mul_one] at h1
 exact h1
theorem OwnL.farK {α:Type} {w:World} {base:Nat} {e:TypeId} {size:Nat} {f:α→List Value} {v:Value} {L:List α} (h:OwnL w base e size f v L) {p:Addr} (hp:p.block<base) (u:Value):OwnL (w.setCell p u) base e size f v L:=
 h.only ((Only.refl p.block w).setCell rfl u) hp
def InN (N:Nat) (E:List Int):Prop:=∀z∈E,∃k:Nat,z=k∧k<N
theorem InN.snoc {N:Nat} {E:List Int} (h:InN N E) {k:Nat} (hk:k<N):InN N (E++[(k:Int)]):=by
 intro z hz
 rcases List.mem_append.1 hz with hz | hz
 ·exact h z hz
 ·obtain rfl:=List.mem_singleton.1 hz; exact ⟨k,rfl,hk⟩
def EntB (P:Nat) (en:List Int):Prop:=∀z∈en,-1≤z∧z<P
theorem EntB.set {P:Nat} {en:List Int} (h:EntB P en) (d:Nat) {z:Int} (h1: -1≤z) (h2:z<P):EntB P (en.set d z):=by
 intro y hy
 rcases List.mem_or_eq_of_mem_set hy with hy | rfl
 ·exact h y hy
 ·exact ⟨h1,h2⟩
structure Sch (N P lo:Nat) (w0 wr:World) (gs ge:Nat) (l:List Bool) (en:List Int) (v:Value) (E:List Int):Prop where
 seen:RowOf wr gs 4 boolC l
 ent:RowOf wr ge 2 intC en
 own:OwnL wr lo 2 1 intC v E
 ext:Ext w0 wr
 l0:w0.heap.size≤ge
 l1:ge<gs
 l2:gs<lo
 ll:l.length=N
 el:en.length=N
 cnt:E.length=l.count true
 inn:InN N E
 enb:EntB P en
theorem count_set_true {l:List Bool} {d:Nat} (hd:l[d]? =some false):(l.set d true).count true=l.count true+1:=by
 obtain ⟨h,he⟩:=List.getElem?_eq_some_iff.1 hd
 rw [List.count_set h,he]
 simp
section
variable {N P lo gs ge:Nat} {w0 wr wr':World} {l:List Bool} {en:List Int} {v v':Value} {E:List Int}
theorem Sch.more (h:Sch N P lo w0 wr gs ge l en v E) (hx:Ext wr wr'):Sch N P lo w0 wr' gs ge l en v E:=
 ⟨h.seen.ext hx,h.ent.ext hx,h.own.ext hx,h.ext.trans hx,h.l0,h.l1,h.l2,h.ll,h.el,h.cnt,h.inn,h.enb⟩
theorem Sch.le (h:Sch N P lo w0 wr gs ge l en v E):E.length≤N:=by rw [h.cnt, ←h.ll]; exact List.count_le_length
theorem Sch.add (h:Sch N P lo w0 wr gs ge l en v E) {d:Nat} (hd:l[d]? =some false) (hdN:d<N) {z:Int} (h1: -1≤z) (h2:z<P)
  {W3:World} (hx3:Ext ((wr.setCell ⟨gs,d,none⟩ (.bool true)).setCell ⟨ge,d,none⟩ (.int .i64 z)) W3) (hg:W3.grownBy wr' v.ownBlock)
  (ho:OwnL wr' lo 2 1 intC v' (E++[(d:Int)])):Sch N P lo w0 wr' gs ge (l.set d true) (en.set d z) v' (E++[(d:Int)]):=by
 have hl1:=h.l1
 have hl2:=h.l2
 have hl0:=h.l0
 have hb:=fun k (hk:v.ownBlock=some k)=>h.own.block_le hk
 have s1:=RowOf.set0 h.seen (fun x=>⟨_,rfl⟩) (d:=d) (by rw [h.ll]; exact hdN) true (.bool true) rfl
 have s2:=s1.far (p:=⟨ge,d,none⟩) (by show gs≠ge; omega) (.int .i64 z)
 have e1:=h.ent.far (p:=⟨gs,d,none⟩) (by show ge≠gs; omega) (.bool true)
 have e2:=RowOf.set0 e1 (fun x=>⟨_,rfl⟩) (d:=d) (by rw [h.el]; exact hdN) z (.int .i64 z) rfl
 have hx2:=(h.ext.setCell (p:=⟨gs,d,none⟩) (by show w0.heap.size≤gs; omega) (.bool true)).setCell (p:=⟨ge,d,none⟩) (by show w0.heap.size≤ge; omega) (.int .i64 z)
 refine ⟨?_,?_,ho,(hx2.trans hx3).grown hg (fun k hk=>by have:=hb k hk; have:=hx2.size; omega),hl0,hl1,hl2,by rw [List.length_set]; exact h.ll,by rw [List.length_set]; exact h.el,?_,h.inn.snoc hdN,h.enb.set d h1 h2⟩
 ·have s3:=s2.ext hx3
  exact (hg.block gs s3.lt (fun e=>by have:=hb gs e.symm; omega)).trans s3
 ·have e3:=e2.ext hx3
  exact (hg.block ge e3.lt (fun e=>by have:=hb ge e.symm; omega)).trans e3
 ·rw [List.length_append,h.cnt,count_set_true hd]; rfl
end
def RetSch (N P:Nat) (w:World) (e:Ending) (w':World):Prop:=
 ∃v1 v2 en E,e= .returned (.tuple #[v1,v2])∧OwnL w' w.heap.size 2 1 intC v1 en∧OwnL w' w.heap.size 2 1 intC v2 E∧Hid (en.length=N∧E.length≤N∧EntB P en∧InN N E)∧Ext w w'
theorem InN.at {N:Nat} {E:List Int} (h:InN N E) {k:Nat} {z:Int} (hk:E[k]? =some z):∃j:Nat,z=j∧j<N:=h z (List.mem_of_getElem? hk)
theorem start_ent {en:List Int} {N P:Nat} (hl:en.length=N) (h:∀(j:Nat) (z:Int),j<N→en[j]? =some z→z= -1):EntB P en:=by
 intro z hz
 obtain ⟨j,hj⟩:=List.getElem?_of_mem hz
 have:=h j z (by rw [←hl]; exact (List.getElem?_eq_some_iff.1 hj).1) hj
 omega
theorem step_ent {en:List Int} {k:Nat} (h:∀(j:Nat) (z:Int),j<k→en[j]? =some z→z= -1):∀(j:Nat) (z:Int),j<k+1→(en.set k (-1))[j]? =some z→z= -1:=by
 intro j z hj hz
 rw [List.getElem?_set] at hz
 split at hz
 ·split at hz
  ·exact (Option.some.inj hz).symm
  ·cases hz
 ·exact h j z (by omega) hz
theorem start_seen {N k:Nat} (hk:k<N):((List.replicate N false).set k true).count true=1:=by
 rw [count_set_true (by rw [List.getElem?_replicate,if_pos hk])]
 simp [List.count_replicate]
theorem new_int (W:World) (g:Nat) (y:Int) (hg:g=W.heap.size):SliceOf (W.alloc (.cells #[.int .i64 y] 2)) 1 intC (some ⟨g,0,none⟩) 1 1 [y]:=by
 subst hg
 have h:RowOf (W.alloc (.cells #[.int .i64 y] 2)) W.heap.size 2 intC [y]:=Row.new W 2 [.int .i64 y]
 exact h.slice intC_len rfl (by omega)
theorem OwnL.ltG {α:Type} {w:World} {base:Nat} {e:TypeId} {size:Nat} {f:α→List Value} {v:Value} {L:List α} (h:OwnL w base e size f v L) {k:Nat} (hk:v.ownBlock=some k):base≤k∧k<w.heap.size:=by
 rcases h.2 with ⟨rfl,_⟩ | ⟨g,cap,cur,rfl,hb,hh,_⟩
 ·cases hk
 ·simp [Value.ownBlock] at hk
  subst hk
  refine ⟨hb,?_⟩
  rcases Nat.lt_or_ge g w.heap.size with hlt | hge
  ·exact hlt
  ·rw [Array.getElem?_eq_none hge] at hh; cases hh
theorem OwnL.slE {α:Type} {w:World} {base:Nat} {t:TypeId} {size:Nat} {f:α→List Value} {A:Option Addr} {n c:Nat} {L:List α} (h:OwnL w base t size f (.slice A n c) L) (hf:∀x,(f x).length=size) (hs:0<size):SliceOf w size f A n c L:=by
 obtain ⟨A',c',he,h1⟩:=h.sl hf hs
 cases he
 exact h1
def Apt (v v':Value):Prop:=∀k,v.ownBlock=some k→v'.ownBlock≠some k
set_option maxHeartbeats 4000000 in
theorem c_l04Search (A1 A2:Option Addr) (n1 c1 n2 c2:Nat) (ps:List Pipe) (w:World) (hs2:SliceOf w 5 Pipe.cells A2 n2 c2 ps) (m1:n1≤100000) (m2:n2≤100000) (he:EndsIn n1 ps) (x:Nat) (hxN:x<n1):
  Calls Tryz.prog 301 #[.agg #[.slice A1 n1 c1,.slice A2 n2 c2],.int .i64 x] w (RetSch n1 n2 w):=by
 have hB:=Row.new w 45 [.slice A1 n1 c1,.slice A2 n2 c2]
 have hx0:Ext w (w.alloc (.cells #[.slice A1 n1 c1,.slice A2 n2 c2] 45)):=Ext.alloc _ _
 have hmkI:=fun W=>run_make_flat (P:=Tryz.prog) 24 2 _ _ 1 8 Tryz.underlying24 int_info (f:=intC) 0 rfl rfl rfl (by omega) n1 (by omega) (by omega) W
 have hmkB:=fun W=>run_make_flat (P:=Tryz.prog) 318 4 _ _ 1 1 Tryz.underlying318 bool_info (f:=boolC) false rfl rfl rfl (by omega) n1 (by omega) (by omega) W
 have HE:=hide he
 clear he
 go_enter Tryz.func301,Tryz.ntmps301
 go_wp2_with fail
 go_loopw [8] (fun i wr=>∃(k:Nat) (en:List Int),k≤n1∧i= .int .i64 k∧RowOf wr (w.heap.size+1+1) 4 boolC (List.replicate n1 false)∧RowOf wr (w.heap.size+1) 2 intC en∧en.length=n1∧Hid (∀(j:Nat) (z:Int),j<k→en[j]? =some z→z= -1)∧Ext (w.alloc (.cells #[.slice A1 n1 c1,.slice A2 n2 c2] 45)) wr) (fun i _=>n1-(intOf i).toNat)
 case atStart=>
  refine ⟨0,List.replicate n1 0,Nat.zero_le _,rfl,?_,?_,by simp,hide (fun j z hj=>absurd hj (by omega)),(Ext.alloc _ _).and_alloc _⟩
  ·exact Row.newG _ _ (by simp)
  ·exact (Row.newG _ _ (by simp)).ext (Ext.alloc _ _)
 case round=>
  obtain ⟨k,en,hk,rfl,hS,hEn,hel,HEn,hx⟩:=hrel
  have hzs:=hS.lt
  by_cases hlt:k<n1
  ·obtain ⟨u,hu⟩:=hEn.there intC_len (i:=k) (by omega) (j:=0) (by omega)
   simp only [Nat.mul_one,Nat.add_zero] at hu
   have hf:=hEn.frozen k
   have hle:=hEn.lt
   have hN:=RowOf.set0 hEn (fun x=>⟨_,rfl⟩) (d:=k) (by omega) (-1) (.int .i64 (-1)) rfl
   have hS2:=hS.far (p:=⟨w.heap.size+1,k,none⟩) (by show w.heap.size+1+1≠w.heap.size+1; omega) (.int .i64 (-1))
   have hx2:=hx.setCell (p:=⟨w.heap.size+1,k,none⟩) (by simp) (.int .i64 (-1))
   have HN:=hide (step_ent HEn.out)
   clear hx hS hEn
   go_wp2_with fail
   go_roundw
   case rel=>exact ⟨k+1,_,by omega,by go_num,hS2,hN,by rw [List.length_set]; exact hel,HN,hx2⟩
   case measure=>simp [intOf]; omega
  ·obtain rfl:n1=k:=by omega
   obtain ⟨u,hu⟩:=hS.there boolC_len (i:=x) (by simp; omega) (j:=0) (by omega)
   simp only [Nat.mul_one,Nat.add_zero] at hu
   have hf:=hS.frozen x
   have hS2:=RowOf.set0 hS (fun x=>⟨_,rfl⟩) (d:=x) (by simp; omega) true (.bool true) rfl
   have hE2:=hEn.far (p:=⟨w.heap.size+1+1,x,none⟩) (by show w.heap.size+1≠w.heap.size+1+1; omega) (.bool true)
   have hx2:=hx.setCell (p:=⟨w.heap.size+1+1,x,none⟩) (by simp) (.bool true)
   have hszr:(wr.setCell ⟨w.heap.size+1+1,x,none⟩ (.bool true)).heap.size=wr.heap.size:=by simp
   have hD:Sch n1 n2 (w.heap.size+3) (w.alloc (.cells #[.slice A1 n1 c1,.slice A2 n2 c2] 45)) ((wr.setCell ⟨w.heap.size+1+1,x,none⟩ (.bool true)).alloc (.cells #[.int .i64 x] 2)) (w.heap.size+1+1) (w.heap.size+1) ((List.replicate n1 false).set x true) en (.slice (some ⟨wr.heap.size,0,none⟩) 1 1) [(x:Int)]:=by
    refine ⟨hS2.ext (Ext.alloc _ _),hE2.ext (Ext.alloc _ _),OwnL.of_row (xs:=[(x:Int)]) (Row.newG _ _ hszr.symm) intC_len (by omega) (by simp),hx2.and_alloc _,by simp,by omega,by omega,by simp,hel,?_,?_,start_ent hel HEn.out⟩
    ·rw [start_seen hxN]; rfl
    ·intro z hz; obtain rfl:=List.mem_singleton.1 hz; exact ⟨x,rfl,hxN⟩
   clear hS2 hE2 hx2 HEn hEn hel
   go_wp2_with fail
   go_loopw [9,10] (fun v i wr=>∃(k:Nat) (l:List Bool) (en E:List Int),i= .int .i64 k∧k≤E.length∧Sch n1 n2 (w.heap.size+3) (w.alloc (.cells #[.slice A1 n1 c1,.slice A2 n2 c2] 45)) wr (w.heap.size+1+1) (w.heap.size+1) l en v E) (fun _ i _=>n1-(intOf i).toNat)
   case atStart=>exact ⟨0,_,_,_,rfl,Nat.zero_le _,hD⟩
   case round=>
    obtain ⟨k,l,en,E,rfl,hk,hD0⟩:=hrel
    clear hD
    have hD:=hD0
    clear hD0
    have hszr:=hD.seen.lt
    have hEn:=hD.le
    by_cases hlt:k<E.length
    ·obtain ⟨Ao,co,rfl,hsl⟩:=hD.own.sl intC_len (by omega)
     obtain ⟨bo,oo,zo,rfl,hbo,hok,hco⟩:=hsl.get hlt
     have hc0:=hco 0 _ rfl
     simp only [Nat.add_zero,Nat.mul_one] at hc0
     obtain ⟨q,rfl,hq⟩:=hD.inn.at hok
     have HOK:=hide hok
     clear hco hok hsl
     have hb0:=(hB.ext hD.ext).cell 0
     have hb1:=(hB.ext hD.ext).cell 1
     simp at hb0 hb1
     have hbl:=(hB.ext hD.ext).lt
     go_wp2_with fail
     refine wp_region_ph [([0,1,2,3,4],5)] [6] (by kernel_rfl) (by kernel_rfl) (by intro c a w d v h; cases d <;> exact h) ?_
     simp only [wpPh,pickL,nthO]
     repeat (go_big_quiet_step (fail))
     refine wpQuiet_nil ?_
     go_wp2_with fail
     refine (c_l02At A1 A2 n1 c1 n2 c2 ps _ ((hs2.ext hx0).ext (hD.ext.trans (Ext.refl _).drew)) q (by omega)).mono ?_
     rintro e w2 ⟨va,Ea,rfl,hoa,HA,hx2⟩
     go_wp2_with fail
     refine ⟨hx2,?_⟩
     repeat (go_big_quiet_step (fail))
     refine wpQuiet_nil ?_
     clear hc0 hb0 hb1
     have hxd:=(Ext.refl _).drew.trans hx2
     have hDr:=hD.more hxd
     clear hD
     obtain ⟨wb,hwb⟩:∃wb,wr.drew.heap.size=wb:=⟨_,rfl⟩
     rw [hwb] at hoa
     have hwb':w.heap.size+1+1<wb:=by rw [←hwb]; exact hszr
     have HAP:Apt va (.slice (some ⟨bo,oo,none⟩) E.length co):=fun k hk h2=>by
      have h3:=hoa.block_le hk
      have h4:bo<wb:=by rw [←hwb]; exact hbo
      simp [Value.ownBlock] at h2
      omega
     obtain ⟨Aa,ca,rfl,_⟩:=hoa.sl intC_len (by omega)
     go_wp2_with fail
     go_loopw [9,12] (fun v i wr=>∃(j:Nat) (l:List Bool) (en E:List Int),i= .int .i64 j∧j≤Ea.length∧k<E.length∧Hid (E[k]? =some (q:Int))∧Sch n1 n2 (w.heap.size+3) (w.alloc (.cells #[.slice A1 n1 c1,.slice A2 n2 c2] 45)) wr (w.heap.size+1+1) (w.heap.size+1) l en v E∧OwnL wr wb 2 1 intC (.slice Aa Ea.length ca) Ea∧Apt (.slice Aa Ea.length ca) v) (fun _ i _=>Ea.length-(intOf i).toNat)
     case atStart=>exact ⟨0,l,en,E,rfl,Nat.zero_le _,hlt,HOK,hDr,hoa,HAP⟩
     case round=>
      clear HAP hoa hDr HOK hEn hlt hk hxd hx2 hbo hszr hbl
      obtain ⟨j,l,en,E,rfl,hj,hkE,HOK,hD,hoa,hap⟩:=hrel
      have hEa:=HA.out.2
      have hszr:=hD.seen.lt
      have hEn:=hD.le
      obtain ⟨Ao,co',rfl,hsl⟩:=hD.own.sl intC_len (by omega)
      by_cases hjl:j<Ea.length
      ·obtain ⟨bo,oo,zo,rfl,hbo,hok,hco⟩:=hsl.get hkE
       obtain rfl:zo=(q:Int):=by have:=HOK.out; rw [hok] at this; exact Option.some.inj this
       have hc0:=hco 0 _ rfl
       simp only [Nat.add_zero,Nat.mul_one] at hc0
       obtain ⟨ba,oa,za,rfl,hba,hak,hca⟩:=(hoa.slE intC_len (by omega)).get hjl
       obtain ⟨ka,p,rfl,hpk,hpe⟩:=HA.out.1 _ (List.mem_of_getElem? hak)
       have hd0:=hca 0 _ rfl
       simp only [Nat.add_zero,Nat.mul_one] at hd0
       have hkl:ka<n2:=by rw [hs2.len]; exact (List.getElem?_eq_some_iff.1 hpk).1
       have HPK:=hide hpk
       have HPE:=hide hpe
       clear hco hca hok hsl hpk hpe hak
       have hb0:=(hB.ext hD.ext).cell 0
       have hb1:=(hB.ext hD.ext).cell 1
       simp at hb0 hb1
       have hbl:=(hB.ext hD.ext).lt
       go_wp2_with fail
       refine wp_region_ph [([0,1,2,3,4,5,6,7,8],9)] [10] (by kernel_rfl) (by kernel_rfl) (by intro c a w d v h; cases d <;> exact h) ?_
       simp only [wpPh,pickL,nthO]
       repeat (go_big_quiet_step (fail))
       refine wpQuiet_nil ?_
       go_wp2_with fail
       refine (c_l02Other A1 A2 n1 c1 n2 c2 ps _ ((hs2.ext hx0).ext (hD.ext.trans (Ext.refl _).drew)) n1 (by omega) HE.out ka p HPK.out q HPE.out).mono ?_
       rintro e w2 ⟨y,rfl,hy,hx2⟩
       go_wp2_with fail
       refine ⟨hx2,?_⟩
       repeat (go_big_quiet_step (fail))
       refine wpQuiet_nil ?_
       have hxd:=(Ext.refl _).drew.trans hx2
       have hd2:=(hxd.cell _ _ hba).trans hd0
       clear hc0 hd0 hb0 hb1 hbl
       have hDr:=hD.more hxd
       have hor:=hoa.ext hxd
       have hszd:=hDr.seen.lt
       have hyl:y<l.length:=by rw [hDr.ll]; exact hy
       obtain ⟨bb,hbb⟩:∃bb,l[y]? =some bb:=⟨_,List.getElem?_eq_getElem hyl⟩
       have hsc:=hDr.seen.get boolC_len hbb (j:=0) rfl
       simp only [Nat.mul_one,Nat.add_zero] at hsc
       have hsf:=hDr.seen.frozen y
       have HBB:=hide hbb
       clear hD hoa hbb hx2 hxd
       cases bb
       ·obtain ⟨u,hu⟩:=hDr.ent.there intC_len (i:=y) (by rw [hDr.el]; exact hy) (j:=0) (by omega)
        simp only [Nat.mul_one,Nat.add_zero] at hu
        have hel:=hDr.ent.lt
        have hef:=hDr.ent.frozen y
        have hne:w.heap.size+1≠w.heap.size+1+1:=by omega
        have hba2:=hor.block_le (k:=ba) rfl
        have hne2:ba≠w.heap.size+1+1:=by omega
        have hne3:ba≠w.heap.size+1:=by omega
        have hba3:=(hor.ltG (k:=ba) rfl).2
        have ho3:OwnL ((w2.setCell ⟨w.heap.size+1+1,y,none⟩ (.bool true)).setCell ⟨w.heap.size+1,y,none⟩ (.int .i64 ka)) (w.heap.size+3) 2 1 intC (.slice (some ⟨bo,oo,none⟩) E.length co') E:=(hDr.own.farK (p:=⟨w.heap.size+1+1,y,none⟩) (by show w.heap.size+1+1<w.heap.size+3; omega) _).farK (p:=⟨w.heap.size+1,y,none⟩) (by show w.heap.size+1<w.heap.size+3; omega) _
        have hr3:OwnL ((w2.setCell ⟨w.heap.size+1+1,y,none⟩ (.bool true)).setCell ⟨w.heap.size+1,y,none⟩ (.int .i64 ka)) wb 2 1 intC (.slice (some ⟨ba,oa,none⟩) Ea.length ca) Ea:=(hor.farK (p:=⟨w.heap.size+1+1,y,none⟩) (by show w.heap.size+1+1<wb; omega) _).farK (p:=⟨w.heap.size+1,y,none⟩) (by show w.heap.size+1<wb; omega) _
        go_wp2_with (at_builtin; go_must (refine wpList_append_where rfl _ _ 24 rfl (w.heap.size+3) 2 _ 1 8 Tryz.underlying24 int_info rfl (by decide) intC intC_len int_one' (.slice (some ⟨bo,oo,none⟩) E.length co') E rfl (ho3.ext (Ext.alloc _ _)) (w2.heap.size) 0 1 1 [(y:Int)] rfl (new_int ((w2.setCell ⟨w.heap.size+1+1,y,none⟩ (.bool true)).setCell ⟨w.heap.size+1,y,none⟩ (.int .i64 ka)) _ _ (by simp)) (by omega) (by omega) (by first | omega | (simp; omega)) ?_))
        intro v5 w5 ho5 hg5 hb5
        have hD5:=hDr.add HBB.out hy (z:=(ka:Int)) (by omega) (by omega) (Ext.alloc _ _) hg5 ho5
        have hr5:=(hr3.ext (Ext.alloc _ (.cells #[.int .i64 y] 2))).grown hg5 (fun k hk=>hap k hk)
        have hap5:Apt (.slice (some ⟨ba,oa,none⟩) Ea.length ca) v5:=fun k hk h2=>by
         rcases hb5 k h2 with h3 | h3
         ·exact hap k hk h3
         ·obtain rfl:ba=k:=by simpa [Value.ownBlock] using hk
          omega
        clear hDr ho3 hr3 hg5 ho5 hb5
        go_wp2_with fail
        go_roundw
        case rel=>exact ⟨j+1,_,_,_,by go_num,by omega,by simp; omega,hide (by rw [List.getElem?_append_left hkE]; exact HOK.out),hD5,hr5,hap5⟩
        case measure=>simp [intOf]; omega
       ·go_wp2_with fail
        go_roundw
        case rel=>exact ⟨j+1,l,en,E,by go_num,by omega,hkE,HOK,hDr,hor,hap⟩
        case measure=>simp [intOf]; omega
      ·go_wp2_with fail
       go_roundw
       case rel=>exact ⟨k+1,l,en,E,by go_num,by omega,hD⟩
       case measure=>simp [intOf]; omega
    ·obtain ⟨Ao,co,rfl,hsl⟩:=hD.own.sl intC_len (by omega)
     go_wp2_with fail
     go_ret2
     refine ⟨_,_,en,E,rfl,?_,?_,hide ⟨hD.el,hEn,hD.enb,hD.inn⟩,hx0.trans hD.ext⟩
     ·have:=OwnL.of_row hD.ent intC_len (base:=w.heap.size) (by omega) (by rw [hD.el]; omega)
      rw [hD.el] at this
      exact this
     ·exact hD.own.lowG (by omega)
end Go.Proofs.YtfkpghdmljjegaaGreat
namespace Go.Proofs.YtfkpghdmljjegaaGreat
open Go.RowKit
theorem flat_one {α:Type} {size:Nat} {f:α→List Value} (hf:∀x,(f x).length=size):∀(L:List α) (k j:Nat) (u:Value) (x y:α),L[k]? =some x→j<size→f y=(f x).set j u→(L.flatMap f).set (k*size+j) u=(L.set k y).flatMap f
 | [],k,j,u,x,y,h,_,_=>by simp at h
 | e::L,0,j,u,x,y,h,hj,hy=>by
  simp only [List.getElem?_cons_zero,Option.some.injEq] at h
  subst h
  rw [List.flatMap_cons,Nat.zero_mul,Nat.zero_add,List.set_append_left _ _ (by rw [hf]; exact hj),List.set_cons_zero,List.flatMap_cons,hy]
 | e::L,k+1,j,u,x,y,h,hj,hy=>by
  have ih:=flat_one hf L k j u x y (by simpa using h) hj hy
  rw [List.flatMap_cons,List.set_append_right _ _ (by rw [hf,Nat.add_mul]; omega),hf,show (k+1)*size+j-size=k*size+j by rw [Nat.add_mul]; omega,ih,List.set_cons_succ,List.flatMap_cons]
theorem OwnL.setOne {α:Type} {w:World} {base:Nat} {e:TypeId} {size:Nat} {f:α→List Value} {A:Option Addr} {n c:Nat} {L:List α} (h:OwnL w base e size f (.slice A n c) L) (hf:∀x,(f x).length=size) {k j:Nat} {x y:α} {u:Value} (hk:L[k]? =some x) (hj:j<size) (hy:f y=(f x).set j u):
  ∃g,A=some ⟨g,0,none⟩∧n=L.length∧base≤g∧g<w.heap.size∧(∀i,w.frozen? ⟨g,i,none⟩=false)∧(∀i v,(f x)[i]? =some v→w.cell? ⟨g,k*size+i,none⟩=some v)∧OwnL (w.setCell ⟨g,k*size+j,none⟩ u) base e size f (.slice A n c) (L.set k y):=by
 have hkl:k<L.length:=(List.getElem?_eq_some_iff.1 hk).1
 have hfl:=flat_len (xs:=L) hf
 obtain ⟨h1,h2⟩:=h
 rcases h2 with ⟨hv,hn⟩ | ⟨g,cap,cur,hv,hb,hh,hnc,hcm,hsz,htk⟩
 ·omega
 ·simp only [Value.slice.injEq] at hv
  obtain ⟨rfl,rfl,rfl⟩:=hv
  have hR:Row w g e cur.toList:=by unfold Row; rw [Array.toArray_toList]; exact hh
  have hlt:∀i,i<size→k*size+i<L.length*size:=fun i hi=>by
   have:(k+1)*size≤L.length*size:=Nat.mul_le_mul_right _ hkl
   rw [Nat.add_mul] at this
   omega
  refine ⟨g,rfl,rfl,hb,hR.lt,hR.frozen,fun i v hv=> ?_,by rw [flat_len hf,List.length_set],.inr ⟨g,c,(cur.toList.set (k*size+j) u).toArray,by rw [List.length_set],hb,hR.set_ (k*size+j) u,by rw [List.length_set]; exact hnc,hcm,by simpa using hsz,?_⟩⟩
  ·have hi:i<size:=by rw [←hf x]; exact (List.getElem?_eq_some_iff.1 hv).1
   have h3:=flat_get hf hk hv
   rw [←htk,List.getElem?_take,if_pos (hlt i hi)] at h3
   rw [hR.cell]; exact h3
  ·rw [List.length_set,List.toList_toArray,List.take_set,htk]
   exact flat_one hf L k j u x y hk hj hy
theorem Short.set {ns:List Node} (h:Short ns) (k:Nat) {x:Node} (hx:x.name.size≤100):Short (ns.set k x):=by
 intro y hy
 rcases List.mem_or_eq_of_mem_set hy with hy | rfl
 ·exact h y hy
 ·exact hx
structure ASt (w0 w:World) (a:Nat) (A:Option Addr) (n c g:Nat) (v1 v2:Value) (ns:List Node) (ps:List Pipe) (wr:World):Prop where
 lt:a<w.heap.size
 src:Src w0 wr a A n c
 only:Only a w wr
 res:Row wr w.heap.size 45 [.slice none 0 0,.slice none 0 0]
 var:Row wr g 45 [v1,v2]
 hg:w.heap.size<g
 o1:OwnL wr (w.heap.size+1) 223 3 Node.cells v1 ns
 o2:OwnL wr (w.heap.size+1) 181 5 Pipe.cells v2 ps
 nm:Short ns
def DrawnNet2 (w0:World) (a:Nat) (A:Option Addr) (n c:Nat) (w:World) (e:Ending) (w':World):Prop:=
 ∃(v1 v2:Value) (ns:List Node) (ps:List Pipe),e= .returned (.agg #[v1,v2])∧Src w0 w' a A n c∧Only a w w'∧OwnL w' (w.heap.size+1) 223 3 Node.cells v1 ns∧OwnL w' (w.heap.size+1) 181 5 Pipe.cells v2 ps∧ns.length≤7∧ps.length≤30∧Short ns
section
variable {w0 w wr wr':World} {a n c g:Nat} {A:Option Addr} {v1 v2 v':Value} {ns:List Node} {ps:List Pipe}
theorem ASt.draw (h:ASt w0 w a A n c g v1 v2 ns ps wr) (hs:Src w0 wr' a A n c) (ho:Only a wr wr'):ASt w0 w a A n c g v1 v2 ns ps wr':=
 have hl:=h.lt
 have hg:=h.hg
 ⟨h.lt,hs,h.only.trans ho,h.res.only ho (by omega),h.var.only ho (by omega),h.hg,h.o1.only ho (by omega),h.o2.only ho (by omega),h.nm⟩
theorem ASt.more (h:ASt w0 w a A n c g v1 v2 ns ps wr) (hx:Ext wr wr'):ASt w0 w a A n c g v1 v2 ns ps wr':=h.draw (h.src.more hx) (Only.of_ext hx a)
theorem ASt.setCellA (h:ASt w0 w a A n c g v1 v2 ns ps wr) {p:Addr} (hp:w.heap.size≤p.block) (u:Value):Src w0 (wr.setCell p u) a A n c∧Only a w (wr.setCell p u):=by
 have hl:=h.lt
 have hle:=h.src.le0
 refine ⟨h.src.set (by omega) (by omega) u,?_⟩
 exact h.only.grown ((Only.refl p.block wr).setCell rfl u) (fun k hk=>by simp at hk; omega)
theorem ASt.setNode (h:ASt w0 w a A n c g v1 v2 ns ps wr) {k j:Nat} {x y:Node} {u:Value} (hk:ns[k]? =some x) (hj:j<3) (hy:y.cells=x.cells.set j u) (hn:y.name.size≤100):
  ∃b c',v1= .slice (some ⟨b,0,none⟩) ns.length c'∧b<wr.heap.size∧b≠g∧(∀i,wr.frozen? ⟨b,i,none⟩=false)∧(∀i v,x.cells[i]? =some v→wr.cell? ⟨b,k*3+i,none⟩=some v)∧ASt w0 w a A n c g v1 v2 (ns.set k y) ps (wr.setCell ⟨b,k*3+j,none⟩ u):=by
 obtain ⟨A1,c1,rfl,_⟩:=h.o1.form
 obtain ⟨b,rfl,_,hb,hlt,hf,hc,ho⟩:=h.o1.setOne node_len hk hj hy
 have hne:b≠g:=fun e=>h.o1.not_row h.var (by decide) b rfl (by rw [e])
 obtain ⟨hs,hon⟩:=h.setCellA (p:=⟨b,k*3+j,none⟩) (by show w.heap.size≤b; omega) u
 have hne2:∀q,v2.ownBlock=some q→q≠b:=fun q hq e=>OwnL.apart h.o1 h.o2 (by decide) q hq (by rw [e]; rfl)
 refine ⟨b,c1,rfl,hlt,hne,hf,hc,h.lt,hs,hon,h.res.far (by show w.heap.size≠b; omega) u,h.var.far (by show g≠b; omega) u,h.hg,ho,?_,h.nm.set k hn⟩
 exact h.o2.grown ((Only.refl b wr).setCell rfl u) (fun q hq e=>hne2 q hq (by simpa using e.symm))
theorem ASt.setPipe (h:ASt w0 w a A n c g v1 v2 ns ps wr) {k j:Nat} {x y:Pipe} {u:Value} (hk:ps[k]? =some x) (hj:j<5) (hy:y.cells=x.cells.set j u):
  ∃b c',v2= .slice (some ⟨b,0,none⟩) ps.length c'∧b<wr.heap.size∧b≠g∧(∀i,wr.frozen? ⟨b,i,none⟩=false)∧(∀i v,x.cells[i]? =some v→wr.cell? ⟨b,k*5+i,none⟩=some v)∧ASt w0 w a A n c g v1 v2 ns (ps.set k y) (wr.setCell ⟨b,k*5+j,none⟩ u):=by
 obtain ⟨A1,c1,rfl,_⟩:=h.o2.form
 obtain ⟨b,rfl,_,hb,hlt,hf,hc,ho⟩:=h.o2.setOne pipe_len hk hj hy
 have hne:b≠g:=fun e=>h.o2.not_row h.var (by decide) b rfl (by rw [e])
 obtain ⟨hs,hon⟩:=h.setCellA (p:=⟨b,k*5+j,none⟩) (by show w.heap.size≤b; omega) u
 have hne2:∀q,v1.ownBlock=some q→q≠b:=fun q hq e=>OwnL.apart h.o2 h.o1 (by decide) q hq (by rw [e]; rfl)
 refine ⟨b,c1,rfl,hlt,hne,hf,hc,h.lt,hs,hon,h.res.far (by show w.heap.size≠b; omega) u,h.var.far (by show g≠b; omega) u,h.hg,?_,ho,h.nm⟩
 exact h.o1.grown ((Only.refl b wr).setCell rfl u) (fun q hq e=>hne2 q hq (by simpa using e.symm))
theorem ASt.app2 (h:ASt w0 w a A n c g v1 v2 ns ps wr) (hgr:wr.grownBy wr' v2.ownBlock) {ps':List Pipe} (ho:OwnL wr' (w.heap.size+1) 181 5 Pipe.cells v' ps'):ASt w0 w a A n c g v1 v' ns ps' (wr'.setCell ⟨g,1,none⟩ v'):=by
 have hl:=h.lt
 have hle:=h.src.le0
 have hgg:=h.hg
 have hb:=fun k (hk:v2.ownBlock=some k)=>h.o2.block_le hk
 have hne:∀k,v2.ownBlock=some k→k≠g:=fun k hk e=>h.o2.not_row h.var (by decide) k hk (by rw [e])
 have s1:Src w0 wr' a A n c:=h.src.grow hgr (fun k hk=>by have:=hb k hk; omega)
 have r1:Row wr' g 45 [v1,v2]:=h.var.grown hgr (fun e=>hne g e rfl)
 have o1:OwnL wr' (w.heap.size+1) 223 3 Node.cells v1 ns:=h.o1.grown hgr (fun k hk=>fun e=>OwnL.apart h.o2 h.o1 (by decide) k hk e)
 have nb1:∀k,v1.ownBlock=some k→k≠g:=fun k hk e=>o1.not_row r1 (by decide) k hk (by rw [e])
 have nb2:∀k,v'.ownBlock=some k→k≠g:=fun k hk e=>ho.not_row r1 (by decide) k hk (by rw [e])
 refine ⟨h.lt,s1.set (by show w0.heap.size≤g; omega) (by show g≠a; omega) _,?_,?_,r1.set_ 1 v',h.hg,?_,?_,h.nm⟩
 ·exact (h.only.grown hgr (fun k hk=> .inl (by have:=hb k hk; omega))).grown ((Only.refl g wr').setCell rfl v') (fun k hk=>by simp at hk; omega)
 ·exact (h.res.grown hgr (fun e=>by have:=hb _ e; omega)).far (by show w.heap.size≠g; omega) _
 ·exact o1.grown ((Only.refl g wr').setCell rfl v') (fun q hq e=>nb1 q hq (by simpa using e.symm))
 ·exact ho.grown ((Only.refl g wr').setCell rfl v') (fun q hq e=>nb2 q hq (by simpa using e.symm))
theorem ASt.none1 (h:ASt w0 w a A n c g v1 v2 ns ps wr):ASt w0 w a A n c g (.slice none 0 0) v2 [] ps (wr.setCell ⟨g,0,none⟩ (.slice none 0 0)):=by
 have hl:=h.lt
 have hgg:=h.hg
 have nb2:∀k,v2.ownBlock=some k→k≠g:=fun k hk e=>h.o2.not_row h.var (by decide) k hk (by rw [e])
 obtain ⟨hs,hon⟩:=h.setCellA (p:=⟨g,0,none⟩) (by show w.heap.size≤g; omega) (.slice none 0 0)
 refine ⟨h.lt,hs,hon,h.res.far (by show w.heap.size≠g; omega) _,h.var.set_ 0 _,h.hg,OwnL.nil_ _ _ _ _ _,?_,fun x hx=>by cases hx⟩
 exact h.o2.grown ((Only.refl g wr).setCell rfl _) (fun q hq e=>nb2 q hq (by simpa using e.symm))
theorem ASt.fin (h:ASt w0 w a A n c g v1 v2 ns ps wr) (h2:ns.length≤7) (h3:ps.length≤30):
  DrawnNet2 w0 a A n c w (.returned (.agg #[v1,v2])) (putCells wr w.heap.size 0 [v1,v2]):=by
 have hl:=h.lt
 have hle:=h.src.le0
 exact ⟨v1,v2,ns,ps,rfl,h.src.put (by omega) (by omega) _ _,h.only.putNew (Nat.le_refl _) _ _,h.o1.put h.res (by decide) _ _,h.o2.put h.res (by decide) _ _,h2,h3,h.nm⟩
end
end Go.Proofs.YtfkpghdmljjegaaGreat
