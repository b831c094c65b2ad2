/-
  A copy of a room lies in blocks of its own.
-/
import Derived.Test.YtinindjjapblcaaGreatDoorWa19
import Derived.Test.YtinindjjapblcaaGreatDoorWa02
import Derived.Test.YtinindjjapblcaaGreatDoorWa25
namespace Go.Proofs.YtinindjjapblcaaGreatDoor
open Go.RowKit
theorem blk_some {g n b:Nat} (h:blkOf (some ⟨g,0,none⟩) n=some b):b=g:=by
 unfold blkOf at h
 split at h
 ·cases h
 ·simp at h; exact h.symm
theorem sep5R {x1 x2 x3 x4 x5:Option Nat} {g1 g2 g3 g4 g5:Nat} (k1:∀b,x1=some b→b=g1) (k2:∀b,x2=some b→b=g2) (k3:∀b,x3=some b→b=g3) (k4:∀b,x4=some b→b=g4) (k5:∀b,x5=some b→b=g5)
  (h12:g1≠g2) (h13:g1≠g3) (h14:g1≠g4) (h15:g1≠g5) (h23:g2≠g3) (h24:g2≠g4) (h25:g2≠g5) (h34:g3≠g4) (h35:g3≠g5) (h45:g4≠g5):SepL [x1,x2,x3,x4,x5]:=by
 intro i j b hij hi hj
 have key:∀i,[x1,x2,x3,x4,x5][i]? =some (some b)→(i=0∧b=g1)∨(i=1∧b=g2)∨(i=2∧b=g3)∨(i=3∧b=g4)∨(i=4∧b=g5):=by
  intro i hi
  match i with
  | 0=>simp at hi; exact .inl ⟨rfl,k1 b hi⟩
  | 1=>simp at hi; exact .inr (.inl ⟨rfl,k2 b hi⟩)
  | 2=>simp at hi; exact .inr (.inr (.inl ⟨rfl,k3 b hi⟩))
  | 3=>simp at hi; exact .inr (.inr (.inr (.inl ⟨rfl,k4 b hi⟩)))
  | 4=>simp at hi; exact .inr (.inr (.inr (.inr ⟨rfl,k5 b hi⟩)))
  | i+5=>simp at hi
 rcases key i hi with ⟨rfl,h⟩ | ⟨rfl,h⟩ | ⟨rfl,h⟩ | ⟨rfl,h⟩ | ⟨rfl,h⟩ <;> rcases key j hj with ⟨rfl,h'⟩ | ⟨rfl,h'⟩ | ⟨rfl,h'⟩ | ⟨rfl,h'⟩ | ⟨rfl,h'⟩ <;> omega
def RoomNew (r:Room) (w:World) (e:Ending) (w':World):Prop:=
 ∃(A1 A2 A3 A4 A5:Option Addr) (n1 c1 n2 c2 n3 c3 n4 c4 n5 c5:Nat) (r':Room),e= .returned (.agg #[.slice A1 n1 c1,.slice A2 n2 c2,.slice A3 n3 c3,.slice A4 n4 c4,.slice A5 n5 c5])∧ROwn w' w.heap.size w'.heap.size A1 A2 A3 A4 A5 n1 c1 n2 c2 n3 c3 n4 c4 n5 c5 r'∧r'.Like r∧RoomSm n1 n2 n3 n4 r'.rs∧Ext w w'
theorem CopiedRoom.new {r:Room} {w w':World} {e:Ending} (hl:RoomLen r) (h:CopiedRoom r w e w'):RoomNew r w e w':=by
 obtain ⟨g1,g2,g3,g4,g5,rs',rfl,h0,h12,h23,h34,h45,r1,r2,r3,r4,r5,hm,ho,hap,hx⟩:=h
 obtain ⟨k1,_,k2,k3,k4,k5,_,k8⟩:=hl
 have hlen:=congrArg List.length hm
 simp at hlen
 have l1:=r1.lt
 have l2:=r2.lt
 have l3:=r3.lt
 have l4:=r4.lt
 have l5:=r5.lt
 have hq:∀b,rsBlk rs' b→g5<b∧b<w'.heap.size:=by
  rintro b ⟨q,hq,hb⟩
  obtain ⟨g,hg,hA,hn,_,_,hr⟩:=ho q hq
  rw [hA] at hb
  have:=blk_some hb
  subst this
  exact ⟨hg,hr.lt⟩
 have hf:∀b,some b∈[blkOf (some ⟨g1,0,none⟩) r.ns.length,blkOf (some ⟨g2,0,none⟩) r.ps.length,blkOf (some ⟨g3,0,none⟩) r.xs.length,blkOf (some ⟨g4,0,none⟩) r.L.length,blkOf (some ⟨g5,0,none⟩) r.rs.length]→g1≤b∧b≤g5:=by
  intro b hb
  simp only [List.mem_cons,List.not_mem_nil,or_false] at hb
  rcases hb with hb | hb | hb | hb | hb <;> (have:=blk_some hb.symm; omega)
 refine ⟨_,_,_,_,_,_,_,_,_,_,_,_,_,_,_,⟨r.ns,r.ps,r.xs,r.L,rs'⟩,rfl,?_,⟨rfl,rfl,rfl,rfl,hm⟩,⟨by omega,by omega,by omega,by omega,?_⟩,hx⟩
 ·refine ⟨r1.toA rfl (Nat.le_refl _) (by omega),r2.toA rfl (Nat.le_refl _) (by omega),r3.toA rfl (Nat.le_refl _) (by omega),r4.toA rfl (Nat.le_refl _) (by omega),r5.toA hlen.symm (Nat.le_refl _) (by omega),?_,?_,?_,?_,?_,?_⟩
  ·intro q hq
   obtain ⟨g,hg,hA,hn,hc,hl,hr⟩:=ho q hq
   rw [hA,hc,hn]
   exact hr.toA rfl (Nat.le_refl _) (by omega)
  ·exact sep5R (fun b hb=>blk_some hb) (fun b hb=>blk_some hb) (fun b hb=>blk_some hb) (fun b hb=>blk_some hb) (fun b hb=>blk_some hb) (by omega) (by omega) (by omega) (by omega) (by omega) (by omega) (by omega) (by omega) (by omega) (by omega)
  ·intro i j b hij hi hj
   simp only [List.getElem?_map,Option.map_eq_some_iff] at hi hj
   obtain ⟨q,hq1,hq2⟩:=hi
   obtain ⟨q',hq1',hq2'⟩:=hj
   obtain ⟨g,hg,hA,_⟩:=ho q (List.mem_of_getElem? hq1)
   obtain ⟨g',hg',hA',_⟩:=ho q' (List.mem_of_getElem? hq1')
   rw [hA] at hq2
   rw [hA'] at hq2'
   have e1:=blk_some hq2
   have e2:=blk_some hq2'
   exact hap i j q q' hij hq1 hq1' (by rw [hA,hA', ←e1, ←e2])
  ·intro b hb hb'
   have:=hf b hb
   have:=hq b hb'
   omega
  ·intro b hb
   have:=hf b hb
   omega
  ·intro b hb
   have:=hq b hb
   omega
 ·have:rs'.map RS.n=(r.rs.map RS.xs).map List.length:=by
   rw [←hm,List.map_map]
   exact List.map_congr_left (fun q hq=>by obtain ⟨_,_,_,hn,_⟩:=ho q hq; exact hn)
  rw [this]; exact k8
end Go.Proofs.YtinindjjapblcaaGreatDoor
namespace Go.Proofs.YtinindjjapblcaaGreatDoor
open Go.RowKit
structure MarkedRoomB (A1 A2 A3 A4 A5:Option Addr) (n1 c1 n2 c2 n3 c3 n4 c4 n5 c5:Nat) (rs:List RS) (a:Int) (w:World) (e:Ending) (w':World):Prop where
 e:e= .returned (.int .i64 (markN a n1 n2 n3 n4 rs))
 own:RoomAt w' A1 A2 A3 A4 A5 n1 c1 n2 c2 n3 c3 n4 c4 n5 c5 (markR a n1 n2 n3 n4 rs)
 turn:Turn (fun b=>some b∈[blkOf A1 n1,blkOf A2 n2,blkOf A3 n3,blkOf A4 n4]∨rsBlk rs b) w w'
theorem ROwn.turnR {S:Nat→Prop} {w w':World} {lo hi:Nat} {A1 A2 A3 A4 A5:Option Addr} {n1 c1 n2 c2 n3 c3 n4 c4 n5 c5:Nat} {r:Room} (h:ROwn w lo hi A1 A2 A3 A4 A5 n1 c1 n2 c2 n3 c3 n4 c4 n5 c5 r) (k:Turn S w w') (hs:∀b,S b→∃cs,Row w b 32 cs):ROwn w' lo hi A1 A2 A3 A4 A5 n1 c1 n2 c2 n3 c3 n4 c4 n5 c5 r:=by
 have tag:∀ {α:Type} {t:TypeId} {f:α→List Value} {A:Option Addr} {n c:Nat} {xs:List α},OwnA w t f A n c xs→t≠32→∀b,blkOf A n=some b→¬S b:=fun ho ht b hb hS=>by
  obtain ⟨g',hs',_⟩:=ho.own
  obtain ⟨e,hn⟩:=hs'.blk hb
  subst e
  obtain ⟨_,rr,hr'⟩:=hs'.2 hn
  obtain ⟨cs,hr⟩:=hs _ hS
  unfold Row at hr hr'
  rw [hr] at hr'
  simp at hr'
  exact ht hr'.2.symm
 exact ⟨h.o1.turn k (tag h.o1 (by decide)),h.o2.turn k (tag h.o2 (by decide)),h.o3.turn k (tag h.o3 (by decide)),h.o4.turn k (tag h.o4 (by decide)),h.o5.turn k (tag h.o5 (by decide)),fun q hq=>(h.o6 q hq).turn k (tag (h.o6 q hq) (by decide)),h.ff,h.rr,h.fr,h.rf,h.rq⟩
end Go.Proofs.YtinindjjapblcaaGreatDoor
namespace Go.Proofs.YtinindjjapblcaaGreatDoor
open Go.RowKit
theorem like_len {r r':Room} (hl:r'.Like r):r'.rs.length=r.rs.length:=by have h:=congrArg List.length hl.2.2.2.2; simpa using h
theorem lastXs_like {r r':Room} (hl:r'.Like r):lastXs r'=lastXs r:=by
 unfold lastXs
 rw [←List.getElem?_map, ←List.getElem?_map,hl.2.2.2.2,like_len hl]
theorem appB_like {r r':Room} (hl:r'.Like r) (n:Int) (x:Event):appB n r' x=appB n r x:=by
 unfold appB hourOf
 rw [lastXs_like hl,like_len hl,hl.1,hl.2.1,hl.2.2.1,hl.2.2.2.1]
theorem appR_like {r r':Room} (hl:r'.Like r) (x:Event):(appR r' x).Like (appR r x):=by
 unfold appR
 split
 ·exact ⟨hl.1,hl.2.1,hl.2.2.1,by show r'.L++_=r.L++_; rw [hl.2.2.2.1],hl.2.2.2.2⟩
 ·split
  ·refine ⟨hl.1,hl.2.1,hl.2.2.1,hl.2.2.2.1,?_⟩
   show (r'.rs.set _ _).map RS.xs=(r.rs.set _ _).map RS.xs
   rw [List.map_set,List.map_set,hl.2.2.2.2,like_len hl,lastXs_like hl]
  ·refine ⟨hl.1,hl.2.1,hl.2.2.1,hl.2.2.2.1,?_⟩
   show (r'.rs++_).map RS.xs=(r.rs++_).map RS.xs
   rw [List.map_append,List.map_append,hl.2.2.2.2]
end Go.Proofs.YtinindjjapblcaaGreatDoor
namespace Go.Proofs.YtinindjjapblcaaGreatDoor
open Go.RowKit
def runEv (n:Int):Room→List Event→Option Room
 | R,[]=>some R
 | R,e::es=>if appB n R e=true then runEv n (appR R e) es else none
theorem runEv_snoc (n:Int):∀(l:List Event) (R:Room) (e:Event),runEv n R (l++[e])=(runEv n R l).bind fun R'=>if appB n R' e=true then some (appR R' e) else none
 | [],R,e=>by simp only [List.nil_append,runEv,Option.bind_some]
 | x::l,R,e=>by
  simp only [List.cons_append,runEv]
  split
  ·exact runEv_snoc n l _ e
  ·rfl
theorem runEv_none {n:Int}:∀ {l:List Event} {R:Room},runEv n R l=none→∀l',runEv n R (l++l')=none
 | [],R,h,_=>by cases h
 | x::l,R,h,l'=>by
  simp only [runEv] at h
  simp only [List.cons_append,runEv]
  split
  ·rename_i hb; rw [if_pos hb] at h; exact runEv_none h l'
  ·rfl
theorem runEv_fold {n:Int}:∀ {l:List Event} {R R':Room},runEv n R l=some R'→R'=l.foldl appR R
 | [],R,R',h=>by simp only [runEv,Option.some.injEq] at h; exact h.symm
 | x::l,R,R',h=>by
  simp only [runEv] at h
  split at h
  ·exact runEv_fold (l:=l) h
  ·cases h
theorem fold_noms:∀(l:List Nomination) (R:Room),(l.map nomEv).foldl appR R={R with L:=R.L++l}
 | [],R=>by simp
 | x::l,R=>by
  rw [List.map_cons,List.foldl_cons,fold_noms l]
  have:appR R (nomEv x)={R with L:=R.L++[x]}:=by unfold appR; rw [if_pos (show (nomEv x).kind=1 from rfl)]; rfl
  rw [this,List.append_assoc]; rfl
theorem last_of {R:Room} {P:List (List Reading)} {q:List Reading} (h:R.rs.map RS.xs=P++[q]):R.rs.length=P.length+1∧lastXs R=q:=by
 have hl:=congrArg List.length h
 simp at hl
 refine ⟨hl,?_⟩
 unfold lastXs
 rw [←List.getElem?_map,h,hl]
 simp
structure SameBut (R R':Room) (Q:List (List Reading)):Prop where
 ns:R'.ns=R.ns
 ps:R'.ps=R.ps
 xs:R'.xs=R.xs
 L:R'.L=R.L
 rs:R'.rs.map RS.xs=Q
theorem SameBut.trans {R R' R'':Room} {Q Q':List (List Reading)} (h:SameBut R R' Q) (k:SameBut R' R'' Q'):SameBut R R'' Q':=⟨k.ns.trans h.ns,k.ps.trans h.ps,k.xs.trans h.xs,k.L.trans h.L,k.rs⟩
theorem fold_reads:∀(l:List Reading) (R:Room) (P:List (List Reading)) (q:List Reading),R.rs.map RS.xs=P++[q]→SameBut R ((l.map readEv).foldl appR R) (P++[q++l])
 | [],R,P,q,h=>⟨rfl,rfl,rfl,rfl,by simpa using h⟩
 | x::l,R,P,q,h=>by
  obtain ⟨hl,hq⟩:=last_of h
  have hR:appR R (readEv x)={R with rs:=R.rs.set (R.rs.length-1) ⟨none,0,0,q++[x]⟩}:=by unfold appR; rw [if_neg (by simp [readEv]),if_pos (show (readEv x).kind=2 from rfl),hq]; rfl
  rw [List.map_cons,List.foldl_cons,hR]
  have h2:=fold_reads l {R with rs:=R.rs.set (R.rs.length-1) ⟨none,0,0,q++[x]⟩} P (q++[x]) (by
   show (R.rs.set _ _).map RS.xs=_
   rw [List.map_set,h,hl]
   simp)
  rw [List.append_assoc] at h2
  exact ⟨h2.ns,h2.ps,h2.xs,h2.L,h2.rs⟩
theorem fold_hours (m:Nat):∀(l:List (List Reading)) (k:Nat) (R:Room) (P:List (List Reading)),l≠[]→k+l.length=m→P.length=k→R.rs.map RS.xs=P++[[]]→SameBut R ((hoursEv m k l).foldl appR R) (P++l)
 | [],_,_,_,h,_,_,_=>absurd rfl h
 | xs::rest,k,R,P,_,hm,hP,h=>by
  rw [hoursEv,hourEv,List.foldl_append,List.foldl_append]
  have h1:=fold_reads xs R P [] h
  rw [List.nil_append] at h1
  cases rest with
  | nil=>
   simp at hm
   rw [if_neg (by omega)]
   exact h1
  | cons ys rest=>
   simp at hm
   rw [if_pos (by omega)]
   generalize (xs.map readEv).foldl appR R=R1 at *
   have hc:[closeEv k].foldl appR R1={R1 with rs:=R1.rs++[⟨none,0,0,[]⟩]}:=by
    show appR R1 (closeEv k)=_
    unfold appR
    rw [if_neg (by simp [closeEv]),if_neg (by simp [closeEv])]
   rw [hc]
   have h2:SameBut R {R1 with rs:=R1.rs++[⟨none,0,0,[]⟩]} (P++[xs]++[[]]):=⟨h1.ns,h1.ps,h1.xs,h1.L,by
    show (R1.rs++[_]).map RS.xs=_
    rw [List.map_append,h1.rs]; rfl⟩
   have h3:=fold_hours m (ys::rest) (k+1) {R1 with rs:=R1.rs++[⟨none,0,0,[]⟩]} (P++[xs]) (by simp) (by simp; omega) (by simp [hP]) h2.rs
   have h4:=h2.trans h3
   rw [List.append_assoc] at h4
   exact h4
theorem fold_room {r:Room} (h:r.rs≠[]):((roomEv r).foldl appR (newR r.ns r.ps r.xs)).Like r:=by
 unfold roomEv
 rw [List.foldl_append,fold_noms]
 have h2:=fold_hours r.rs.length (r.rs.map RS.xs) 0 {newR r.ns r.ps r.xs with L:=(newR r.ns r.ps r.xs).L++r.L} [] (by simpa using h) (by simp) rfl rfl
 exact ⟨h2.ns,h2.ps,h2.xs,by rw [h2.L]; simp [newR],by rw [h2.rs]; rfl⟩
theorem noms_snoc {xs:List Contract} {L:List Nomination} {x:Nomination} (h:nomsB xs L=true) (hl:L.length<200) (hx:nomB xs x=true) (ha:accB xs L x=true):nomsB xs (L++[x])=true:=by
 have h1:=h
 simp only [nomsB,Bool.and_eq_true,decide_eq_true_eq,List.all_eq_true,List.mem_range] at h1
 refine noms_yes (n:=L.length+1) (by simp) (by omega) (fun j hj=> ?_)
 rcases Nat.lt_or_ge j L.length with hlt | hge
 ·have h2:=h1.2 j hlt
  have hj1:L[j]? =some L[j]:=List.getElem?_eq_getElem hlt
  rw [nomOk_at hj1] at h2
  rw [nomOk_at (by rw [List.getElem?_append_left hlt]; exact hj1)]
  rw [Bool.and_eq_true] at h2 ⊢
  refine ⟨h2.1,?_⟩
  have h3:=h2.2
  unfold prevOk at h3 ⊢
  split
  ·rfl
  ·rename_i hne
   rw [if_neg hne] at h3
   rwa [List.getElem?_append_left (by omega)]
 ·obtain rfl:j=L.length:=by omega
  rw [nomOk_at (x:=x) (by simp),hx,Bool.true_and]
  unfold prevOk
  split
  ·rfl
  ·rename_i hne
   have hlt:L.length-1<L.length:=by omega
   rw [List.getElem?_append_left hlt,List.getElem?_eq_getElem hlt]
   have hla:L.getLast? =some L[L.length-1]:=by rw [List.getLast?_eq_getElem?]; exact List.getElem?_eq_getElem hlt
   unfold accB at ha
   rw [hla,Bool.and_eq_true] at ha
   have h4:=ha.1
   simp at h4 ⊢
   omega
theorem accR_facts {n1:Int} {ns:List Node} {ps:List Pipe} {xs:List Contract} {L:List Nomination} {x:Nomination} (h:(accR n1 ns ps xs L x).2=0):nomB xs x=true∧accB xs L x=true∧L.length≠200:=by
 unfold accR at h
 split at h
 ·rename_i h1; exact absurd h h1
 ·split at h
  ·simp at h
  ·rename_i h2
   split at h
   ·simp at h
   ·rename_i h3
    split at h
    ·simp at h
    ·rename_i h4
     exact ⟨by simpa using h2,by simpa using h3,h4⟩
theorem reads_nil (n:Int):readsB n []=true:=rfl
theorem appR_ok {n:Int} {R:Room} {e:Event} (h:roomB n R=true) (hb:appB n R e=true):roomB n (appR R e)=true:=by
 have h0:=h
 simp only [roomB,Bool.and_eq_true,inB_true,List.all_eq_true] at h
 obtain ⟨⟨h1,h2⟩,h3⟩:=h
 unfold appB at hb
 unfold appR
 split at hb
 ·rename_i hk
  rw [if_pos hk]
  simp only [Bool.and_eq_true,beq_iff_eq] at hb
  obtain ⟨k1,k2,k3⟩:=accR_facts hb.1
  simp only [nomsOk,Bool.and_eq_true] at h1
  have hL:R.L.length≤200:=by have:=h1.2; simp only [nomsB,Bool.and_eq_true,decide_eq_true_eq] at this; exact this.1
  simp only [roomB,nomsOk,Bool.and_eq_true,inB_true,List.all_eq_true]
  exact ⟨⟨⟨h1.1,noms_snoc h1.2 (by omega) k1 k2⟩,h2⟩,h3⟩
 ·rename_i hk
  rw [if_neg hk]
  split at hb
  ·rename_i hk2
   rw [if_pos hk2]
   simp only [Bool.and_eq_true] at hb
   simp only [roomB,Bool.and_eq_true,inB_true,List.all_eq_true]
   refine ⟨⟨h1,by simpa using h2⟩,fun q hq=> ?_⟩
   rcases List.mem_or_eq_of_mem_set hq with hq | hq
   ·exact h3 q hq
   ·subst hq; exact hb.2
  ·rename_i hk2
   rw [if_neg hk2]
   simp only [Bool.and_eq_true,decide_eq_true_eq] at hb
   simp only [roomB,Bool.and_eq_true,inB_true,List.all_eq_true]
   refine ⟨⟨h1,by simp; omega⟩,fun q hq=> ?_⟩
   rcases List.mem_append.1 hq with hq | hq
   ·exact h3 q hq
   ·simp at hq; subst hq; exact reads_nil n
theorem newR_ok {n:Int} {r:Room} (h:roomB n r=true):roomB n (newR r.ns r.ps r.xs)=true:=by
 simp only [roomB,nomsOk,Bool.and_eq_true] at h
 simp only [roomB,nomsOk,Bool.and_eq_true,newR,inB_true,List.all_eq_true]
 exact ⟨⟨⟨h.1.1.1,rfl⟩,by simp⟩,fun q hq=>by simp at hq; subst hq; exact reads_nil n⟩
theorem runEv_ok {n:Int}:∀ {l:List Event} {R R':Room},roomB n R=true→runEv n R l=some R'→roomB n R'=true
 | [],R,R',h,hr=>by simp only [runEv,Option.some.injEq] at hr; subst hr; exact h
 | x::l,R,R',h,hr=>by
  simp only [runEv] at hr
  split at hr
  ·rename_i hb; exact runEv_ok (appR_ok h hb) hr
  ·cases hr
theorem hours_mem {m:Nat} {e:Event}:∀ {l:List (List Reading)} {k:Nat},e∈hoursEv m k l→k+l.length≤m→(∃xs∈l,∃x∈xs,e=readEv x)∨∃j,j<m∧e=closeEv j
 | [],_,h,_=>by simp [hoursEv] at h
 | xs::l,k,h,hm=>by
  simp only [hoursEv,hourEv,List.mem_append] at h
  simp at hm
  rcases h with (h | h) | h
  ·obtain ⟨x,hx,rfl⟩:=List.mem_map.1 h
   exact .inl ⟨xs,by simp,x,hx,rfl⟩
  ·split at h
   ·simp at h; exact .inr ⟨k,by omega,h⟩
   ·cases h
  ·rcases hours_mem h (by omega) with ⟨ys,h1,x,h2,h3⟩ | h
   ·exact .inl ⟨ys,by simp [h1],x,h2,h3⟩
   ·exact .inr h
theorem roomEv_ok {n:Int} {r:Room} (h:roomB n r=true) (hn:n≤24):∀e∈roomEv r,evB e=true:=by
 intro e he
 have h0:=h
 simp only [roomB,nomsOk,Bool.and_eq_true,inB_true,List.all_eq_true] at h
 obtain ⟨⟨⟨⟨_,hbk⟩,hnm⟩,hlen⟩,hrd⟩:=h
 unfold roomEv at he
 rcases List.mem_append.1 he with he | he
 ·obtain ⟨x,hx,rfl⟩:=List.mem_map.1 he
  have hx1:nomB r.xs x=true:=by
   simp only [nomsB,Bool.and_eq_true,decide_eq_true_eq,List.all_eq_true,List.mem_range] at hnm
   obtain ⟨j,hj,rfl⟩:=List.mem_iff_getElem.1 hx
   have h2:=hnm.2 j hj
   rw [nomOk_at (List.getElem?_eq_getElem hj),Bool.and_eq_true] at h2
   exact h2.1
  obtain ⟨k,p,e1,hk,_,_,_,a1,a2,a3,a4,a5,a6⟩:=nomB_facts hbk hx1
  have hxl:r.xs.length≤32:=by simp only [bookB,Bool.and_eq_true,decide_eq_true_eq] at hbk; exact hbk.1
  simp only [evB,flowB,nomEv,Bool.and_eq_true,inB_true]
  omega
 ·rcases hours_mem he (by simp) with ⟨xs,h1,x,h2,rfl⟩ | ⟨j,hj,rfl⟩
  ·obtain ⟨q,hq,rfl⟩:=List.mem_map.1 h1
   have h3:=hrd q hq
   simp only [readsB,Bool.and_eq_true,decide_eq_true_eq,List.all_eq_true,List.mem_range] at h3
   obtain ⟨i,hi,rfl⟩:=List.mem_iff_getElem.1 h2
   have h4:=h3.2 i hi
   rw [readOk_at (List.getElem?_eq_getElem hi)] at h4
   simp only [readB,Bool.and_eq_true,inB_true] at h4
   simp only [evB,flowB,readEv,Bool.and_eq_true,inB_true]
   omega
  ·simp only [evB,flowB,closeEv,Bool.and_eq_true,inB_true]
   omega
def reachB (n:Int) (r:Room):Bool:=roomB n r&&decide ((roomEv r).length≤300)&&(runEv n (newR r.ns r.ps r.xs) (roomEv r)).isSome
end Go.Proofs.YtinindjjapblcaaGreatDoor
