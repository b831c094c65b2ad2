/-
  The search through a network, of the reference, exactly.
-/
import Derived.Test.YtfkpghdmljjegaaGreatVe08
import Derived.Test.YtfkpghdmljjegaaGreatVe21
import Derived.Test.YtfkpghdmljjegaaGreatVe19
import Derived.Test.YtfkpghdmljjegaaGreatVe01
namespace Go.Proofs.YtfkpghdmljjegaaGreat
open Go.RowKit
def RetSX (R:Sst) (w:World) (e:Ending) (w':World):Prop:=
 ∃v1 v2,e= .returned (.tuple #[v1,v2])∧OwnL w' w.heap.size 2 1 intC v1 R.en∧OwnL w' w.heap.size 2 1 intC v2 R.E∧Ext w w'
theorem all_rep {en:List Int} {N:Nat} (hl:en.length=N) (h:∀(j:Nat) (z:Int),j<N→en[j]? =some z→z= -1):en=List.replicate N (-1):=by
 refine List.eq_replicate_iff.2 ⟨hl,fun z hz=> ?_⟩
 obtain ⟨j,hj⟩:=List.getElem?_of_mem hz
 exact h j z (by rw [←hl]; exact (List.getElem?_eq_some_iff.1 hj).1) hj
set_option maxHeartbeats 4000000 in
theorem c_l04SearchX (A1 A2:Option Addr) (n1 c1 n2 c2:Nat) (ps:List Pipe) (w:World) (hs2:SliceOf w 5 Pipe.cells A2 n2 c2 ps) (m1:n1≤100000) (m2:n2≤100000) (he:EndsN n1 ps) (x:Nat) (hxN:x<n1):
  Calls Tryz.prog 301 #[.agg #[.slice A1 n1 c1,.slice A2 n2 c2],.int .i64 x] w (RetSX (srch ps anyR n1 (-1) x) w):=by
 have hB:=Row.new w 45 [.slice A1 n1 c1,.slice A2 n2 c2]
 have hx0:Ext w (w.alloc (.cells #[.slice A1 n1 c1,.slice A2 n2 c2] 45)):=Ext.alloc _ _
 have hmkI:=fun W=>run_make_flat (P:=Tryz.prog) 24 2 _ _ 1 8 Tryz.underlying24 int_info (f:=intC) 0 rfl rfl rfl (by omega) n1 (by omega) (by omega) W
 have hmkB:=fun W=>run_make_flat (P:=Tryz.prog) 318 4 _ _ 1 1 Tryz.underlying318 bool_info (f:=boolC) false rfl rfl rfl (by omega) n1 (by omega) (by omega) W
 have HE:=hide he
 clear he
 obtain ⟨R,HR⟩:∃R,Hid (srch ps anyR n1 (-1) x=R):=⟨_,hide rfl⟩
 rw [HR.out]
 go_enter Tryz.func301,Tryz.ntmps301
 go_wp2_with fail
 go_loopw [8] (fun i wr=>∃(k:Nat) (en:List Int),k≤n1∧i= .int .i64 k∧RowOf wr (w.heap.size+1+1) 4 boolC (List.replicate n1 false)∧RowOf wr (w.heap.size+1) 2 intC en∧en.length=n1∧Hid (∀(j:Nat) (z:Int),j<k→en[j]? =some z→z= -1)∧Ext (w.alloc (.cells #[.slice A1 n1 c1,.slice A2 n2 c2] 45)) wr) (fun i _=>n1-(intOf i).toNat)
 case atStart=>
  refine ⟨0,List.replicate n1 0,Nat.zero_le _,rfl,?_,?_,by simp,hide (fun j z hj=>absurd hj (by omega)),(Ext.alloc _ _).and_alloc _⟩
  ·exact Row.newG _ _ (by simp)
  ·exact (Row.newG _ _ (by simp)).ext (Ext.alloc _ _)
 case round=>
  obtain ⟨k,en,hk,rfl,hS,hEn,hel,HEn,hx⟩:=hrel
  have hzs:=hS.lt
  by_cases hlt:k<n1
  ·obtain ⟨u,hu⟩:=hEn.there intC_len (i:=k) (by omega) (j:=0) (by omega)
   simp only [Nat.mul_one,Nat.add_zero] at hu
   have hf:=hEn.frozen k
   have hle:=hEn.lt
   have hN:=RowOf.set0 hEn (fun x=>⟨_,rfl⟩) (d:=k) (by omega) (-1) (.int .i64 (-1)) rfl
   have hS2:=hS.far (p:=⟨w.heap.size+1,k,none⟩) (by show w.heap.size+1+1≠w.heap.size+1; omega) (.int .i64 (-1))
   have hx2:=hx.setCell (p:=⟨w.heap.size+1,k,none⟩) (by simp) (.int .i64 (-1))
   have HN:=hide (step_ent HEn.out)
   clear hx hS hEn
   go_wp2_with fail
   go_roundw
   case rel=>exact ⟨k+1,_,by omega,by go_num,hS2,hN,by rw [List.length_set]; exact hel,HN,hx2⟩
   case measure=>simp [intOf]; omega
  ·obtain rfl:n1=k:=by omega
   obtain ⟨u,hu⟩:=hS.there boolC_len (i:=x) (by simp; omega) (j:=0) (by omega)
   simp only [Nat.mul_one,Nat.add_zero] at hu
   have hf:=hS.frozen x
   have hS2:=RowOf.set0 hS (fun x=>⟨_,rfl⟩) (d:=x) (by simp; omega) true (.bool true) rfl
   have hE2:=hEn.far (p:=⟨w.heap.size+1+1,x,none⟩) (by show w.heap.size+1≠w.heap.size+1+1; omega) (.bool true)
   have hx2:=hx.setCell (p:=⟨w.heap.size+1+1,x,none⟩) (by simp) (.bool true)
   have hszr:(wr.setCell ⟨w.heap.size+1+1,x,none⟩ (.bool true)).heap.size=wr.heap.size:=by simp
   have hD:Sch n1 (n2+1) (w.heap.size+3) (w.alloc (.cells #[.slice A1 n1 c1,.slice A2 n2 c2] 45)) ((wr.setCell ⟨w.heap.size+1+1,x,none⟩ (.bool true)).alloc (.cells #[.int .i64 x] 2)) (w.heap.size+1+1) (w.heap.size+1) ((List.replicate n1 false).set x true) en (.slice (some ⟨wr.heap.size,0,none⟩) 1 1) [(x:Int)]:=by
    refine ⟨hS2.ext (Ext.alloc _ _),hE2.ext (Ext.alloc _ _),OwnL.of_row (xs:=[(x:Int)]) (Row.newG _ _ hszr.symm) intC_len (by omega) (by simp),hx2.and_alloc _,by simp,by omega,by omega,by simp,hel,?_,?_,start_ent hel HEn.out⟩
    ·rw [start_seen hxN]; rfl
    ·intro z hz; obtain rfl:=List.mem_singleton.1 hz; exact ⟨x,rfl,hxN⟩
   have HST:Hid (srchF ps anyR (n1-0) 0 ⟨(List.replicate n1 false).set x true,en,[(x:Int)]⟩=R):=hide (by rw [←HR.out,all_rep hel HEn.out]; rfl)
   clear hS2 hE2 hx2 HEn hEn hel
   go_wp2_with fail
   go_loopw [9,10] (fun v i wr=>∃(k:Nat) (l:List Bool) (en E:List Int),i= .int .i64 k∧k≤E.length∧Hid (srchF ps anyR (n1-k) k ⟨l,en,E⟩=R)∧Sch n1 (n2+1) (w.heap.size+3) (w.alloc (.cells #[.slice A1 n1 c1,.slice A2 n2 c2] 45)) wr (w.heap.size+1+1) (w.heap.size+1) l en v E) (fun _ i _=>n1-(intOf i).toNat)
   case atStart=>exact ⟨0,_,_,_,rfl,Nat.zero_le _,HST,hD⟩
   case round=>
    obtain ⟨k,l,en,E,rfl,hk,HS,hD0⟩:=hrel
    clear hD HST
    have hD:=hD0
    clear hD0
    have hszr:=hD.seen.lt
    have hEn:=hD.le
    by_cases hlt:k<E.length
    ·obtain ⟨Ao,co,rfl,hsl⟩:=hD.own.sl intC_len (by omega)
     obtain ⟨bo,oo,zo,rfl,hbo,hok,hco⟩:=hsl.get hlt
     have hc0:=hco 0 _ rfl
     simp only [Nat.add_zero,Nat.mul_one] at hc0
     obtain ⟨q,rfl,hq⟩:=hD.inn.at hok
     have HOK:=hide hok
     obtain ⟨s0,hs0⟩:∃s0:Sst,Hid (s0=⟨l,en,E⟩):=⟨_,hide rfl⟩
     have HNX:Hid (srchF ps anyR (n1-(k+1)) (k+1) (visits ps anyR q s0)=R):=hide (by rw [←HS.out,hs0.out]; exact (srchF_step hok (by omega)).symm)
     clear hco hok hsl HS
     have hb0:=(hB.ext hD.ext).cell 0
     have hb1:=(hB.ext hD.ext).cell 1
     simp at hb0 hb1
     have hbl:=(hB.ext hD.ext).lt
     go_wp2_with fail
     refine wp_region_ph [([0,1,2,3,4],5)] [6] (by kernel_rfl) (by kernel_rfl) (by intro c a w d v h; cases d <;> exact h) ?_
     simp only [wpPh,pickL,nthO]
     repeat (go_big_quiet_step (fail))
     refine wpQuiet_nil ?_
     go_wp2_with fail
     refine (c_l02AtX A1 A2 n1 c1 n2 c2 ps _ ((hs2.ext hx0).ext (hD.ext.trans (Ext.refl _).drew)) q (by omega)).mono ?_
     rintro e w2 ⟨va,Ea,rfl,hoa,HA,hx2⟩
     go_wp2_with fail
     refine ⟨hx2,?_⟩
     repeat (go_big_quiet_step (fail))
     refine wpQuiet_nil ?_
     clear hc0 hb0 hb1
     have hxd:=(Ext.refl _).drew.trans hx2
     have hDr:=hD.more hxd
     clear hD
     obtain ⟨wb,hwb⟩:∃wb,wr.drew.heap.size=wb:=⟨_,rfl⟩
     rw [hwb] at hoa
     have hwb':w.heap.size+1+1<wb:=by rw [←hwb]; exact hszr
     have HAP:Apt va (.slice (some ⟨bo,oo,none⟩) E.length co):=fun k hk h2=>by
      have h3:=hoa.block_le hk
      have h4:bo<wb:=by rw [←hwb]; exact hbo
      simp [Value.ownBlock] at h2
      omega
     obtain ⟨Aa,ca,rfl,_⟩:=hoa.sl intC_len (by omega)
     go_wp2_with fail
     go_loopw [9,12] (fun v i wr=>∃(j:Nat) (l:List Bool) (en E:List Int),i= .int .i64 j∧j≤Ea.length∧k<E.length∧Hid (E[k]? =some (q:Int))∧Hid ((⟨l,en,E⟩:Sst)=(Ea.take j).foldl (visit ps anyR q) s0)∧Sch n1 (n2+1) (w.heap.size+3) (w.alloc (.cells #[.slice A1 n1 c1,.slice A2 n2 c2] 45)) wr (w.heap.size+1+1) (w.heap.size+1) l en v E∧OwnL wr wb 2 1 intC (.slice Aa Ea.length ca) Ea∧Apt (.slice Aa Ea.length ca) v) (fun _ i _=>Ea.length-(intOf i).toNat)
     case atStart=>exact ⟨0,l,en,E,rfl,Nat.zero_le _,hlt,HOK,hide hs0.out.symm,hDr,hoa,HAP⟩
     case round=>
      clear HAP hoa hDr HOK hEn hlt hk hxd hx2 hbo hszr hbl hs0
      obtain ⟨j,l,en,E,rfl,hj,hkE,HOK,HF,hD,hoa,hap⟩:=hrel
      have hEa:=HA.out.2
      have hszr:=hD.seen.lt
      have hEn:=hD.le
      obtain ⟨Ao,co',rfl,hsl⟩:=hD.own.sl intC_len (by omega)
      by_cases hjl:j<Ea.length
      ·obtain ⟨bo,oo,zo,rfl,hbo,hok,hco⟩:=hsl.get hkE
       obtain rfl:zo=(q:Int):=by have:=HOK.out; rw [hok] at this; exact Option.some.inj this
       have hc0:=hco 0 _ rfl
       simp only [Nat.add_zero,Nat.mul_one] at hc0
       obtain ⟨ba,oa,za,rfl,hba,hak,hca⟩:=(hoa.slE intC_len (by omega)).get hjl
       obtain ⟨ka,p,rfl,hpk,hpe⟩:=atL_mem (HA.out.1 ▸ List.mem_of_getElem? hak)
       have hd0:=hca 0 _ rfl
       simp only [Nat.add_zero,Nat.mul_one] at hd0
       have hkl:ka<n2:=by rw [hs2.len]; exact (List.getElem?_eq_some_iff.1 hpk).1
       have HPK:=hide hpk
       have HPE:=hide hpe
       have HAK:=hide hak
       obtain ⟨y,hyq,hy⟩:=HE.out.oth hpk q
       have HYQ:=hide hyq
       clear hyq
       clear hco hca hok hsl hpk hpe hak
       have hb0:=(hB.ext hD.ext).cell 0
       have hb1:=(hB.ext hD.ext).cell 1
       simp at hb0 hb1
       have hbl:=(hB.ext hD.ext).lt
       go_wp2_with fail
       refine wp_region_ph [([0,1,2,3,4,5,6,7,8],9)] [10] (by kernel_rfl) (by kernel_rfl) (by intro c a w d v h; cases d <;> exact h) ?_
       simp only [wpPh,pickL,nthO]
       repeat (go_big_quiet_step (fail))
       refine wpQuiet_nil ?_
       go_wp2_with fail
       refine (c_l02OtherX A1 A2 n1 c1 n2 c2 ps _ ((hs2.ext hx0).ext (hD.ext.trans (Ext.refl _).drew)) n1 (by omega) HE.out ka p HPK.out q HPE.out).mono ?_
       rintro e w2 ⟨rfl,hx2⟩
       rw [HYQ.out]
       go_wp2_with fail
       refine ⟨hx2,?_⟩
       repeat (go_big_quiet_step (fail))
       refine wpQuiet_nil ?_
       have hxd:=(Ext.refl _).drew.trans hx2
       have hd2:=(hxd.cell _ _ hba).trans hd0
       clear hc0 hd0 hb0 hb1 hbl
       have hDr:=hD.more hxd
       have hor:=hoa.ext hxd
       have hszd:=hDr.seen.lt
       have hyl:y<l.length:=by rw [hDr.ll]; exact hy
       obtain ⟨bb,hbb⟩:∃bb,l[y]? =some bb:=⟨_,List.getElem?_eq_getElem hyl⟩
       have hsc:=hDr.seen.get boolC_len hbb (j:=0) rfl
       simp only [Nat.mul_one,Nat.add_zero] at hsc
       have hsf:=hDr.seen.frozen y
       have HBB:=hide hbb
       clear hD hoa hbb hx2 hxd
       cases bb
       ·obtain ⟨u,hu⟩:=hDr.ent.there intC_len (i:=y) (by rw [hDr.el]; exact hy) (j:=0) (by omega)
        simp only [Nat.mul_one,Nat.add_zero] at hu
        have hel:=hDr.ent.lt
        have hef:=hDr.ent.frozen y
        have hne:w.heap.size+1≠w.heap.size+1+1:=by omega
        have hba2:=hor.block_le (k:=ba) rfl
        have hne2:ba≠w.heap.size+1+1:=by omega
        have hne3:ba≠w.heap.size+1:=by omega
        have hba3:=(hor.ltG (k:=ba) rfl).2
        have ho3:OwnL ((w2.setCell ⟨w.heap.size+1+1,y,none⟩ (.bool true)).setCell ⟨w.heap.size+1,y,none⟩ (.int .i64 ka)) (w.heap.size+3) 2 1 intC (.slice (some ⟨bo,oo,none⟩) E.length co') E:=(hDr.own.farK (p:=⟨w.heap.size+1+1,y,none⟩) (by show w.heap.size+1+1<w.heap.size+3; omega) _).farK (p:=⟨w.heap.size+1,y,none⟩) (by show w.heap.size+1<w.heap.size+3; omega) _
        have hr3:OwnL ((w2.setCell ⟨w.heap.size+1+1,y,none⟩ (.bool true)).setCell ⟨w.heap.size+1,y,none⟩ (.int .i64 ka)) wb 2 1 intC (.slice (some ⟨ba,oa,none⟩) Ea.length ca) Ea:=(hor.farK (p:=⟨w.heap.size+1+1,y,none⟩) (by show w.heap.size+1+1<wb; omega) _).farK (p:=⟨w.heap.size+1,y,none⟩) (by show w.heap.size+1<wb; omega) _
        go_wp2_with (at_builtin; go_must (refine wpList_append_where rfl _ _ 24 rfl (w.heap.size+3) 2 _ 1 8 Tryz.underlying24 int_info rfl (by decide) intC intC_len int_one' (.slice (some ⟨bo,oo,none⟩) E.length co') E rfl (ho3.ext (Ext.alloc _ _)) (w2.heap.size) 0 1 1 [(y:Int)] rfl (new_int ((w2.setCell ⟨w.heap.size+1+1,y,none⟩ (.bool true)).setCell ⟨w.heap.size+1,y,none⟩ (.int .i64 ka)) _ _ (by simp)) (by omega) (by omega) (by first | omega | (simp; omega)) ?_))
        intro v5 w5 ho5 hg5 hb5
        have HF5:Hid ((⟨l.set y true,en.set y (ka:Int),E++[(y:Int)]⟩:Sst)=(Ea.take (j+1)).foldl (visit ps anyR q) s0):=hide (by rw [fold_step HAK.out, ←HF.out,visit_yes HPK.out (by rw [HYQ.out,Int.toNat_natCast]; exact HBB.out) rfl,HYQ.out,Int.toNat_natCast])
        have hD5:=hDr.add HBB.out hy (z:=(ka:Int)) (by omega) (by omega) (Ext.alloc _ _) hg5 ho5
        have hr5:=(hr3.ext (Ext.alloc _ (.cells #[.int .i64 y] 2))).grown hg5 (fun k hk=>hap k hk)
        have hap5:Apt (.slice (some ⟨ba,oa,none⟩) Ea.length ca) v5:=fun k hk h2=>by
         rcases hb5 k h2 with h3 | h3
         ·exact hap k hk h3
         ·obtain rfl:ba=k:=by simpa [Value.ownBlock] using hk
          omega
        clear hDr ho3 hr3 hg5 ho5 hb5
        go_wp2_with fail
        go_roundw
        case rel=>exact ⟨j+1,_,_,_,by go_num,by omega,by simp; omega,hide (by rw [List.getElem?_append_left hkE]; exact HOK.out),HF5,hD5,hr5,hap5⟩
        case measure=>simp [intOf]; omega
       ·go_wp2_with fail
        go_roundw
        case rel=>exact ⟨j+1,l,en,E,by go_num,by omega,hkE,HOK,hide (by rw [fold_step HAK.out, ←HF.out,visit_no HPK.out (by rw [HYQ.out,Int.toNat_natCast]; simp only; rw [HBB.out]; simp)]),hDr,hor,hap⟩
        case measure=>simp [intOf]; omega
      ·go_wp2_with fail
       go_roundw
       case rel=>exact ⟨k+1,l,en,E,by go_num,by omega,hide (by rw [←HNX.out,HF.out,visits, ←HA.out.1,List.take_of_length_le (by omega)]),hD⟩
       case measure=>simp [intOf]; omega
    ·obtain ⟨Ao,co,rfl,hsl⟩:=hD.own.sl intC_len (by omega)
     go_wp2_with fail
     go_ret2
     have HR2:Hid (R=⟨l,en,E⟩):=hide (by rw [←HS.out]; exact srchF_end (by show E.length≤k; omega))
     rw [HR2.out]
     refine ⟨_,_,rfl,?_,hD.own.lowG (by omega),hx0.trans hD.ext⟩
     have:=OwnL.of_row hD.ent intC_len (base:=w.heap.size) (by omega) (by rw [hD.el]; omega)
     rw [hD.el] at this
     exact this
end Go.Proofs.YtfkpghdmljjegaaGreat
namespace Go.Proofs.YtfkpghdmljjegaaGreat
open Go.RowKit
set_option maxHeartbeats 4000000 in
theorem c_l23Search (A1 A2:Option Addr) (n1 c1 n2 c2:Nat) (ps:List Pipe) (w:World) (hs2:SliceOf w 5 Pipe.cells A2 n2 c2 ps) (m1:n1≤100000) (m2:n2≤100000) (he:EndsN n1 ps) (A3:Option Addr) (c3:Nat) (fl:List Int) (hs3:SliceOf w 1 intC A3 n2 c3 fl) (hfl:FlowIn ps fl) (x:Nat) (hxN:x<n1):
  Calls Tryz.prog 277 #[.agg #[.slice A1 n1 c1,.slice A2 n2 c2],.slice A3 n2 c3,.int .i64 x] w (RetSX (srch ps (hasRm ps fl) n1 0 x) w):=by
 have hB:=Row.new w 45 [.slice A1 n1 c1,.slice A2 n2 c2]
 have hx0:Ext w (w.alloc (.cells #[.slice A1 n1 c1,.slice A2 n2 c2] 45)):=Ext.alloc _ _
 have HE:=hide he
 have HFL:=hide hfl
 clear he hfl
 obtain ⟨R,HR⟩:∃R,Hid (srch ps (hasRm ps fl) n1 0 x=R):=⟨_,hide rfl⟩
 rw [HR.out]
 obtain ⟨fI,HfI⟩:∃f:World→World,Hid (∀W:World,W.alloc (.cells ((List.replicate n1 (0:Int)).flatMap intC).toArray 2)=f W):=⟨fun W=>_,hide fun _=>rfl⟩
 obtain ⟨fB,HfB⟩:∃f:World→World,Hid (∀W:World,W.alloc (.cells ((List.replicate n1 false).flatMap boolC).toArray 4)=f W):=⟨fun W=>_,hide fun _=>rfl⟩
 have hmkI:∀W:World,(Instr.makeSlice 24 (.int .i64 n1) (.int .i64 n1)).run Tryz.prog W= .ok (.slice (some ⟨W.heap.size,0,none⟩) n1 n1) (fI W):=fun W=>by rw [←HfI.out W]; exact run_make_flat (P:=Tryz.prog) 24 2 _ _ 1 8 Tryz.underlying24 int_info (f:=intC) 0 rfl rfl rfl (by omega) n1 (by omega) (by omega) W
 have hmkB:∀W:World,(Instr.makeSlice 318 (.int .i64 n1) (.int .i64 n1)).run Tryz.prog W= .ok (.slice (some ⟨W.heap.size,0,none⟩) n1 n1) (fB W):=fun W=>by rw [←HfB.out W]; exact run_make_flat (P:=Tryz.prog) 318 4 _ _ 1 1 Tryz.underlying318 bool_info (f:=boolC) false rfl rfl rfl (by omega) n1 (by omega) (by omega) W
 have hszI:∀W:World,(fI W).heap.size=W.heap.size+1:=fun W=>by rw [←HfI.out W]; simp
 have hszB:∀W:World,(fB W).heap.size=W.heap.size+1:=fun W=>by rw [←HfB.out W]; simp
 obtain ⟨wr,HW2⟩:∃wr,Hid (fB (fI (w.alloc (.cells #[.slice A1 n1 c1,.slice A2 n2 c2] 45)))=wr):=⟨_,hide rfl⟩
 have hEn:RowOf wr (w.heap.size+1) 2 intC (List.replicate n1 0):=by rw [←HW2.out, ←HfB.out, ←HfI.out]; exact (Row.newG _ _ (by simp)).ext (Ext.alloc _ _)
 have hS:RowOf wr (w.heap.size+1+1) 4 boolC (List.replicate n1 false):=by rw [←HW2.out, ←HfB.out]; exact Row.newG _ _ (by rw [hszI]; simp)
 have hx:Ext (w.alloc (.cells #[.slice A1 n1 c1,.slice A2 n2 c2] 45)) wr:=by rw [←HW2.out, ←HfB.out, ←HfI.out]; exact (Ext.alloc _ _).and_alloc _
 obtain ⟨en,HEn⟩:∃en,Hid (en=List.replicate n1 (0:Int)):=⟨_,hide rfl⟩
 rw [←HEn.out] at hEn
 have hel:en.length=n1:=by rw [HEn.out]; simp
 have hzs:=hS.lt
 have hle:=hEn.lt
 obtain ⟨u,hu⟩:=hS.there boolC_len (i:=x) (by simp; omega) (j:=0) (by omega)
 simp only [Nat.mul_one,Nat.add_zero] at hu
 have hf:=hS.frozen x
 have hS2:=RowOf.set0 hS (fun x=>⟨_,rfl⟩) (d:=x) (by simp; omega) true (.bool true) rfl
 have hE2:=hEn.far (p:=⟨w.heap.size+1+1,x,none⟩) (by show w.heap.size+1≠w.heap.size+1+1; omega) (.bool true)
 have hx2:=hx.setCell (p:=⟨w.heap.size+1+1,x,none⟩) (by simp) (.bool true)
 have hszr:(wr.setCell ⟨w.heap.size+1+1,x,none⟩ (.bool true)).heap.size=wr.heap.size:=by simp
 have hD:Sch n1 (n2+1) (w.heap.size+3) (w.alloc (.cells #[.slice A1 n1 c1,.slice A2 n2 c2] 45)) ((wr.setCell ⟨w.heap.size+1+1,x,none⟩ (.bool true)).alloc (.cells #[.int .i64 x] 2)) (w.heap.size+1+1) (w.heap.size+1) ((List.replicate n1 false).set x true) en (.slice (some ⟨wr.heap.size,0,none⟩) 1 1) [(x:Int)]:=by
  refine ⟨hS2.ext (Ext.alloc _ _),hE2.ext (Ext.alloc _ _),OwnL.of_row (xs:=[(x:Int)]) (Row.newG _ _ hszr.symm) intC_len (by omega) (by simp),hx2.and_alloc _,by simp,by omega,by omega,by simp,hel,?_,?_,(by rw [HEn.out]; intro z hz; have:=List.eq_of_mem_replicate hz; omega)⟩
  ·rw [start_seen hxN]; rfl
  ·intro z hz; obtain rfl:=List.mem_singleton.1 hz; exact ⟨x,rfl,hxN⟩
 rw [show wr.heap.size=w.heap.size+1+1+1 by rw [←HW2.out,hszB,hszI]; simp] at hD
 have HST:Hid (srchF ps (hasRm ps fl) (n1-0) 0 ⟨(List.replicate n1 false).set x true,en,[(x:Int)]⟩=R):=hide (by rw [←HR.out,HEn.out]; rfl)
 clear hS2 hE2 hx2 HEn hEn hel hS hx
 have hxI:Ext (w.alloc (.cells #[.slice A1 n1 c1,.slice A2 n2 c2] 45)) (fI (w.alloc (.cells #[.slice A1 n1 c1,.slice A2 n2 c2] 45))):=by rw [←HfI.out]; exact Ext.alloc _ _
 have hI0:=(hB.ext hxI).cell 0
 simp at hI0
 clear hxI
 have hwr:=HW2.out
 clear HW2
 subst hwr
 go_enter Tryz.func277,Tryz.ntmps277
 go_wp2_with fail
 go_loopw [10,11] (fun v i wr=>∃(k:Nat) (l:List Bool) (en E:List Int),i= .int .i64 k∧k≤E.length∧Hid (srchF ps (hasRm ps fl) (n1-k) k ⟨l,en,E⟩=R)∧Sch n1 (n2+1) (w.heap.size+3) (w.alloc (.cells #[.slice A1 n1 c1,.slice A2 n2 c2] 45)) wr (w.heap.size+1+1) (w.heap.size+1) l en v E) (fun _ i _=>n1-(intOf i).toNat)
 case atStart=>exact ⟨0,_,_,_,rfl,Nat.zero_le _,HST,hD⟩
 case round=>
  obtain ⟨k,l,en,E,rfl,hk,HS,hD0⟩:=hrel
  clear hD HST
  have hD:=hD0
  clear hD0
  have hszr:=hD.seen.lt
  have hEn:=hD.le
  by_cases hlt:k<E.length
  ·obtain ⟨Ao,co,rfl,hsl⟩:=hD.own.sl intC_len (by omega)
   obtain ⟨bo,oo,zo,rfl,hbo,hok,hco⟩:=hsl.get hlt
   have hc0:=hco 0 _ rfl
   simp only [Nat.add_zero,Nat.mul_one] at hc0
   obtain ⟨q,rfl,hq⟩:=hD.inn.at hok
   have HOK:=hide hok
   obtain ⟨s0,hs0⟩:∃s0:Sst,Hid (s0=⟨l,en,E⟩):=⟨_,hide rfl⟩
   have HNX:Hid (srchF ps (hasRm ps fl) (n1-(k+1)) (k+1) (visits ps (hasRm ps fl) q s0)=R):=hide (by rw [←HS.out,hs0.out]; exact (srchF_step hok (by omega)).symm)
   clear hco hok hsl HS
   have hb0:=(hB.ext hD.ext).cell 0
   have hb1:=(hB.ext hD.ext).cell 1
   simp at hb0 hb1
   have hbl:=(hB.ext hD.ext).lt
   go_wp2_with fail
   refine wp_region_ph [([0,1,2,3,4],5)] [6] (by kernel_rfl) (by kernel_rfl) (by intro c a w d v h; cases d <;> exact h) ?_
   simp only [wpPh,pickL,nthO]
   repeat (go_big_quiet_step (fail))
   refine wpQuiet_nil ?_
   go_wp2_with fail
   refine (c_l02AtX A1 A2 n1 c1 n2 c2 ps _ ((hs2.ext hx0).ext (hD.ext.trans (Ext.refl _).drew)) q (by omega)).mono ?_
   rintro e w2 ⟨va,Ea,rfl,hoa,HA,hx2⟩
   go_wp2_with fail
   refine ⟨hx2,?_⟩
   repeat (go_big_quiet_step (fail))
   refine wpQuiet_nil ?_
   clear hc0 hb0 hb1
   have hxd:=(Ext.refl _).drew.trans hx2
   have hDr:=hD.more hxd
   clear hD
   obtain ⟨wb,hwb⟩:∃wb,wr.drew.heap.size=wb:=⟨_,rfl⟩
   rw [hwb] at hoa
   have hwb':w.heap.size+1+1<wb:=by rw [←hwb]; exact hszr
   have HAP:Apt va (.slice (some ⟨bo,oo,none⟩) E.length co):=fun k hk h2=>by
    have h3:=hoa.block_le hk
    have h4:bo<wb:=by rw [←hwb]; exact hbo
    simp [Value.ownBlock] at h2
    omega
   obtain ⟨Aa,ca,rfl,_⟩:=hoa.sl intC_len (by omega)
   go_wp2_with fail
   go_loopw [10,13] (fun v i wr=>∃(j:Nat) (l:List Bool) (en E:List Int),i= .int .i64 j∧j≤Ea.length∧k<E.length∧Hid (E[k]? =some (q:Int))∧Hid ((⟨l,en,E⟩:Sst)=(Ea.take j).foldl (visit ps (hasRm ps fl) q) s0)∧Sch n1 (n2+1) (w.heap.size+3) (w.alloc (.cells #[.slice A1 n1 c1,.slice A2 n2 c2] 45)) wr (w.heap.size+1+1) (w.heap.size+1) l en v E∧OwnL wr wb 2 1 intC (.slice Aa Ea.length ca) Ea∧Apt (.slice Aa Ea.length ca) v) (fun _ i _=>Ea.length-(intOf i).toNat)
   case atStart=>exact ⟨0,l,en,E,rfl,Nat.zero_le _,hlt,HOK,hide hs0.out.symm,hDr,hoa,HAP⟩
   case round=>
    clear HAP hoa hDr HOK hEn hlt hk hxd hx2 hbo hszr hbl hs0
    obtain ⟨j,l,en,E,rfl,hj,hkE,HOK,HF,hD,hoa,hap⟩:=hrel
    have hEa:=HA.out.2
    have hszr:=hD.seen.lt
    have hEn:=hD.le
    obtain ⟨Ao,co',rfl,hsl⟩:=hD.own.sl intC_len (by omega)
    by_cases hjl:j<Ea.length
    ·obtain ⟨bo,oo,zo,rfl,hbo,hok,hco⟩:=hsl.get hkE
     obtain rfl:zo=(q:Int):=by have:=HOK.out; rw [hok] at this; exact Option.some.inj this
     have hc0:=hco 0 _ rfl
     simp only [Nat.add_zero,Nat.mul_one] at hc0
     obtain ⟨ba,oa,za,rfl,hba,hak,hca⟩:=(hoa.slE intC_len (by omega)).get hjl
     obtain ⟨ka,p,rfl,hpk,hpe⟩:=atL_mem (HA.out.1 ▸ List.mem_of_getElem? hak)
     have hd0:=hca 0 _ rfl
     simp only [Nat.add_zero,Nat.mul_one] at hd0
     have hkl:ka<n2:=by rw [hs2.len]; exact (List.getElem?_eq_some_iff.1 hpk).1
     have HPK:=hide hpk
     have HPE:=hide hpe
     have HAK:=hide hak
     obtain ⟨y,hyq,hy⟩:=HE.out.oth hpk q
     have HYQ:=hide hyq
     clear hyq
     clear hco hca hok hsl hpk hpe hak
     have hb0:=(hB.ext hD.ext).cell 0
     have hb1:=(hB.ext hD.ext).cell 1
     simp at hb0 hb1
     have hbl:=(hB.ext hD.ext).lt
     go_wp2_with fail
     refine wp_region_ph [([0,1,2,3,4,5,6,7,8],9)] [10] (by kernel_rfl) (by kernel_rfl) (by intro c a w d v h; cases d <;> exact h) ?_
     simp only [wpPh,pickL,nthO]
     repeat (go_big_quiet_step (fail))
     refine wpQuiet_nil ?_
     go_wp2_with fail
     refine (c_l02OtherX A1 A2 n1 c1 n2 c2 ps _ ((hs2.ext hx0).ext (hD.ext.trans (Ext.refl _).drew)) n1 (by omega) HE.out ka p HPK.out q HPE.out).mono ?_
     rintro e w2 ⟨rfl,hx2⟩
     rw [HYQ.out]
     go_wp2_with fail
     refine ⟨hx2,?_⟩
     repeat (go_big_quiet_step (fail))
     refine wpQuiet_nil ?_
     have hxd:=(Ext.refl _).drew.trans hx2
     have hd2:=(hxd.cell _ _ hba).trans hd0
     have hc2:=(hxd.cell _ _ hbo).trans hc0
     have hbo2:=Nat.lt_of_lt_of_le hbo hxd.size
     have hba2:=Nat.lt_of_lt_of_le hba hxd.size
     clear hc0 hd0 hb0 hb1 hbl
     obtain ⟨fz,hfz⟩:∃z,fl[ka]? =some z:=⟨_,List.getElem?_eq_getElem (by rw [←hs3.len]; exact hkl)⟩
     have HFZ:=hide hfz
     clear hfz
     have hDr:=hD.more hxd
     have hor:=hoa.ext hxd
     have hszd:=hDr.seen.lt
     have hyl:y<l.length:=by rw [hDr.ll]; exact hy
     obtain ⟨bb,hbb⟩:∃bb,l[y]? =some bb:=⟨_,List.getElem?_eq_getElem hyl⟩
     have hsc:=hDr.seen.get boolC_len hbb (j:=0) rfl
     simp only [Nat.mul_one,Nat.add_zero] at hsc
     have hsf:=hDr.seen.frozen y
     have HBB:=hide hbb
     clear hD hoa hbb hx2 hxd
     cases bb
     ·have hb0:=(hB.ext hDr.ext).cell 0
      have hb1:=(hB.ext hDr.ext).cell 1
      simp at hb0 hb1
      have hbl:=(hB.ext hDr.ext).lt
      go_wp2_with fail
      refine wp_region_ph [([0,1,2,3,4,5,6,7,8,9,10,11,12,13,14,15],16)] [17,18] (by kernel_rfl) (by kernel_rfl) (by intro c a w d v h; cases d <;> exact h) ?_
      simp only [wpPh,pickL,nthO]
      repeat (go_big_quiet_step (fail))
      refine wpQuiet_nil ?_
      go_wp2_with fail
      refine (c_l23Room A1 A2 n1 c1 n2 c2 ps _ ((hs2.ext hx0).ext (hDr.ext.trans (Ext.refl _).drew)) A3 n2 c3 fl ((hs3.ext hx0).ext (hDr.ext.trans (Ext.refl _).drew)) HFL.out ka p fz HPK.out HFZ.out q).mono ?_
      rintro e w3 ⟨rfl,hx3⟩
      have hxd3:=(Ext.refl _).drew.trans hx3
      have hd3:=(hxd3.cell _ _ hba2).trans hd2
      have hDr3:=hDr.more hxd3
      have hor3:=hor.ext hxd3
      obtain ⟨rz,hrz⟩:∃rz,roomZ ps fl ka q=rz:=⟨_,rfl⟩
      rw [hrz]
      have HRZ:=hide hrz
      clear hrz hb0 hb1 hbl hsc hsf hszd hc2 hbo2 hba2 hd2 hDr hor
      have hszd:=hDr3.seen.lt
      have hsf:=hDr3.seen.frozen y
      have hsc:=hDr3.seen.get boolC_len HBB.out (j:=0) rfl
      simp only [Nat.mul_one,Nat.add_zero] at hsc
      by_cases hrp:0<rz
      ·go_wp2_with fail
       refine ⟨hx3,?_⟩
       repeat (go_big_quiet_step (fail))
       refine wpQuiet_nil ?_
       obtain ⟨u,hu⟩:=hDr3.ent.there intC_len (i:=y) (by rw [hDr3.el]; exact hy) (j:=0) (by omega)
       simp only [Nat.mul_one,Nat.add_zero] at hu
       have hel:=hDr3.ent.lt
       have hef:=hDr3.ent.frozen y
       have hne:w.heap.size+1≠w.heap.size+1+1:=by omega
       have hbaL:=hor3.block_le (k:=ba) rfl
       have hne2:ba≠w.heap.size+1+1:=by omega
       have hne3:ba≠w.heap.size+1:=by omega
       have hba3:=(hor3.ltG (k:=ba) rfl).2
       have ho3:OwnL ((w3.setCell ⟨w.heap.size+1+1,y,none⟩ (.bool true)).setCell ⟨w.heap.size+1,y,none⟩ (.int .i64 ka)) (w.heap.size+3) 2 1 intC (.slice (some ⟨bo,oo,none⟩) E.length co') E:=(hDr3.own.farK (p:=⟨w.heap.size+1+1,y,none⟩) (by show w.heap.size+1+1<w.heap.size+3; omega) _).farK (p:=⟨w.heap.size+1,y,none⟩) (by show w.heap.size+1<w.heap.size+3; omega) _
       have hr3:OwnL ((w3.setCell ⟨w.heap.size+1+1,y,none⟩ (.bool true)).setCell ⟨w.heap.size+1,y,none⟩ (.int .i64 ka)) wb 2 1 intC (.slice (some ⟨ba,oa,none⟩) Ea.length ca) Ea:=(hor3.farK (p:=⟨w.heap.size+1+1,y,none⟩) (by show w.heap.size+1+1<wb; omega) _).farK (p:=⟨w.heap.size+1,y,none⟩) (by show w.heap.size+1<wb; omega) _
       go_wp2_with (at_builtin; go_must (refine wpList_append_where rfl _ _ 24 rfl (w.heap.size+3) 2 _ 1 8 Tryz.underlying24 int_info rfl (by decide) intC intC_len int_one' (.slice (some ⟨bo,oo,none⟩) E.length co') E rfl (ho3.ext (Ext.alloc _ _)) (w3.heap.size) 0 1 1 [(y:Int)] rfl (new_int ((w3.setCell ⟨w.heap.size+1+1,y,none⟩ (.bool true)).setCell ⟨w.heap.size+1,y,none⟩ (.int .i64 ka)) _ _ (by simp)) (by omega) (by omega) (by first | omega | (simp; omega)) ?_))
       intro v5 w5 ho5 hg5 hb5
       have HF5:Hid ((⟨l.set y true,en.set y (ka:Int),E++[(y:Int)]⟩:Sst)=(Ea.take (j+1)).foldl (visit ps (hasRm ps fl) q) s0):=hide (by rw [fold_step HAK.out, ←HF.out,visit_yes HPK.out (by rw [HYQ.out,Int.toNat_natCast]; exact HBB.out) (by unfold hasRm; rw [HRZ.out]; simpa using hrp),HYQ.out,Int.toNat_natCast])
       have hD5:=hDr3.add HBB.out hy (z:=(ka:Int)) (by omega) (by omega) (Ext.alloc _ _) hg5 ho5
       have hr5:=(hr3.ext (Ext.alloc _ (.cells #[.int .i64 y] 2))).grown hg5 (fun k hk=>hap k hk)
       have hap5:Apt (.slice (some ⟨ba,oa,none⟩) Ea.length ca) v5:=fun k hk h2=>by
        rcases hb5 k h2 with h3 | h3
        ·exact hap k hk h3
        ·obtain rfl:ba=k:=by simpa [Value.ownBlock] using hk
         omega
       clear hDr3 ho3 hr3 hg5 ho5 hb5
       go_wp2_with fail
       go_roundw
       case rel=>exact ⟨j+1,_,_,_,by go_num,by omega,by simp; omega,hide (by rw [List.getElem?_append_left hkE]; exact HOK.out),HF5,hD5,hr5,hap5⟩
       case measure=>simp [intOf]; omega
      ·go_wp2_with fail
       refine ⟨hx3,?_⟩
       repeat (go_big_quiet_step (fail))
       refine wpQuiet_nil ?_
       go_wp2_with fail
       go_roundw
       case rel=>exact ⟨j+1,l,en,E,by go_num,by omega,hkE,HOK,hide (by rw [fold_step HAK.out, ←HF.out,visit_no HPK.out (by unfold hasRm; rw [HRZ.out]; simp only [decide_eq_true_eq]; exact fun h=>by have:=h.2; omega)]),hDr3,hor3,hap⟩
       case measure=>simp [intOf]; omega
     ·go_wp2_with fail
      refine wp_region_ph [([0,1,2,3,4,5,6,7,8,9,10,11,12,13,14,15],16)] [17,18] (by kernel_rfl) (by kernel_rfl) (by intro c a w d v h; cases d <;> exact h) ?_
      simp only [wpPh,pickL,nthO]
      repeat (go_big_quiet_step (fail))
      refine wpQuiet_nil ?_
      refine ⟨Ext.refl _,?_⟩
      simp only [Act.put,List.setIfInBounds_toArray,List.set_cons_succ,List.set_cons_zero]
      repeat (go_big_quiet_step (fail))
      refine wpQuiet_nil ?_
      go_wp2_with fail
      go_roundw
      case rel=>exact ⟨j+1,l,en,E,by go_num,by omega,hkE,HOK,hide (by rw [fold_step HAK.out, ←HF.out,visit_no HPK.out (by rw [HYQ.out,Int.toNat_natCast]; simp only; rw [HBB.out]; simp)]),hDr.more (Ext.refl _).drew,hor.ext (Ext.refl _).drew,hap⟩
      case measure=>simp [intOf]; omega
    ·go_wp2_with fail
     go_roundw
     case rel=>exact ⟨k+1,l,en,E,by go_num,by omega,hide (by rw [←HNX.out,HF.out,visits, ←HA.out.1,List.take_of_length_le (by omega)]),hD⟩
     case measure=>simp [intOf]; omega
  ·obtain ⟨Ao,co,rfl,hsl⟩:=hD.own.sl intC_len (by omega)
   go_wp2_with fail
   go_ret2
   have HR2:Hid (R=⟨l,en,E⟩):=hide (by rw [←HS.out]; exact srchF_end (by show E.length≤k; omega))
   rw [HR2.out]
   refine ⟨_,_,rfl,?_,hD.own.lowG (by omega),hx0.trans hD.ext⟩
   have:=OwnL.of_row hD.ent intC_len (base:=w.heap.size) (by omega) (by rw [hD.el]; omega)
   rw [hD.el] at this
   exact this
end Go.Proofs.YtfkpghdmljjegaaGreat
namespace Go.Proofs.YtfkpghdmljjegaaGreat
def wantB (lf:List Int) (z:Int):Bool:=decide ((lf[z.toNat]?).getD 0<0)
def tgtK (lf E:List Int) (k:Nat):Int:=((E.drop k).find? (wantB lf)).getD (-1)
theorem tgt_eq (lf E:List Int):tgt lf E=E.find? (wantB lf):=rfl
theorem tgtK_end {lf E:List Int} {k:Nat} (h:E.length≤k):tgtK lf E k= -1:=by
 unfold tgtK; rw [List.drop_of_length_le h]; rfl
theorem tgtK_step {lf E:List Int} {k:Nat} {z:Int} (h:E[k]? =some z):tgtK lf E k=if zAt lf z.toNat<0 then z else tgtK lf E (k+1):=by
 obtain ⟨hk,he⟩:=List.getElem?_eq_some_iff.1 h
 unfold tgtK
 rw [List.drop_eq_getElem_cons hk,he,List.find?_cons]
 unfold wantB zAt
 by_cases h0:(lf[z.toNat]?).getD 0<0
 ·simp only [h0,decide_true,if_true]; rfl
 ·simp only [h0,decide_false,if_false]
theorem tgtK_one {lf E:List Int} {q:Int} (h0:E[0]? =some q) (hq:¬zAt lf q.toNat<0) (hn:∀z∈E,0≤z):
  (tgtK lf E 1<0∧tgt lf E=none)∨(0≤tgtK lf E 1∧tgt lf E=some (tgtK lf E 1)):=by
 have e0:tgtK lf E 0=tgtK lf E 1:=by rw [tgtK_step h0,if_neg hq]
 rw [←e0]
 unfold tgtK
 rw [List.drop_zero, ←tgt_eq]
 cases ht:tgt lf E with
 | none=>left; exact ⟨by simp,rfl⟩
 | some z=>right; exact ⟨by rw [Option.getD_some]; exact hn z (find_tgt ht).1,rfl⟩
theorem Pth.next {ps:List Pipe} {en:List Int} {q x:Int} {L:List Stp} (h:Pth ps en q x L) (hne:x≠q):∃(k:Nat) (p:Pipe) (L':List Stp),L=⟨k,othE p x,x⟩::L'∧en[x.toNat]? =some (k:Int)∧ps[k]? =some p∧Pth ps en q (othE p x) L':=by
 cases h with
 | nil=>exact absurd rfl hne
 | cons _ he hp h=>exact ⟨_,_,_,rfl,he,hp,h⟩
theorem Pth.last {ps:List Pipe} {en:List Int} {q:Int} {L:List Stp} (h:Pth ps en q q L):L=[]:=by
 cases h with
 | nil=>rfl
 | cons hne _ _ _=>exact absurd rfl hne
def FlB (b:Int) (fl:List Int):Prop:=∀z∈fl,-b≤z∧z≤b
theorem FlB.set {b a:Int} {fl:List Int} (h:FlB b fl) (ha:0≤a) {k:Nat} {v:Int} (hv: -(b+a)≤v∧v≤b+a):FlB (b+a) (fl.set k v):=by
 intro z hz
 rcases List.mem_or_eq_of_mem_set hz with hz | rfl
 ·have:=h z hz; omega
 ·exact hv
theorem turnS_at {ps:List Pipe} {k:Nat} {p:Pipe} (h:ps[k]? =some p) (a f u x:Int):turnS ps a ⟨k,u,x⟩ f=if p.src=u then f+a else f-a:=by
 unfold turnS; simp only; rw [h]
theorem dst_src {p:Pipe} {x:Int} (hx:p.src=x∨p.dst=x) (hne:p.src≠p.dst):(p.src=othE p x)↔(p.dst=x):=by
 unfold othE; split <;> omega
structure Rest (ps:List Pipe) (N:Nat) (L:List Stp):Prop where
 ok:∀e∈L,∃p,ps[e.pipe]? =some p∧(p.src=e.to∨p.dst=e.to)∧othE p e.to=e.up∧(∃u:Nat,e.up=u∧u<N)
theorem Rest.tail {ps:List Pipe} {N:Nat} {e:Stp} {L:List Stp} (h:Rest ps N (e::L)):Rest ps N L:=⟨fun y hy=>h.ok y (by simp [hy])⟩
theorem Tgt.rest {ps:List Pipe} {N q t:Nat} {s:Rst} {lq lt:Int} {L:List Stp} (h:Tgt ps N q s t lq lt L) (hP:EndsN N ps):Rest ps N L:=by
 refine ⟨fun e he=> ?_⟩
 obtain ⟨p,h1,h2,h3⟩:=(h.good e he).pip
 obtain ⟨y,hy,hyN⟩:=hP.oth h1 e.to
 exact ⟨p,h1,h2,h3,y,by rw [←h3,hy],hyN⟩
noncomputable def routR (ps:List Pipe) (N:Nat) (sup:List Int):List Int×Int:=
 if supB sup=false then ([],3) else if evenB ps N sup=false then ([],5) else if ((routed ps N sup).lf.all fun z=>decide (z=0))=false then ([],7) else ((routed ps N sup).fl,0)
theorem supB_bd {sup:List Int} (h:supB sup=true):∀z∈sup,-30000≤z∧z≤30000:=by
 intro z hz
 have:=List.all_eq_true.1 h z hz
 simpa using this
theorem routR_code (ps:List Pipe) (N:Nat) (sup:List Int):((routR ps N sup).2==0)=routB ps N sup:=by
 unfold routR routB
 cases supB sup <;> cases evenB ps N sup <;> cases ((routed ps N sup).lf.all fun z=>decide (z=0)) <;> rfl
def readI (w:World) (g N:Nat):List Int:=(List.range N).map fun i=>match w.cell? ⟨g,i,none⟩ with | some (.int _ z)=>z | _=>0
end Go.Proofs.YtfkpghdmljjegaaGreat
namespace Go.Proofs.YtfkpghdmljjegaaGreat
open Go.RowKit
theorem OwnS.setI {w:World} {g:Nat} {t:TypeId} {A:Option Addr} {n:Nat} {L:List Int} (h:OwnS w g t intC A n L) {i:Nat} (hi:i<n) (y:Int):OwnS (w.setCell ⟨g,i,none⟩ (.int .i64 y)) g t intC A n (L.set i y):=by
 have h1:=h.put intC_len hi y
 rw [Nat.mul_one] at h1
 exact h1
theorem OwnS.farO {α:Type} {w:World} {g:Nat} {t:TypeId} {f:α→List Value} {A:Option Addr} {n:Nat} {L:List α} (h:OwnS w g t f A n L) {p:Addr} (hp:g≠p.block) (u:Value):OwnS (w.setCell p u) g t f A n L:=
 h.only ((Only.refl p.block w).setCell rfl u) hp
theorem OwnS.getI {w:World} {g:Nat} {t:TypeId} {A:Option Addr} {n:Nat} {L:List Int} (h:OwnS w g t intC A n L) {i:Nat} {z:Int} (hz:L[i]? =some z):w.cell? ⟨g,i,none⟩=some (.int .i64 z)∧w.frozen? ⟨g,i,none⟩=false∧g<w.heap.size:=by
 have hi:i<n:=by rw [h.1]; exact (List.getElem?_eq_some_iff.1 hz).1
 obtain ⟨hA,rest,hr⟩:=h.2 (by omega)
 have h1:=flat_get intC_len hz (j:=0) (u:= .int .i64 z) rfl
 simp only [Nat.mul_one,Nat.add_zero] at h1
 refine ⟨?_,h.frozen (by omega) i,hr.lt⟩
 rw [hr.cell,List.getElem?_append_left (List.getElem?_eq_some_iff.1 h1).1]
 exact h1
theorem OwnS.turn {α:Type} {S:Nat→Prop} {w w':World} {g:Nat} {t:TypeId} {f:α→List Value} {A:Option Addr} {n:Nat} {xs:List α} (h:OwnS w g t f A n xs) (k:Turn S w w') (hne:¬S g):OwnS w' g t f A n xs:=
 ⟨h.1,fun hn=>⟨(h.2 hn).1,let ⟨r,hr⟩:=(h.2 hn).2; ⟨r,hr.turn k hne⟩⟩⟩
theorem readI_eq {w:World} {g:Nat} {t:TypeId} {A:Option Addr} {n:Nat} {L:List Int} (h:OwnS w g t intC A n L):readI w g n=L:=by
 apply List.ext_getElem?
 intro i
 unfold readI
 rw [List.getElem?_map]
 rcases Nat.lt_or_ge i n with hi | hi
 ·obtain ⟨z,hz⟩:∃z,L[i]? =some z:=⟨_,List.getElem?_eq_getElem (by rw [←h.1]; exact hi)⟩
  rw [List.getElem?_range hi,Option.map_some,(h.getI hz).1,hz]
 ·rw [List.getElem?_eq_none (by simpa using hi),List.getElem?_eq_none (by rw [←h.1]; exact hi)]; rfl
structure RtM (w:World) (gf gl nf nl:Nat) (s:Rst):Prop where
 f:OwnS w gf 2 intC (some ⟨gf,0,none⟩) nf s.fl
 l:OwnS w gl 2 intC (some ⟨gl,0,none⟩) nl s.lf
 ne:gf≠gl
section
variable {w w':World} {gf gl nf nl:Nat} {s:Rst}
theorem RtM.ext (h:RtM w gf gl nf nl s) (hx:Ext w w'):RtM w' gf gl nf nl s:=⟨h.f.ext hx,h.l.ext hx,h.ne⟩
theorem RtM.setF (h:RtM w gf gl nf nl s) {i:Nat} (hi:i<nf) (y:Int):RtM (w.setCell ⟨gf,i,none⟩ (.int .i64 y)) gf gl nf nl ⟨s.fl.set i y,s.lf⟩:=
 ⟨h.f.setI hi y,h.l.farO (p:=⟨gf,i,none⟩) (Ne.symm h.ne) _,h.ne⟩
theorem RtM.setL (h:RtM w gf gl nf nl s) {i:Nat} (hi:i<nl) (y:Int):RtM (w.setCell ⟨gl,i,none⟩ (.int .i64 y)) gf gl nf nl ⟨s.fl,s.lf.set i y⟩:=
 ⟨h.f.farO (p:=⟨gl,i,none⟩) h.ne _,h.l.setI hi y,h.ne⟩
end
def Rtb (gf gl:Nat) (b:Nat):Prop:=b=gf∨b=gl
theorem Turn.setF {gf gl i:Nat} {w w':World} (h:Turn (Rtb gf gl) w w') (u:Value):Turn (Rtb gf gl) w (w'.setCell ⟨gf,i,none⟩ u):=
 h.trans (Turn.of_only (g:=gf) ((Only.refl gf w').setCell rfl u) (fun _=> .inl rfl))
theorem Turn.setL {gf gl i:Nat} {w w':World} (h:Turn (Rtb gf gl) w w') (u:Value):Turn (Rtb gf gl) w (w'.setCell ⟨gl,i,none⟩ u):=
 h.trans (Turn.of_only (g:=gl) ((Only.refl gl w').setCell rfl u) (fun _=> .inr rfl))
theorem Turn.more {S:Nat→Prop} {w w' w'':World} (h:Turn S w w') (hx:Ext w' w''):Turn S w w'':=h.trans (Turn.of_ext hx)
end Go.Proofs.YtfkpghdmljjegaaGreat
