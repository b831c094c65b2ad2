/-
  What the listed package variables give the walks; the wrap of a row that lists variables, the world's shape kept.
-/
import Derived.Test.YtinindjjapblcaaGreatDoorWa17
import Derived.Test.YtinindjjapblcaaGreatDoorWa35
import Derived.ProofKit
import Derived.LaidMore
import Derived.OpenShut
import Derived.Lib.LaidU8
import Derived.Lay
import Derived.LaidLaws
import Derived.HandedShaped
import Derived.Shelf.Vars
import Derived.ChangeVars
import Derived.SevenTiedAt
import Derived.Test.YtinindjjapblcaaGreatDoorRows
namespace Go.Proofs.YtinindjjapblcaaGreatDoor
open Go.RowKit Go.ChangeShapes Go.WideShapes Go.ChangeAt
open Go.Lib hiding intOf
theorem gWords : Tryz.prog.globalNamed "loop.example/g00852/impl.eventWords" = some 0 := by kernel_rfl
theorem tWords:(Tryz.prog.globals[0]?).map (·.type)=some 138:=by kernel_rfl
theorem tPow:(Tryz.prog.globals[1]?).map (·.type)=some 240:=by kernel_rfl
theorem gSyn : Tryz.prog.globalNamed "strconv.ErrSyntax" = some 7 := by kernel_rfl
theorem tSyn:(Tryz.prog.globals[7]?).map (·.type)=some 92:=by kernel_rfl
theorem gRng : Tryz.prog.globalNamed "strconv.ErrRange" = some 8 := by kernel_rfl
theorem tRng:(Tryz.prog.globals[8]?).map (·.type)=some 92:=by kernel_rfl
theorem pow_of {W : World} (h : VarReads Tryz.prog W "internal/strconv.uint64pow10" Rows.laid_internal_strconv_uint64pow10) : TabIs Tryz.prog W "internal/strconv.uint64pow10" .u64 pow10Tab := by
 obtain ⟨g,t,cs,fuel,p,hg,ht,hv,hd⟩:=h
 obtain rfl:=Option.some.inj (globPow.symm.trans hg)
 obtain rfl:=Option.some.inj (tPow.symm.trans ht)
 have hc:=cells_of_tab (k:= .u64) (zs:=pow10Tab) Tryz.underlying240 Tryz.underlying49 (by kernel_rfl) (by kernel_rfl) hd
 unfold TabIs
 rw [hv, ←hc]
theorem words_of {W : World} (h : VarReads Tryz.prog W "loop.example/g00852/impl.eventWords" Rows.laid_loop_example_g00852_impl_eventWords) : W.var? Tryz.prog "loop.example/g00852/impl.eventWords" = some #[.string (mkB []), .string (mkB wNom), .string (mkB wRead), .string (mkB wClose)] := by
 obtain ⟨g,t,cs,fuel,p,hg,ht,hv,hd⟩:=h
 obtain rfl:=Option.some.inj (gWords.symm.trans hg)
 obtain rfl:=Option.some.inj (tWords.symm.trans ht)
 obtain ⟨xs,m,rfl,hx,hl,hn,hel⟩:=DataW.trod_array Tryz.underlying138 hd
 have c9:Tryz.prog.cellsOf 9=1:=by kernel_rfl
 have c86:Tryz.prog.cellsOf 138=4:=by kernel_rfl
 rw [c86] at hl
 rw [c9] at hel
 have key:∀(i:Nat) (bs:List UInt8),i<4→(xs.map (·.1))[i]? =some (.lit (.string bs))→cs.toList[i]? =some (.string (mkB bs)):=by
  intro i bs hi hb
  have h1:=hel i hi
  rw [List.getElem?_map] at hb
  cases hxi:xs[i]? with
  | none=>rw [hxi] at hb; cases hb
  | some y=>
   rw [hxi] at h1 hb
   obtain ⟨s,hs,hy,_⟩:=DataW.trod_string Tryz.underlying9 h1
   have h2:(some y).map (·.1)=some (DataW.lit (.string s.data.toList)):=by rw [hy]; rfl
   rw [hb] at h2
   simp only [Option.some.injEq,DataW.lit.injEq,Lit.string.injEq] at h2
   have h3:((cs.toList.drop (i*1)).take 1)[0]? =some (.string s):=by rw [hs]; rfl
   rw [List.getElem?_take,if_pos (by omega),List.getElem?_drop] at h3
   rw [h2,mkB_of]
   simpa using h3
 have hx1:xs.map (·.1)=[.lit (.string []),.lit (.string wNom),.lit (.string wRead),.lit (.string wClose)]:=by
  have:=congrArg Prod.fst hx
  simp only [Rows.laid_loop_example_g00852_impl_eventWords,DataW.agg.injEq] at this
  exact this.symm
 rw [hv]
 refine congrArg some ?_
 apply Array.ext_getElem?
 intro i
 rw [←Array.getElem?_toList]
 by_cases hi:i<4
 ·have:i=0∨i=1∨i=2∨i=3:=by omega
  rcases this with rfl | rfl | rfl | rfl
  ·exact key 0 _ (by omega) (by rw [hx1]; rfl)
  ·exact key 1 _ (by omega) (by rw [hx1]; rfl)
  ·exact key 2 _ (by omega) (by rw [hx1]; rfl)
  ·exact key 3 _ (by omega) (by rw [hx1]; rfl)
 ·rw [List.getElem?_eq_none (by omega),Array.getElem?_eq_none (by simp; omega)]
theorem words_cells {W : World} (h : W.var? Tryz.prog "loop.example/g00852/impl.eventWords" = some #[.string (mkB []), .string (mkB wNom), .string (mkB wRead), .string (mkB wClose)]) (k : Nat) (hk : k < 4) : W.cell? ⟨0, k, none⟩ = some (.string (mkB (if k = 0 then [] else evWord k))) := by
 rw [World.var?_cell gWords h k]
 have:k=0∨k=1∨k=2∨k=3:=by omega
 rcases this with rfl | rfl | rfl | rfl <;> rfl
theorem err_of {W:World} {n:String} {g:Nat} {nm:String} {d:DataW Unit} (h:VarReads Tryz.prog W n (.iface nm d)) (hg:Tryz.prog.globalNamed n=some g) (ht:(Tryz.prog.globals[g]?).map (·.type)=some 92):∃tp p,W.cell? ⟨g,0,none⟩=some (.iface tp p):=by
 obtain ⟨g',t,cs,fuel,p,hg',ht',hv,hd⟩:=h
 obtain rfl:=Option.some.inj (hg.symm.trans hg')
 obtain rfl:=Option.some.inj (ht.symm.trans ht')
 obtain ⟨_,u,v,hc,_⟩:=iface_of_trod Tryz.underlying92 hd
 refine ⟨u,v,?_⟩
 rw [World.var?_cell hg hv 0, ←Array.getElem?_toList,hc]
 rfl
theorem heap_lt {W:World} {g:Nat} {cs:Array Value} {n:String} (hg:Tryz.prog.globalNamed n=some g) (h:W.var? Tryz.prog n=some cs):g<W.heap.size:=by
 simp only [World.var?,hg,Option.bind_some] at h
 rcases Nat.lt_or_ge g W.heap.size with hlt | hge
 ·exact hlt
 ·rw [Array.getElem?_eq_none hge] at h; cases h
theorem cell_lt {W:World} {b o:Nat} {v:Value} (h:W.cell? ⟨b,o,none⟩=some v):b<W.heap.size:=by
 rcases Nat.lt_or_ge b W.heap.size with hlt | hge
 ·exact hlt
 ·simp [World.cell?,Array.getElem?_eq_none hge] at h
theorem maxLen_of {W:World} (h:W.ShapedOpen Tryz.prog):∃m,W.cell? ⟨2,0,none⟩=some (.int .i64 m):=
 cell_of_shapedOpen_int (t:=3) (zero:= #[.int .i64 0]) h (of_decide_eq_true (by kernel_rfl)) (by kernel_rfl) rfl (by kernel_rfl) (by kernel_rfl) Tryz.underlying3
theorem glob_of {W:World} {laid:List (String×DataW Unit)} (h:laidMet Tryz.prog laid W) (hsh:W.ShapedOpen Tryz.prog)
  (m1 : ("internal/strconv.uint64pow10", Rows.laid_internal_strconv_uint64pow10) ∈ laid) (m2 : ("loop.example/g00852/impl.eventWords", Rows.laid_loop_example_g00852_impl_eventWords) ∈ laid)
  (m3 : ("strconv.ErrSyntax", Rows.laid_strconv_ErrSyntax) ∈ laid) (m4 : ("strconv.ErrRange", Rows.laid_strconv_ErrRange) ∈ laid) : Glob W := by
 have hp:=pow_of (laidMet.reads h m1)
 have hw:=words_of (laidMet.reads h m2)
 have hs:=err_of (laidMet.reads h m3) gSyn tSyn
 have hr:=err_of (laidMet.reads h m4) gRng tRng
 refine ⟨⟨?_,?_,words_cells hw⟩,maxLen_of hsh,hs,hr⟩
 ·obtain ⟨_,_,h8⟩:=hr
  exact cell_lt h8
 ·exact hp
theorem returns_laid {H:Type} {enc:TypeId×Value→H} {a:Assume} {C:Checked} {os:Os} {f:FuncId} {fn:Func} {s:ChangeSpec} {conds:List PathCond} {apart fresh handsOn again:Bool} {X:World→Array Value→Prop}
  (hX:∀(w w':World) (args:Array Value),w.heap=w'.heap→X w args→X w' args)
  (own:ownKnob C.prog.godebug=none) (started:os.Started) (noInit:C.prog.inits.idxOf? f=none) (hfn:C.prog.funcs[f]? =some fn)
  (witness:∃(w:World) (tape:Tape) (i:Input),w.os=os∧(w.forCall tape i).Shaped C.prog∧i.vars=[]∧Input.okWide C.prog (w.forCall tape i) .any w.heap.size f i∧
   ((s.pre enc C.prog fn conds apart (w.forCall tape i).memory i.args∧X (w.forCall tape i).memory i.args)∧sizedMet enc C.prog fn (OpenSpec.ofChange s) apart (w.forCall tape i).memory i.args)∧a.holds C.prog (lone (Frame.enter C.prog f i.args .normal) [] (w.forCall tape i)))
  (contract:∀(W:World) (base:Nat) (args:Array Value) (ds gs:List (DataW H)) (before:List MemPlace),
   (∀(j:Nat) t v,fn.params[j]? =some t→args[j]? =some v→Value.okWide C.prog W .any base t v)→
   DataW.Whole enc C.prog fn.params.toList s.vars apart W args.toList ds gs before→X W args→W.ShapedOpen C.prog→
   Calls C.prog f args W fun e W'=>∃v,e= .returned v∧s.post enc C.prog fn apart fresh handsOn again W args v W'):
  ReturnsInHanded a C os f .any (fun w args=>(s.pre enc C.prog fn conds apart w args∧X w args)∧sizedMet enc C.prog fn (OpenSpec.ofChange s) apart w args) (s.post enc C.prog fn apart fresh handsOn again):=by
 refine returnsInHanded_of_calls own started noInit witness ?_
 intro w tape i _ hsh _ hok hpre _
 obtain ⟨_,_,_,fn',hfn',_,_,_,_,hval⟩:=hok
 have e:fn'=fn:=Option.some.inj (hfn'.symm.trans hfn)
 subst e
 obtain ⟨⟨⟨ds,gs,before,hw,hc⟩,hx⟩,hz⟩:=hpre
 have hw':=DataW.Whole.of_heap (w':=w.forCall tape i) (by rfl) hw
 refine (contract (w.forCall tape i) w.heap.size i.args ds gs before hval hw' (hX _ _ _ (by rfl) hx) hsh).mono fun e W' ⟨v,he,hp⟩=> ?_
 subst he
 exact ChangeSpec.post_blind hp
theorem words_stay {H : Type} {enc : TypeId × Value → H} {W W' : World} {gs : List (DataW H)} {ps : List MemPlace} (h : DataW.TrodVars enc Tryz.prog W (fun _ => true) ["loop.example/g00852/impl.eventWords"] gs ps) (hb : Below W.heap.size W W')
  (hw : W.var? Tryz.prog "loop.example/g00852/impl.eventWords" = some #[.string (mkB []), .string (mkB wNom), .string (mkB wRead), .string (mkB wClose)]) :
  ∃ g1 pv, gs = [g1] ∧ DataW.TrodVars enc Tryz.prog W' (fun b => decide (b < W.heap.size)) ["loop.example/g00852/impl.eventWords"] [g1] pv := by
 obtain ⟨g,t,cs,fuel,d,p,rfl,hg,ht,hv,hd,_⟩:=trodVars_one h
 obtain rfl:=Option.some.inj (gWords.symm.trans hg)
 obtain rfl:=Option.some.inj (tWords.symm.trans ht)
 rw [hw] at hv
 obtain rfl:=Option.some.inj hv
 have hT:DataW.Trod enc Tryz.prog W 0 (fun _=>true) true 138 (.agg #[.string (mkB []),.string (mkB wNom),.string (mkB wRead),.string (mkB wClose)]) d p:=⟨fuel,hd⟩
 have lt0:∀x∈p,x.block<W.heap.size:=DataW.trod_lt fuel _ _ _ hd
 obtain ⟨fuel',hd'⟩:=Below.trod laidOut (by kernel_rfl) (of_decide_eq_true (by kernel_rfl)) hT hb lt0
 exact ⟨d,_,rfl,trodVars_mk1 gWords tWords (var?_below hb gWords (heap_lt gWords hw) hw) hd'⟩
end Go.Proofs.YtinindjjapblcaaGreatDoor
