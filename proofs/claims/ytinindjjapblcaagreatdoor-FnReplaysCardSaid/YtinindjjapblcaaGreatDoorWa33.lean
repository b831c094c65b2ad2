/-
  Replaying events of which some may be impossible, in plain lists.
-/
import Derived.Test.YtinindjjapblcaaGreatDoorWa27
namespace Go.Proofs.YtinindjjapblcaaGreatDoor
open Go.RowKit
def stepE (n:Int) (p:Room×Nat) (e:Event):Room×Nat:=if appB n p.1 e=true then (appR p.1 e,p.2) else (p.1,p.2+1)
def replR (n:Int) (R:Room) (es:List Event):Room×Nat:=es.foldl (stepE n) (R,0)
theorem replR_take {n:Int} {R:Room} {es:List Event} {k:Nat} {e:Event} (h:es[k]? =some e):replR n R (es.take (k+1))=stepE n (replR n R (es.take k)) e:=by
 unfold replR; rw [List.take_add_one,h,List.foldl_append]; rfl
theorem stepE_ok {n:Int} {p:Room×Nat} {e:Event} (h:roomB n p.1=true):roomB n (stepE n p e).1=true:=by
 unfold stepE
 split
 ·rename_i hb; exact appR_ok h hb
 ·exact h
theorem replR_ok {n:Int} {R:Room} (h:roomB n R=true):∀(es:List Event),roomB n (replR n R es).1=true:=by
 intro es
 unfold replR
 have:∀(es:List Event) (p:Room×Nat),roomB n p.1=true→roomB n (es.foldl (stepE n) p).1=true:=by
  intro es
  induction es with
  | nil=>exact fun p hp=>hp
  | cons e es ih=>exact fun p hp=>ih _ (stepE_ok hp)
 exact this es (R,0) h
theorem replR_count {n:Int}:∀(es:List Event) (p:Room×Nat),(es.foldl (stepE n) p).2≤p.2+es.length
 | [],p=>by simp
 | e::es,p=>by
  have ih:=replR_count (n:=n) es (stepE n p e)
  have h1:(stepE n p e).2≤p.2+1:=by
   unfold stepE
   split
   ·exact Nat.le_succ _
   ·exact Nat.le_refl _
  simp only [List.foldl_cons,List.length_cons]
  omega
theorem run_repl {n:Int}:∀ {es:List Event} {R R':Room},runEv n R es=some R'→replR n R es=(R',0)
 | [],R,R',h=>by simp only [runEv,Option.some.injEq] at h; subst h; rfl
 | e::es,R,R',h=>by
  simp only [runEv] at h
  split at h
  ·rename_i hb
   have ih:=run_repl h
   unfold replR at ih ⊢
   rw [List.foldl_cons,show stepE n (R,0) e=(appR R e,0) by unfold stepE; rw [if_pos hb]]
   exact ih
  ·cases h
theorem reach_repl {n:Int} {r:Room} (h:reachB n r=true) (hr:r.rs≠[]):∃R',replR n (newR r.ns r.ps r.xs) (roomEv r)=(R',0)∧R'.Like r:=by
 unfold reachB at h
 simp only [Bool.and_eq_true] at h
 obtain ⟨_,h3⟩:=h
 cases hr':runEv n (newR r.ns r.ps r.xs) (roomEv r) with
 | none=>rw [hr'] at h3; simp at h3
 | some R'=>
  refine ⟨R',run_repl hr',?_⟩
  rw [runEv_fold hr']
  exact fold_room hr
theorem newR_val {ns:List Node} {ps:List Pipe} {xs:List Contract} {k:Int} (h:(netB ns ps&&bookB k xs)=true):roomB k (newR ns ps xs)=true:=by
 rw [Bool.and_eq_true] at h
 simp [roomB,newR,nomsOk,h.1,h.2,nomsB,inB,readsB]
theorem stepE_ns {n:Int} {p:Room×Nat} {e:Event}:(stepE n p e).1.ns=p.1.ns:=by
 unfold stepE
 split
 ·show (appR p.1 e).ns=p.1.ns
  unfold appR; split <;> (try split) <;> rfl
 ·rfl
theorem replR_ns {n:Int} {R:Room} (es:List Event):(replR n R es).1.ns=R.ns:=by
 unfold replR
 have:∀(es:List Event) (p:Room×Nat),(es.foldl (stepE n) p).1.ns=p.1.ns:=by
  intro es
  induction es with
  | nil=>exact fun p=>rfl
  | cons e es ih=>exact fun p=>(ih _).trans stepE_ns
 exact this es (R,0)
end Go.Proofs.YtinindjjapblcaaGreatDoor
