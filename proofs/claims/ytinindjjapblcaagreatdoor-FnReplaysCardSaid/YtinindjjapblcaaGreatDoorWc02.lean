/-
  The reference's draw of a room: the walk.
-/
import Derived.Test.YtinindjjapblcaaGreatDoorWa28
import Derived.Test.YtinindjjapblcaaGreatDoorWa36
namespace Go.Proofs.YtinindjjapblcaaGreatDoor
open Go.RowKit
section
variable {w0 w:World} {a n c:Nat} {A:Option Addr}
theorem newR_valid {ns:List Node} {ps:List Pipe} {xs:List Contract} {k:Int} (h:(netB ns ps&&bookB k xs)=true):roomB k (newR ns ps xs)=true:=by
 rw [Bool.and_eq_true] at h
 simp [roomB,newR,nomsOk,h.1,h.2,nomsB,inB,readsB]
end
end Go.Proofs.YtinindjjapblcaaGreatDoor
