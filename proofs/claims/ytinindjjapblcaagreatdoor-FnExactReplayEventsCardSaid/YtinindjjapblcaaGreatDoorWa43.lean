/-
  FnExactReplayEvents: the card.
-/
import Derived.Test.YtinindjjapblcaaGreatDoorWa42
import Derived.Test.YtinindjjapblcaaGreatDoorCards
import Derived.Test.YtinindjjapblcaaGreatDoorTie
import Derived.Stop.Joined
import Derived.ChangeMaps5
namespace Go.Proofs.YtinindjjapblcaaGreatDoor
open Go.ChangeShapes Go.WideShapes Go.ChangeAt Go.WideMaps Go.WideElems Go.ChangeMaps Go.RowKit
open Go.Lib hiding intOf
theorem row_ReplayEvents:Rows.FnExactReplayEventsSaid:=
 OpenClaim.holds_of_wide 5 Tryz.f5 rfl rfl rfl rfl rfl rfl rfl ⟨rfl,rfl,rfl,rfl,rfl⟩ rfl rfl rfl rfl rfl (by kernel_rfl) Tryz.func5 (by kernel_rfl)
  (of_decide_eq_true (by kernel_rfl)) (by unfold Func.isWrapper; first | (rw [if_pos (by decide +kernel)]; kernel_rfl) | (rw [if_neg (by decide +kernel)]; exact ⟨rfl,rfl⟩))
  (fun os started H enc _=>lifted_ReplayEvents os started H enc)
theorem holds_ReplayEvents:Rows.FnExactReplayEventsCardSaid:=
 Claim7.holds_tied_plain_at .later [] [.data, .data, .data, .data, .sentinel, .sentinel, .widerDeep, .pinned] true (true, "46c95c68e5f45c4c6f6ad9e8d45bf340e04f04bde1573a812fa8831c5afee2d6") true
  row_ReplayEvents (fun _ h=>by cases h) (by kernel_rfl) (fun _ h=>by cases h) fnExactReplayEvents_row_tie rfl ⟨rfl,rfl⟩ (by kernel_rfl) rfl
  (fun f fn hf hfn=>by
   obtain rfl : f = 5 := Option.some.inj ((show Tryz.prog.funcNamed "loop.example/g00852/laws.FnExactReplayEvents" = some 5 by kernel_rfl).symm.trans hf) |>.symm
   obtain rfl:fn=Tryz.f5:=(Option.some.inj (Tryz.func5.symm.trans hfn)).symm
   exact ⟨by kernel_rfl,fun j t ht=>by
    rw [Tryz.params5] at ht
    have hm:t∈[58,59,9]:=by simpa using Array.mem_of_getElem? ht
    have hall:([58,59,9].all fun u=> !Tryz.prog.wantsStandIn u)=true:=by kernel_rfl
    exact (show Tryz.prog.wantsStandIn t=false by simpa using List.all_eq_true.1 hall t hm)⟩)
  (by kernel_rfl)
#print axioms holds_ReplayEvents
end Go.Proofs.YtinindjjapblcaaGreatDoor
