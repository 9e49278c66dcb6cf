/- Sum of package modp agrees with its reference for every integer and every list, and the list stays as it is. -/
import Derived.Test.YtikbgcpcbhoblaaPModpx3
import Derived.Test.YtikbgcpcbhoblaaFnb
namespace Go.Proofs.Ytikbgcpcbhoblaa.Pure
open Go.RowKit Go.Proofs.YtikbgcpcbhoblaaW.PrintWords Go.Proofs.Ytikbgcpcbhoblaa.PModp Go.Proofs.Ytikbgcpcbhoblaa.Md Go.Proofs.Ytikbgcpcbhoblaa.Fn

theorem ModpSums : toruslaw01_ModpSums.Pure := by
  intro p l _ _ hsz _
  refine Ev.rounds (g := fun k => toruslaw01_ModpSums.f k p l) ?_
  simp only [toruslaw01_ModpSums.f, copy_f l (by omega), Option.bind_some]
  have key : ∀ r : Int × Int, Ev (fun k => modp_Sum.f k p l) r → Ev (fun k => torusref01_Sum.f k p l) r → Ev (fun k => (modp_Sum.f k p l).bind fun bt156 => ((torusref01_Sum.f k p l).bind fun bt158 => (if bt156.1 = bt158.1 then (if bt156.2 = bt158.2 then ((torusref01_Same.f k l l).bind fun t160 => (if t160 = true then ((toruslaw01_awake.f k).bind fun t161 => (some t161)) else (some false))) else (some false)) else (some false)))) true := by
    intro r h1 h2
    rw [ev_bind h1, ev_bind h2]
    simp only [if_true]
    rw [ev_bind (same_ev l (by omega))]
    simp only [if_true]
    rw [ev_bind awake_ev]
    exact Ev.now _
  by_cases hp : IsP p
  · exact key _ (sum_ev hp l (by omega)) (rsum_ev hp l (by omega))
  · exact key _ (sum_no hp l) (rsum_no hp l)

end Go.Proofs.Ytikbgcpcbhoblaa.Pure
