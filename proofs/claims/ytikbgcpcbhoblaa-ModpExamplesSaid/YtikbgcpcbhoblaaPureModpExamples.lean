/- The chapter's examples of package modp hold (a closed statement, by computation). -/
import Derived.Test.YtikbgcpcbhoblaaPModpx11
namespace Go.Proofs.Ytikbgcpcbhoblaa.Pure
open Go.RowKit Go.Proofs.YtikbgcpcbhoblaaW.PrintWords Go.Proofs.Ytikbgcpcbhoblaa.PModp

theorem ModpExamples : toruslaw01_ModpExamples.Pure := ⟨700, by decide +kernel⟩

end Go.Proofs.Ytikbgcpcbhoblaa.Pure
