/- Every bytes are read the same by the program and by the document's answer: as a reply, or as none. -/
import Derived.Test.YtgfkcmmhnibaiaaHdLaw
namespace Go.Proofs.Ytgfkcmmhnibaiaa.Pure
open Go.RowKit Go.Proofs.Ytgfkcmmhnibaiaa.PRpd Go.Proofs.YtgfkcmmhnibaiaaW.PrintWords Go.Proofs.YtgfkcmmhnibaiaaW.PrintLast
theorem ReplyReads : dogwatchlaw12_ReplyReads.Pure := fun l _ _ hw => ReplyReads_is l (fun x hx => wf8 (hw x hx))
end Go.Proofs.Ytgfkcmmhnibaiaa.Pure
