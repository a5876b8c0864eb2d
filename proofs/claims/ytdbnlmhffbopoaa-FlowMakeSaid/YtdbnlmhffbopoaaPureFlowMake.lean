/- The law FlowMake over lists and numbers alone: for every number and every two lists of numbers the printed function of the law answers true with enough rounds. No condition. -/
import Derived.Test.YtdbnlmhffbopoaaGvPure2
namespace Go.Proofs.Ytdbnlmhffbopoaa.Pure
open Go.RowKit Go.Proofs.Ytdbnlmhffbopoaa.Xq Go.Proofs.YtdbnlmhffbopoaaW.PrintWords Go.Proofs.YtdbnlmhffbopoaaW.PrintLast
theorem FlowMake : dataflowlaw29_FlowMake.Pure := fun a0 l1 l2 _ _ _ _ _ _ _ => FlowMake_pure a0 l1 l2
end Go.Proofs.Ytdbnlmhffbopoaa.Pure
