/- The law FlowCheck over lists and numbers alone. Condition: the reach of the row. -/
import Derived.Test.YtdbnlmhffbopoaaGvPure
import Derived.Test.YtdbnlmhffbopoaaGvOpen
namespace Go.Proofs.Ytdbnlmhffbopoaa.Xq
theorem FlowCheck_row (f g : List S44) (n : Int) (hf : f.length * 16 ≤ 140737488351232) (hg : g.length * 16 ≤ 140737488351232) : ∃ k, dataflowlaw29_FlowCheck.f k f g n = some true :=
  FlowCheck_pure f g n (by omega) (by omega)
end Go.Proofs.Ytdbnlmhffbopoaa.Xq
