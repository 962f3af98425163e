/-
  What the law on GetVal wants: its contracts, and the laws' helpers.
-/
import Derived.Test.YtckfogpjljbelaaGetv
import Derived.Test.YtckfogpjljbelaaDecd
namespace Go.Proofs.Ytckfogpjljbelaa
end Go.Proofs.Ytckfogpjljbelaa
