/- The printed texts on which the layer lru leans. -/
import Derived.Test.YtekbgpfpnjddgaaPLruLoadsx4
namespace Go.Proofs.Ytekbgpfpnjddgaa
end Go.Proofs.Ytekbgpfpnjddgaa
