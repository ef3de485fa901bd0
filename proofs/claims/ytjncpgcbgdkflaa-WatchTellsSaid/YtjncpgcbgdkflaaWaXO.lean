/- Watching a slot: what the law's end needs. -/
import Derived.Test.YtjncpgcbgdkflaaWaX
import Derived.Test.YtjncpgcbgdkflaaBackT
namespace Go.Proofs.Ytjncpgcbgdkflaa
end Go.Proofs.Ytjncpgcbgdkflaa
