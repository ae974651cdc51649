/- The shelf: see the first one. No conditions. -/
import Derived.Test.YtlmacaenbililaaGreatDoorSh
namespace Go.Proofs.YtlmacaenbililaaGreatDoor
end Go.Proofs.YtlmacaenbililaaGreatDoor
