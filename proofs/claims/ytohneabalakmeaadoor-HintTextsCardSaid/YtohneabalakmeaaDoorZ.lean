/- The laws of hints, and arguments that are structs. -/
import Derived.Test.YtohneabalakmeaaDoorY
import Derived.Test.YtohneabalakmeaaDoorArg
namespace Go.Proofs.YtohneabalakmeaaDoor
end Go.Proofs.YtohneabalakmeaaDoor
