/- The law of fields' hints, and arguments that are structs. -/
import Derived.Test.YtohneabalakmeaaDoorZL
import Derived.Test.YtohneabalakmeaaDoorArg
namespace Go.Proofs.YtohneabalakmeaaDoor
end Go.Proofs.YtohneabalakmeaaDoor
