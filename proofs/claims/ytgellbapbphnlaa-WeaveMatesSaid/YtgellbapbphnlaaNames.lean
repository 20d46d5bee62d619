/- the numbers of types, by name -/
import Derived.Test.YtgellbapbphnlaaRows
namespace Go.Proofs.Ytgellbapbphnlaa
abbrev tInt : TypeId := 3
abbrev tU8 : TypeId := 5
abbrev tBytes : TypeId := 33
abbrev tA16 : TypeId := 36
abbrev tA4 : TypeId := 108
abbrev tWords : TypeId := 107
abbrev tKeys : TypeId := 121
abbrev tTables : TypeId := 143
end Go.Proofs.Ytgellbapbphnlaa
