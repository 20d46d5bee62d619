/- the numbers of types, by name -/
import Derived.Test.YtlgeebnmonmdaaaRows
namespace Go.Proofs.Ytlgeebnmonmdaaa
abbrev tInt : TypeId := 3
abbrev tU8 : TypeId := 5
abbrev tBytes : TypeId := 26
abbrev tA16 : TypeId := 23
abbrev tA4 : TypeId := 91
abbrev tWords : TypeId := 88
abbrev tKeys : TypeId := 90
abbrev tTables : TypeId := 101
end Go.Proofs.Ytlgeebnmonmdaaa
