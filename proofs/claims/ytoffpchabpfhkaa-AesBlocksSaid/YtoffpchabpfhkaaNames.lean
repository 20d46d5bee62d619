/- the numbers of types, by name -/
import Derived.Test.YtoffpchabpfhkaaRows
namespace Go.Proofs.Ytoffpchabpfhkaa
abbrev tInt : TypeId := 3
abbrev tU8 : TypeId := 5
abbrev tBytes : TypeId := 33
abbrev tA16 : TypeId := 54
abbrev tA4 : TypeId := 89
abbrev tWords : TypeId := 86
abbrev tKeys : TypeId := 88
abbrev tTables : TypeId := 96
end Go.Proofs.Ytoffpchabpfhkaa
