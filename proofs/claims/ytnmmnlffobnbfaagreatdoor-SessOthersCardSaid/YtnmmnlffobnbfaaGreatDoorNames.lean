/- the numbers of types, by name -/
import Derived.Test.YtnmmnlffobnbfaaGreatDoorRows
namespace Go.Proofs.YtnmmnlffobnbfaaGreatDoor
abbrev tInt : TypeId := 3
abbrev tU8 : TypeId := 5
abbrev tBytes : TypeId := 23
abbrev tA16 : TypeId := 100
abbrev tA4 : TypeId := 190
abbrev tWords : TypeId := 189
abbrev tKeys : TypeId := 208
abbrev tTables : TypeId := 217
end Go.Proofs.YtnmmnlffobnbfaaGreatDoor
