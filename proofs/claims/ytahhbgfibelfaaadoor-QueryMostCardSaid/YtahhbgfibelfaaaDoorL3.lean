import Derived.Test.YtahhbgfibelfaaaDoorL2
namespace Go.Proofs.YtahhbgfibelfaaaDoor
open Go.RowKit Go.Lib
set_option linter.unusedVariables false



def numRet : Option Nat → Ending
  | some v => .returned (.tuple #[.int .i64 v, .bool true])
  | none => .returned (.tuple #[.int .i64 0, .bool false])

end Go.Proofs.YtahhbgfibelfaaaDoor
