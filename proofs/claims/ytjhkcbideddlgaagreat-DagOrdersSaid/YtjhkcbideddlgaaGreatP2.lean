/- errors.As at a target '*api.Errno', by the entries of internal/reflectlite (turned from the guide's worked walk of errors.As); Told; is an error the one told? -/
import Derived.Test.YtjhkcbideddlgaaGreatP0
import Derived.WalkKit
import Derived.LaidEql
import Derived.Stop.Asserts
import Derived.RowKitTokens
set_option linter.unusedVariables false
set_option linter.unusedSimpArgs false
namespace Go.Proofs.YtjhkcbideddlgaaGreat
open Go.RowKit Go.Extern.Stop Go.Stop Go.Extern
end Go.Proofs.YtjhkcbideddlgaaGreat
