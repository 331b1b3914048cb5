/- A function's text, from a region on: long walks in pieces. -/
import Derived.Test.YtanpbimamdjdfaaBase
import Derived.Deep.Cut
namespace Go.Proofs.Ytanpbimamdjdfaa
open Go.RowKit
def headIs (n : Nat) : Code → Bool
  | .region k _ _ => k == n
  | _ => false
/-- What begins with region n. -/
def atRegion (n : Nat) : Code → Option Code
  | .seq a b => if headIs n a then some (.seq a b) else match atRegion n a with
    | some c => some c
    | none => atRegion n b
  | .block _ c => atRegion n c
  | .scope c => atRegion n c
  | .loop c => atRegion n c
  | .cond _ a b => match atRegion n a with
    | some c => some c
    | none => atRegion n b
  | c => if headIs n c then some c else none
def seqA : Code → Code
  | .seq a _ => a
  | c => c
def seqB : Code → Code
  | .seq _ b => b
  | _ => .skip
end Go.Proofs.Ytanpbimamdjdfaa
