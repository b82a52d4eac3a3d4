/- What a script means: its events, or the line and the error. -/
import Derived.Test.YtjeicglkanfbjaaDoorS
namespace Go.Proofs.YtjeicglkanfbjaaDoor
def skipS (t : List UInt8) : Bool := t.isEmpty || t.head? == some 35
def goS : List (List UInt8) → Int → List (Int × List Int) → Except (Int × Int) (List (Int × List Int))
  | [], _, acc => .ok acc
  | t :: r, i, acc =>
    if skipS t = true then goS r (i + 1) acc
    else if acc.length = 400 then .error (i + 1, 4)
    else match evS t with
      | .ok e => goS r (i + 1) (acc ++ [e])
      | .error c => .error (i + 1, c)
/-- What a script means. -/
def parseS (l : List UInt8) : Except (Int × Int) (List (Int × List Int)) := if 20000 < l.length then .error (0, 4) else goS (splitOn 10 l) 0 []
end Go.Proofs.YtjeicglkanfbjaaDoor
