/- The data of the statements, as trees. No program in sight; no conditions. -/
import Derived.Test.YtdkjeodenbffnaaLM
namespace Go.Proofs.Ytdkjeodenbffnaa
open Go.RowKit
open Shp

abbrev GV.sig (i o : Int) : GV := .agg [.i i, .i o]
abbrev GV.word (s l : List Int) : GV := .agg [.ints s, .ints l]
abbrev GV.rows (xs : List (List Int)) : GV := .sl 1 (xs.map GV.ints)
abbrev GV.rows3 (xs : List (List (List Int))) : GV := .sl 1 (xs.map GV.rows)
abbrev GV.pair (a b : List Int) : GV := .agg [.ints a, .ints b]
abbrev GV.pairP (p : List Int × List Int) : GV := .pair p.1 p.2
abbrev GV.pairs (ps : List (List Int × List Int)) : GV := .sl 2 (ps.map GV.pairP)
abbrev GV.det (n : List (List Int)) (p : List (List Int × List Int)) : GV := .agg [.rows n, .pairs p]
abbrev GV.mach (n o : List (List Int)) : GV := .agg [.rows n, .rows o]
abbrev GV.clause (k : Int) (a b : List Int) : GV := .agg [.i k, .ints a, .ints b]
abbrev GV.clauseP (c : Int × List Int × List Int) : GV := .clause c.1 c.2.1 c.2.2
abbrev GV.clauses (cs : List (Int × List Int × List Int)) : GV := .sl 3 (cs.map GV.clauseP)
abbrev GV.guess (n : List (List (List Int))) (f : List Int) : GV := .agg [.rows3 n, .ints f]
abbrev GV.tree (n p : List Int) (l : List (List Int)) (m : List Int) : GV := .agg [.ints n, .ints p, .rows l, .ints m]

end Go.Proofs.Ytdkjeodenbffnaa
