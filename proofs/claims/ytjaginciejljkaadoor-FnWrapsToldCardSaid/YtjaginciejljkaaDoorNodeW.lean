/- Key words and chain marks. By mk_nodei.py. -/
import Derived.Test.YtjaginciejljkaaDoorNodeP
namespace Go.Proofs.YtjaginciejljkaaDoor
open Go.RowKit

def chainW (s : ByteArray) : Bool := inMarks chainMs s
end Go.Proofs.YtjaginciejljkaaDoor
