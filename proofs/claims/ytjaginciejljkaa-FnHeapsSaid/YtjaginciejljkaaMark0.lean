/- For a seat whose laws mark no text. -/
import Derived.Test.YtjaginciejljkaaBase
namespace Go.Proofs.Ytjaginciejljkaa
open Go.RowKit

theorem keep1 {w w0 w' : World} {p : Addr} {u : Value} (h : w0.cell? p = some u ∧ Below w.heap.size w w0) (hb : Below w0.heap.size w0 w') : w'.cell? p = some u ∧ Below w.heap.size w w' :=
  ⟨(hb.cell (World.block_lt_of_cell? w0 p h.1)).trans h.1, h.2.trans (hb.mono h.2.size)⟩
end Go.Proofs.Ytjaginciejljkaa
