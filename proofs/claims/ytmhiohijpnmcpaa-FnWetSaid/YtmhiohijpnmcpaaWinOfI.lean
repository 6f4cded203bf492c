/-
  Frames, one behind the other.
-/
import Derived.Test.YtmhiohijpnmcpaaWinApp
import Derived.Test.YtmhiohijpnmcpaaModelU
namespace Go.Proofs.Ytmhiohijpnmcpaa
open Go.RowKit

theorem Out.then_ {lo : Nat} {w w1 w2 : World} (h : Out lo w.heap.size w w1) (b : Below w.heap.size w1 w2) : Out lo w.heap.size w w2 :=
  ⟨b.os.trans h.os, b.tape.trans h.tape, b.output.trans h.output, Nat.le_trans h.size b.size, fun k hk ho => (b.block k hk).trans (h.block k hk ho)⟩

end Go.Proofs.Ytmhiohijpnmcpaa
