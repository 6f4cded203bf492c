/-
  The plain model: the windows in which a level is reached. No program is in sight.
-/
import Derived.Test.YtmhiohijpnmcpaaModelU
import Derived.Test.YtmhiohijpnmcpaaModelF
namespace Go.Proofs.Ytmhiohijpnmcpaa

def endV (hi : Bool) (m : Int) (ps : List Part) (ss : List Surge) (t : Int) : Int := if hi = true then highV m ps ss t else lowV m ps ss t
def wetF (hi : Bool) (m : Int) (ps : List Part) (ss : List Surge) (level : Int) : List Window := if foreOk m ps ss = true then winsOf (fun t => decide (level ≤ endV hi m ps ss t)) 2881 else []
theorem wetF_ok {hi : Bool} {m : Int} {ps : List Part} {ss : List Surge} {level : Int} (h : foreOk m ps ss = true) : wetF hi m ps ss level = winsOf (fun t => decide (level ≤ endV hi m ps ss t)) 2881 := if_pos h
theorem wetF_no {hi : Bool} {m : Int} {ps : List Part} {ss : List Surge} {level : Int} (h : foreOk m ps ss = false) : wetF hi m ps ss level = [] := if_neg (by rw [h]; exact Bool.false_ne_true)
theorem wetF_le (hi : Bool) (m : Int) (ps : List Part) (ss : List Surge) (level : Int) : (wetF hi m ps ss level).length ≤ 2881 := by
  unfold wetF
  split
  · exact winsOf_le _ _
  · simp

end Go.Proofs.Ytmhiohijpnmcpaa
