/-
  The plain model: the lines of a text. No program is in sight.
-/
import Derived.Test.YtfdmkbdcabedoaaDoorModelK
namespace Go.Proofs.YtfdmkbdcabedoaaDoor

def newl : ByteArray := ⟨#[10]⟩
def none_ : ByteArray := ⟨#[]⟩
theorem splitL_ne (s d : ByteArray) : ∀ (n i f : Nat), 1 ≤ (splitL s d n i f).length
  | 0, _, _ => by simp [splitL]
  | n + 1, i, f => by
    have h1 := splitL_ne s d n (i + 1) f
    rw [splitL]
    split
    · simp
    · exact h1
/-- The last part is left out if it is empty. -/
def cutLast (l : List ByteArray) : List ByteArray := if l[l.length - 1]? = some none_ then l.dropLast else l
def linesV (s : ByteArray) : List ByteArray := cutLast (splitV s newl)
theorem linesV_len (s : ByteArray) : (linesV s).length ≤ s.size + 1 := by
  have := splitV_len s newl
  unfold linesV cutLast
  split
  · rw [List.length_dropLast]
    omega
  · exact this

end Go.Proofs.YtfdmkbdcabedoaaDoor
