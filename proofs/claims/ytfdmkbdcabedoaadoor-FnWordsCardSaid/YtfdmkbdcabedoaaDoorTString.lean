/-
  The contracts of the laws' helpers on slices of texts: markText, eqStringS, markStringS, heldStringS.
-/
import Derived.Test.YtfdmkbdcabedoaaDoorRows
import Derived.Test.YtfdmkbdcabedoaaDoorSlc
import Derived.Test.YtfdmkbdcabedoaaDoorModelT
import Derived.Laws.BytesString
namespace Go.Proofs.YtfdmkbdcabedoaaDoor
open Go.RowKit

/-- The one cell of a text. -/
def strAt (x : ByteArray) (_ : Nat) : Value := .string x
/-- The digits of a number above 0. -/
def digV (a : Int) : ByteArray := if _h : 0 < a then digV (a / 10) ++ ⟨#[UInt8.ofNat (48 + a % 10).toNat]⟩ else ⟨#[]⟩
termination_by a.toNat
decreasing_by omega
def markV (k : Int) : ByteArray := if 0 < k then ⟨#[109]⟩ ++ digV k else ⟨#[109, 48]⟩
theorem digV_step {a : Int} {s b : ByteArray} (h : b = digV a ++ s) (ha : 0 < a) : b = digV (a / 10) ++ (⟨#[UInt8.ofNat (48 + a % 10).toNat]⟩ ++ s) := by
  rw [h, digV, dif_pos ha, ByteArray.append_assoc]
theorem digV_end {a : Int} {s b : ByteArray} (h : b = digV a ++ s) (ha : ¬ 0 < a) : b = s := by
  rw [h, digV, dif_neg ha]
  exact ByteArray.empty_append
theorem infoString : (Tryd.prog.info? 9).map (fun i => (i.zero, i.size, i.bytes)) = some (some (.string ⟨#[]⟩), 1, 16) := by kernel_rfl


end Go.Proofs.YtfdmkbdcabedoaaDoor
