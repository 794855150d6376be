/- What tells two matrices apart, as a text. -/
import Derived.Test.YtnoghnalopdflaaThA
import Derived.Test.YtnoghnalopdflaaGroup
import Derived.Test.YtnoghnalopdflaaSSignOf
namespace Go.Proofs.Ytnoghnalopdflaa
open Go.RowKit
set_option linter.all false
def txtPoly : ByteArray := ⟨#[112, 111, 108, 121]⟩
def txtGroup : ByteArray := ⟨#[103, 114, 111, 117, 112]⟩
def txtSign : ByteArray := ⟨#[115, 105, 103, 110]⟩
def txtNone : ByteArray := ⟨#[110, 111, 110, 101]⟩
def differs (a b : List (List Int)) : ByteArray :=
  if isSmallM a = false then ⟨#[]⟩ else if isSmallM b = false then ⟨#[]⟩ else if sameZ a b = false then txtPoly else if eqL (groupV a) (groupV b) = false then txtGroup else if signOf a = signOf b then txtNone else txtSign
theorem ret_str {a b : ByteArray} (h : a = b) : Ending.returned (.string a) = .returned (.string b) := by rw [h]
end Go.Proofs.Ytnoghnalopdflaa
