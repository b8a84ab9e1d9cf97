/- The lexer's examples, reckoned. No program in sight. -/
import Derived.Test.YtdafdoodegpdhaaDoorMB
namespace Go.Proofs.YtdafdoodegpdhaaDoor
open Go
set_option linter.unusedVariables false
set_option linter.unusedSimpArgs false

def exA : ByteArray := ⟨#[60, 66, 32, 99, 108, 97, 115, 115, 61, 120, 62, 97, 38, 108, 116, 59, 60, 47, 98, 32, 62]⟩
def exB : ByteArray := ⟨#[97, 60, 49, 32, 60, 33, 45, 45, 32, 60, 98, 62, 32, 45, 45, 62, 32, 98]⟩
set_option maxRecDepth 100000 in
theorem exA_anew : anewB exA = exA := by kernel_rfl
set_option maxRecDepth 100000 in
theorem exB_anew : anewB exB = exB := by kernel_rfl
set_option maxRecDepth 100000 in
theorem exA_toks : tokens exA.data.toList = [⟨2, [98], [], [(⟨#[99, 108, 97, 115, 115]⟩, ⟨#[120]⟩)], false, 0, 11⟩, ⟨1, [], [97, 60], [], false, 11, 16⟩, ⟨3, [98], [], [], false, 16, 21⟩] := by kernel_rfl
set_option maxRecDepth 100000 in
theorem exB_toks : tokens exB.data.toList = [⟨1, [], [97, 60, 49, 32, 32, 98], [], false, 0, 18⟩] := by kernel_rfl
end Go.Proofs.YtdafdoodegpdhaaDoor
