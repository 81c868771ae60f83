/- The examples of the chapter: closed facts. -/
import Derived.Test.YtcmlgiilifdnfaaDoorPT
namespace Go.Proofs.YtcmlgiilifdnfaaDoor
open Go.RowKit

def bGet : ByteArray := ⟨#[103, 101, 116]⟩
def bPut : ByteArray := ⟨#[112, 117, 116]⟩
def bAs : ByteArray := ⟨#[97, 47, 42]⟩
def bStar : ByteArray := ⟨#[42]⟩
def bAx : ByteArray := ⟨#[97, 47, 120]⟩
def bAy : ByteArray := ⟨#[97, 47, 121]⟩
def bB : ByteArray := ⟨#[98]⟩
def aw0 : St := ⟨true, [bGet], [bAs]⟩
def awS1 : St := ⟨false, [bStar], [bAx]⟩
def awL : List St := [aw0, awS1]
def awF : St := ⟨true, [bGet, bPut], [bAs, bB]⟩
def awT : ByteArray := ⟨#[100, 101, 110, 121, 32, 42, 32, 116, 47, 115, 101, 99, 114, 101, 116, 47, 120]⟩
theorem aw_d1 : decS awL bGet bAx = (false, 1) := by kernel_rfl
theorem aw_d2 : decS awL bGet bAy = (true, 0) := by kernel_rfl
theorem aw_d3 : decS awL bPut bAy = (false, -1) := by kernel_rfl
theorem aw_f : fmS awF = (⟨#[97, 108, 108, 111, 119, 32, 103, 101, 116, 44, 112, 117, 116, 32, 97, 47, 42, 44, 98]⟩, 0) := by kernel_rfl
theorem aw_p : parS awT = (⟨false, [⟨#[42]⟩], [⟨#[116, 47, 115, 101, 99, 114, 101, 116, 47, 120]⟩]⟩, 0) := by kernel_rfl
theorem aw_r : reduce [aw0, aw0] = [aw0] := by kernel_rfl
end Go.Proofs.YtcmlgiilifdnfaaDoor
