/- The examples of the chapter, reckoned. -/
import Derived.Test.YtpkekfhnpcjgkaaDoorWB
import Derived.Test.YtpkekfhnpcjgkaaDoorW6
namespace Go.Proofs.YtpkekfhnpcjgkaaDoor
open Nw
def aw0 : Rule := ⟨false, 167837696, 16, 1, 65535⟩
def aw1 : Rule := ⟨true, 167772160, 8, 80, 443⟩
def aw2 : Rule := ⟨true, 167838208, 24, 80, 80⟩
theorem aw_ck1 : aw1.ck = 0 := by decide +kernel
theorem aw_ck2 : aw2.ck = 0 := by decide +kernel
theorem aw_ck3 : (Rule.mk false 1 31 1 1).ck = 1 := by decide +kernel
theorem aw_fm : fmS aw1 = (⟨#[97, 108, 108, 111, 119, 32, 49, 48, 46, 48, 46, 48, 46, 48, 47, 56, 32, 56, 48, 45, 52, 52, 51]⟩, 0) := by decide +kernel
theorem aw_tx : txS 167772161 = (⟨#[49, 48, 46, 48, 46, 48, 46, 49]⟩, 0) := by decide +kernel
theorem aw_ad : adS ⟨#[49, 48, 46, 49, 46, 50, 46, 51]⟩ = (167838211, 0) := by decide +kernel
theorem aw_ad2 : adS ⟨#[49, 48, 46, 49, 46, 50, 46, 48, 51]⟩ = (0, 1) := by decide +kernel
theorem aw_dead : deadI [aw0, aw1, aw2] 3 = [2] := by decide +kernel
theorem aw_d1 : decI [aw0, aw1, aw2] 167838211 80 = (false, 0) := by decide +kernel
theorem aw_d2 : decI [aw0, aw1, aw2] 167903233 443 = (true, 1) := by decide +kernel
theorem aw_d3 : decI [aw0, aw1, aw2] 167903233 22 = (false, -1) := by decide +kernel
theorem aw_c1 : aw1.cv aw2 = true := by decide +kernel
theorem aw_c2 : aw2.cv aw1 = false := by decide +kernel
theorem aw_m : aw2.mt 167838211 80 = true := by decide +kernel
theorem aw_p1 : pnS ⟨#[100, 101, 110, 121, 32, 49, 48, 46, 49, 46, 48, 46, 48, 47, 49, 54, 32, 49, 45, 54, 53, 53, 51, 53]⟩ = (aw0, 0) := by kernel_rfl
theorem aw_p2 : pnS ⟨#[100, 101, 110, 121, 32, 49, 48, 46, 49, 46, 48, 46, 49, 47, 49, 54, 32, 49, 45, 54, 53, 53, 51, 53]⟩ = (⟨false, 0, 0, 0, 0⟩, 1) := by kernel_rfl
end Go.Proofs.YtpkekfhnpcjgkaaDoor
