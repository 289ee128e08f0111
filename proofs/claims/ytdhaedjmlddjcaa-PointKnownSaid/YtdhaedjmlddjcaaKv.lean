/- The first products of the base point, by the kernel. No conditions. Printed by wip/known.py. -/
import Derived.Test.YtdhaedjmlddjcaaAwake
namespace Go.Proofs.Ytdhaedjmlddjcaa
open Go.RowKit Go.Mono Go.Num
set_option maxRecDepth 100000
def kx0 : Nat := 0
def ky0 : Nat := 1
def ks0 : ByteArray := ⟨#[48, 49, 48, 48, 48, 48, 48, 48, 48, 48, 48, 48, 48, 48, 48, 48, 48, 48, 48, 48, 48, 48, 48, 48, 48, 48, 48, 48, 48, 48, 48, 48, 48, 48, 48, 48, 48, 48, 48, 48, 48, 48, 48, 48, 48, 48, 48, 48, 48, 48, 48, 48, 48, 48, 48, 48, 48, 48, 48, 48, 48, 48, 48, 48]⟩
theorem ks0_eq : (⟨#[48, 49, 48, 48, 48, 48, 48, 48, 48, 48, 48, 48, 48, 48, 48, 48, 48, 48, 48, 48, 48, 48, 48, 48, 48, 48, 48, 48, 48, 48, 48, 48, 48, 48, 48, 48, 48, 48, 48, 48, 48, 48, 48, 48, 48, 48, 48, 48, 48, 48, 48, 48, 48, 48, 48, 48, 48, 48, 48, 48, 48, 48, 48, 48]⟩ : ByteArray) = ks0 := rfl
theorem kmx0 : mulX 0 baseX baseY = kx0 := by decide +kernel
theorem kmy0 : mulY 0 baseX baseY = ky0 := by decide +kernel
theorem kon0 : onB kx0 ky0 = true := by decide +kernel
theorem kb0 : btext (hexAt (pbyte kx0 ky0)) 64 = ks0.data.toList := by decide +kernel
theorem klt0 : kx0 < p ∧ ky0 < p := by decide +kernel
def kx1 : Nat := 15112221349535400772501151409588531511454012693041857206046113283949847762202
def ky1 : Nat := 46316835694926478169428394003475163141307993866256225615783033603165251855960
def ks1 : ByteArray := ⟨#[53, 56, 54, 54, 54, 54, 54, 54, 54, 54, 54, 54, 54, 54, 54, 54, 54, 54, 54, 54, 54, 54, 54, 54, 54, 54, 54, 54, 54, 54, 54, 54, 54, 54, 54, 54, 54, 54, 54, 54, 54, 54, 54, 54, 54, 54, 54, 54, 54, 54, 54, 54, 54, 54, 54, 54, 54, 54, 54, 54, 54, 54, 54, 54]⟩
theorem ks1_eq : (⟨#[53, 56, 54, 54, 54, 54, 54, 54, 54, 54, 54, 54, 54, 54, 54, 54, 54, 54, 54, 54, 54, 54, 54, 54, 54, 54, 54, 54, 54, 54, 54, 54, 54, 54, 54, 54, 54, 54, 54, 54, 54, 54, 54, 54, 54, 54, 54, 54, 54, 54, 54, 54, 54, 54, 54, 54, 54, 54, 54, 54, 54, 54, 54, 54]⟩ : ByteArray) = ks1 := rfl
theorem kmx1 : mulX 1 baseX baseY = kx1 := by decide +kernel
theorem kmy1 : mulY 1 baseX baseY = ky1 := by decide +kernel
theorem kon1 : onB kx1 ky1 = true := by decide +kernel
theorem kb1 : btext (hexAt (pbyte kx1 ky1)) 64 = ks1.data.toList := by decide +kernel
theorem klt1 : kx1 < p ∧ ky1 < p := by decide +kernel
def kx2 : Nat := 24727413235106541002554574571675588834622768167397638456726423682521233608206
def ky2 : Nat := 15549675580280190176352668710449542251549572066445060580507079593062643049417
def ks2 : ByteArray := ⟨#[99, 57, 97, 51, 102, 56, 54, 97, 97, 101, 52, 54, 53, 102, 48, 101, 53, 54, 53, 49, 51, 56, 54, 52, 53, 49, 48, 102, 51, 57, 57, 55, 53, 54, 49, 102, 97, 50, 99, 57, 101, 56, 53, 101, 97, 50, 49, 100, 99, 50, 50, 57, 50, 51, 48, 57, 102, 51, 99, 100, 54, 48, 50, 50]⟩
theorem ks2_eq : (⟨#[99, 57, 97, 51, 102, 56, 54, 97, 97, 101, 52, 54, 53, 102, 48, 101, 53, 54, 53, 49, 51, 56, 54, 52, 53, 49, 48, 102, 51, 57, 57, 55, 53, 54, 49, 102, 97, 50, 99, 57, 101, 56, 53, 101, 97, 50, 49, 100, 99, 50, 50, 57, 50, 51, 48, 57, 102, 51, 99, 100, 54, 48, 50, 50]⟩ : ByteArray) = ks2 := rfl
theorem kmx2 : mulX 2 baseX baseY = kx2 := by decide +kernel
theorem kmy2 : mulY 2 baseX baseY = ky2 := by decide +kernel
theorem kon2 : onB kx2 ky2 = true := by decide +kernel
theorem kb2 : btext (hexAt (pbyte kx2 ky2)) 64 = ks2.data.toList := by decide +kernel
theorem klt2 : kx2 < p ∧ ky2 < p := by decide +kernel
def kx3 : Nat := 46896733464454938657123544595386787789046198280132665686241321779790909858396
def ky3 : Nat := 8324843778533443976490377120369201138301417226297555316741202210403726505172
def ks3 : ByteArray := ⟨#[100, 52, 98, 52, 102, 53, 55, 56, 52, 56, 54, 56, 99, 51, 48, 50, 48, 52, 48, 51, 50, 52, 54, 55, 49, 55, 101, 99, 49, 54, 57, 102, 102, 55, 57, 101, 50, 54, 54, 48, 56, 101, 97, 49, 50, 54, 97, 49, 97, 98, 54, 57, 101, 101, 55, 55, 100, 49, 98, 49, 54, 55, 49, 50]⟩
theorem ks3_eq : (⟨#[100, 52, 98, 52, 102, 53, 55, 56, 52, 56, 54, 56, 99, 51, 48, 50, 48, 52, 48, 51, 50, 52, 54, 55, 49, 55, 101, 99, 49, 54, 57, 102, 102, 55, 57, 101, 50, 54, 54, 48, 56, 101, 97, 49, 50, 54, 97, 49, 97, 98, 54, 57, 101, 101, 55, 55, 100, 49, 98, 49, 54, 55, 49, 50]⟩ : ByteArray) = ks3 := rfl
theorem kmx3 : mulX 3 baseX baseY = kx3 := by decide +kernel
theorem kmy3 : mulY 3 baseX baseY = ky3 := by decide +kernel
theorem kon3 : onB kx3 ky3 = true := by decide +kernel
theorem kb3 : btext (hexAt (pbyte kx3 ky3)) 64 = ks3.data.toList := by decide +kernel
theorem klt3 : kx3 < p ∧ ky3 < p := by decide +kernel
/-- What the text of point k is. -/
def kst : Nat → ByteArray
  | 0 => ks0
  | 1 => ks1
  | 2 => ks2
  | _ => ks3
theorem known (k : Nat) (hk : k < 4) : onB (mulX k baseX baseY) (mulY k baseX baseY) = true ∧ bstr (hexAt (pbyte (mulX k baseX baseY) (mulY k baseX baseY))) 64 = kst k := by
  have h : k = 0 ∨ k = 1 ∨ k = 2 ∨ k = 3 := by omega
  rcases h with rfl | rfl | rfl | rfl
  · rw [kmx0, kmy0]
    exact ⟨kon0, by unfold bstr; rw [kb0]; rfl⟩
  · rw [kmx1, kmy1]
    exact ⟨kon1, by unfold bstr; rw [kb1]; rfl⟩
  · rw [kmx2, kmy2]
    exact ⟨kon2, by unfold bstr; rw [kb2]; rfl⟩
  · rw [kmx3, kmy3]
    exact ⟨kon3, by unfold bstr; rw [kb3]; rfl⟩
end Go.Proofs.Ytdhaedjmlddjcaa
