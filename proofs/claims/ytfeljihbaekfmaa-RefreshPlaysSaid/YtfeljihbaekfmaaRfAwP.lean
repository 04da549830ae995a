/-
  The chapter's examples, as states. No program.
-/
import Derived.Test.YtfeljihbaekfmaaRfOp
import Derived.KernelRfl
namespace Go.Proofs.Ytfeljihbaekfmaa.Rf
open Go.RowKit Go.Proofs.Ytfeljihbaekfmaa.Fo

def gA : Gr := mkG ⟨#[97, 110, 110]⟩ ⟨#[119, 101, 98]⟩ ⟨#[115]⟩ [⟨#[109, 97, 105, 108]⟩]
def aw0 : St := ⟨10, 100, []⟩
def aw1 : St := ⟨10, 100, [⟨⟨#[102, 49]⟩, gA, [⟨#[97]⟩], 15, 105, false⟩]⟩
def aw2 : St := ⟨10, 100, [⟨⟨#[102, 49]⟩, gA, [⟨#[97]⟩, ⟨#[98]⟩], 16, 105, false⟩]⟩
def aw3 : St := ⟨10, 100, [⟨⟨#[102, 49]⟩, gA, [⟨#[97]⟩, ⟨#[98]⟩], 16, 105, true⟩]⟩
def aw4 : St := ⟨10, 100, [⟨⟨#[102, 49]⟩, gA, [⟨#[97]⟩, ⟨#[98]⟩], 16, 105, true⟩, ⟨⟨#[102, 51]⟩, gA, [⟨#[122]⟩], 15, 105, false⟩]⟩
def aw5 : St := ⟨10, 100, [⟨⟨#[102, 49]⟩, gA, [⟨#[97]⟩, ⟨#[98]⟩], 16, 105, true⟩, ⟨⟨#[102, 51]⟩, gA, [⟨#[122]⟩], 15, 105, true⟩]⟩
def gR : Gr := mkG ⟨#[97, 110, 110]⟩ ⟨#[119, 101, 98]⟩ ⟨#[115]⟩ [⟨#[109, 97, 105, 108, 46, 114, 101, 97, 100]⟩]
theorem aw_start1 : start aw0 ⟨#[102, 49]⟩ ⟨#[97]⟩ gA 5 = (aw1, 0) := by kernel_rfl
theorem aw_start2 : start aw1 ⟨#[102, 50]⟩ ⟨#[97]⟩ gA 5 = (aw1, 7) := by kernel_rfl
theorem aw_live1 : liveI aw1 ⟨#[102, 49]⟩ 14 = true := by kernel_rfl
theorem aw_live2 : liveI aw1 ⟨#[102, 49]⟩ 15 = false := by kernel_rfl
theorem aw_rot1 : rot aw1 ⟨#[97]⟩ ⟨#[98]⟩ ⟨#[119, 101, 98]⟩ [⟨#[102, 105, 108, 101, 115]⟩] 6 = (aw1, (noG, 19)) := by kernel_rfl
theorem aw_rot2 : rot aw1 ⟨#[97]⟩ ⟨#[98]⟩ ⟨#[119, 101, 98]⟩ [⟨#[109, 97, 105, 108, 46, 114, 101, 97, 100]⟩] 6 = (aw2, (gR, 0)) := by kernel_rfl
theorem aw_rot3 : rot aw2 ⟨#[97]⟩ ⟨#[99]⟩ ⟨#[119, 101, 98]⟩ [] 7 = (aw3, (noG, 18)) := by kernel_rfl
theorem aw_rot4 : rot aw3 ⟨#[98]⟩ ⟨#[99]⟩ ⟨#[119, 101, 98]⟩ [] 7 = (aw3, (noG, 25)) := by kernel_rfl
theorem aw_start3 : start aw3 ⟨#[102, 51]⟩ ⟨#[122]⟩ gA 5 = (aw4, 0) := by kernel_rfl
theorem aw_fam : famT aw4 ⟨#[98]⟩ = some ⟨#[102, 49]⟩ := by kernel_rfl
theorem aw_len : lenS aw4 6 = 1 := by kernel_rfl
theorem aw_rev1 : endS (isId ⟨#[102, 51]⟩) aw4 = aw5 := by kernel_rfl
theorem aw_rev1n : decide (endN (isId ⟨#[102, 51]⟩) aw4 = 1) = true := by kernel_rfl
theorem aw_rev2 : endS (isId ⟨#[102, 51]⟩) aw5 = aw5 := by kernel_rfl
theorem aw_rev2n : decide (endN (isId ⟨#[102, 51]⟩) aw5 = 1) = false := by kernel_rfl
theorem aw_usr : endN (isUsr ⟨#[97, 110, 110]⟩) aw5 = 0 := by kernel_rfl
end Go.Proofs.Ytfeljihbaekfmaa.Rf
