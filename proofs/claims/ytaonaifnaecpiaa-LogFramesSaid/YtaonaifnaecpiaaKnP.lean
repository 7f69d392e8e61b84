/- The fixed calls of dayshiftlaw04, as plain functions. No conditions. -/
import Derived.Test.YtaonaifnaecpiaaOpen
import Derived.Test.YtaonaifnaecpiaaLin
namespace Go.Proofs.Ytaonaifnaecpiaa.Own
open Go.RowKit
def kp1 : PD := (lapR pnew 1 0 false [97]).2.1
def kp2 : PD := (lapR kp1 2 1 false [98]).2.1
def kp3 : PD := pcrash kp2 []
def kp4 : PD := (openR kp3).2.1
def kp5 : PD := (linR kp4 3 2 false [115]).2.1
theorem kn_open0 : (openR pnew).1 = 0 ∧ (openR pnew).2.2.1 = 1 ∧ (openR pnew).2.2.2.2.length = 0 := ⟨by kernel_rfl, by kernel_rfl, by kernel_rfl⟩
theorem kn_app1 : (lapR pnew 1 0 false [97]).1 = 0 ∧ (lapR pnew 1 0 false [97]).2.2 = (2, 1, false) := ⟨by kernel_rfl, by kernel_rfl⟩
theorem kn_app2 : (lapR kp1 2 1 false [98]).1 = 0 ∧ (lapR kp1 2 1 false [98]).2.2 = (3, 2, false) := ⟨by kernel_rfl, by kernel_rfl⟩
theorem kn_open1 : (openR kp3).1 = 0 ∧ (openR kp3).2.2 = (3, [], [[97], [98]]) := ⟨by kernel_rfl, by kernel_rfl⟩
theorem kn_ins : (linR kp4 3 2 false [115]).1 = 0 ∧ (linR kp4 3 2 false [115]).2.2 = (3, 0, false) := ⟨by kernel_rfl, by kernel_rfl⟩
theorem kn_open2 : (openR kp5).1 = 0 ∧ (openR kp5).2.2 = (3, [115], []) := ⟨by kernel_rfl, by kernel_rfl⟩
theorem kn_crc : crc (nb [49, 50, 51, 52, 53, 54, 55, 56, 57]) = 3421780262 := by kernel_rfl
end Go.Proofs.Ytaonaifnaecpiaa.Own
