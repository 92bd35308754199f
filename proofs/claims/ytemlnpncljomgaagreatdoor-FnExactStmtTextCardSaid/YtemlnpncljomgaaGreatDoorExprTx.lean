import Derived.Test.YtemlnpncljomgaaGreatDoorExprTi
import Derived.Test.YtemlnpncljomgaaGreatDoorExprTs
import Derived.Test.YtemlnpncljomgaaGreatDoorExprOk
namespace Go.Proofs.YtemlnpncljomgaaGreatDoor
open Go.RowKit

theorem right_parts {a : Int × Int × ByteArray} {kids : Fr (Int × Int × ByteArray)} (h : rightN cntE a kids = true) : hereE a kids.len = true ∧ okNA cntE.here kids = true := by
  unfold rightN at h
  rw [okN_split, Bool.and_eq_true, Bool.and_eq_true, Bool.and_eq_true] at h
  exact ⟨h.1.1, h.1.2.2⟩

end Go.Proofs.YtemlnpncljomgaaGreatDoor
