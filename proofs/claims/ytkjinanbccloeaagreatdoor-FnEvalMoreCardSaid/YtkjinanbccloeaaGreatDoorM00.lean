/- A fact, hidden. -/
import Derived.Lib.Hide
namespace Go.Proofs.YtkjinanbccloeaaGreatDoor
theorem η {p : Prop} (h : p) : Go.RowKit.Hid p := h
end Go.Proofs.YtkjinanbccloeaaGreatDoor
