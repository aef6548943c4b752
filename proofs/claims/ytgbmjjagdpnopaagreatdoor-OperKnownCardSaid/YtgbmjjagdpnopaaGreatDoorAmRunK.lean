/- OperKnown by the kernel's run of the machine: true. -/
import Derived.Test.YtgbmjjagdpnopaaGreatDoorAmCfgA
namespace Go.Am
def outB (x : Option (AV × AHeap)) : Bool := match x with
  | some (.bool b, _) => b
  | _ => false
theorem outB_true {x : Option (AV × AHeap)} (h : outB x = true) : ∃ h', x = some (.bool true, h') := by
  unfold outB at h
  split at h
  · subst h; exact ⟨_, rfl⟩
  · cases h
theorem operKnown_run : outB (callA cfg0 300 3 [] .empty) = true := by kernel_rfl
end Go.Am
