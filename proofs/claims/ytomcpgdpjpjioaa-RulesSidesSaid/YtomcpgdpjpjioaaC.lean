/- Contact is the same both ways round. -/
import Derived.Test.YtomcpgdpjpjioaaB
namespace Go.Proofs.Ytomcpgdpjpjioaa
open Go.RowKit Go.Proofs

theorem touZ_comm (a b c d : Int) : touZ (a - c) (b - d) = touZ (c - a) (d - b) := by
  have e1 : ab (a - c) = ab (c - a) := by rw [← ab_neg]; congr 1; omega
  have e2 : ab (b - d) = ab (d - b) := by rw [← ab_neg]; congr 1; omega
  have e3 : sqd (a - c) (b - d) = sqd (c - a) (d - b) := by unfold sqd; rw [← ab_sq, ← ab_sq (b - d), e1, e2, ab_sq, ab_sq]
  unfold touZ; rw [e1, e2, e3]
end Go.Proofs.Ytomcpgdpjpjioaa
