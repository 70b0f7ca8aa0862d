/- The law IpReads: any bytes are the document's packet, or have its first error. -/
import Derived.Test.YtfkhnhenemgcmaaDoorIpRParse
import Derived.Test.YtfkhnhenemgcmaaDoorIpRSame
set_option linter.unusedVariables false
set_option maxRecDepth 100000
set_option linter.unusedSimpArgs false
namespace Go.Proofs.YtfkhnhenemgcmaaDoor
open Go.RowKit
theorem parseIp_head {w : World} {oa : Option Addr} {l c : Nat} {xs : Nat → Int} (hB : Bts w oa l c xs) (h : parseErr xs l = 0) : HeadP (parseIp xs) := by
  have hl : lenErr xs l = 0 := by
    unfold parseErr at h
    split at h
    · exact h
    · rename_i h1; simpa using h1
  obtain ⟨k1, k0, k2, k3, k4, k5, _⟩ := lenErr_zero hl
  have x0 := hB.byte 0 (by omega); have x1 := hB.byte 1 (by omega); have x2 := hB.byte 2 (by omega); have x3 := hB.byte 3 (by omega); have x4 := hB.byte 4 (by omega); have x5 := hB.byte 5 (by omega)
  have x6 := hB.byte 6 (by omega); have x7 := hB.byte 7 (by omega); have x8 := hB.byte 8 (by omega); have x9 := hB.byte 9 (by omega)
  unfold ipSize at k2 k3 k4
  unfold ipTotal at k4 k5
  refine ⟨?_, ?_, ?_, ?_, ?_, ?_, ?_⟩
  all_goals simp only [parseIp, mkIp, ipFlags, ipSize, ipTotal]
  all_goals omega
theorem zeroIp_head : HeadP zeroIp := ⟨by decide, by decide, by decide, by decide, by decide, by decide, by decide⟩
theorem zeroIp_at (w : World) : IpAt w zeroIp none 0 none 0 := ⟨bts_none _ _, bts_none _ _, by decide, by decide⟩
end Go.Proofs.YtfkhnhenemgcmaaDoor
