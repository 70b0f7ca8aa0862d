/- TopExpires: the row's facts, each for itself. -/
import Derived.Test.YtfhkhnoiolkkdaaGreatDoorRows
import Derived.Test.YtfhkhnoiolkkdaaGreatDoorTie
import Derived.Test.YtfhkhnoiolkkdaaGreatDoorCards
import Derived.SevenTiedAt
import Derived.LaidMore
import Derived.Stop.Joined
import Derived.Stop.LaidErr
namespace Go.Proofs.YtfhkhnoiolkkdaaGreatDoor
open Go Go.RowKit
set_option maxRecDepth 100000
theorem and_tt {a b : Bool} (h : a = true) (k : b = true) : (a && b) = true := by rw [h, k]; rfl
theorem topExpires_j0 : (Rows.topExpiresRow.wf (OpenSpec.ofChange Rows.topExpiresSpec)) = true := by kernel_rfl
theorem topExpires_j1 : (laidOutB Tryz.prog) = true := by kernel_rfl
theorem topExpires_j2 : (mapsRowed Tryz.prog) = true := by kernel_rfl
theorem topExpires_j3 : (Tryz.f3.params.all (Tryz.prog.readableRec ·)) = true := by kernel_rfl
theorem topExpires_j4 : (namedTie Tryz.prog Rows.topExpiresRow.named Rows.topExpiresSpec.vars) = true := by kernel_rfl
theorem topExpires_j5 : ((Rows.topExpiresRow.stops == [])) = true := by kernel_rfl
theorem topExpires_j6 : ((Tryz.prog.stops == [])) = true := by kernel_rfl
theorem topExpires_j7 : ((Rows.topExpiresRow.knobs == [])) = true := by kernel_rfl
theorem topExpires_j8 : ((Tryz.prog.stopKnobs == [])) = true := by kernel_rfl
theorem topExpires_j9 : ((Rows.topExpiresRow.inPlace == Tryz.prog.inPlace 3)) = true := by kernel_rfl
theorem topExpires_j10 : ((Rows.topExpiresRow.unfollowed == Tryz.prog.unfollowed 3)) = true := by kernel_rfl
theorem topExpires_j11 : ((Rows.topExpiresRow.recurses == Tryz.prog.recurses 3)) = true := by kernel_rfl
theorem topExpires_j12 : ((Rows.topExpiresRow.named == Tryz.prog.varsNamed 3)) = true := by kernel_rfl
theorem topExpires_j13 : ((Rows.topExpiresRow.maps == (Tryz.f3.params.toList ++ Rows.topExpiresSpec.plain.varTypes Tryz.prog).any (Tryz.prog.mapsRec ·))) = true := by kernel_rfl
theorem topExpires_j14 : ((Rows.topExpiresRow.ifaces == (Tryz.f3.params.toList ++ Rows.topExpiresSpec.plain.varTypes Tryz.prog).any (Tryz.prog.ifacesRec ·))) = true := by kernel_rfl
theorem topExpires_j15 : ((Rows.topExpiresRow.mapsOut == Tryz.prog.mapsAmong Tryz.f3.resultTypes.toList)) = true := by kernel_rfl
theorem topExpires_j16 : ((Rows.topExpiresRow.loops == (Tryz.f3.params.toList ++ Rows.topExpiresSpec.plain.varTypes Tryz.prog).any (Tryz.prog.loopsFrom ·))) = true := by kernel_rfl
theorem topExpires_j17 : ((Rows.topExpiresRow.wideKeys == (Tryz.f3.params.toList ++ Rows.topExpiresSpec.plain.varTypes Tryz.prog ++ Tryz.f3.resultTypes.toList).any (Tryz.prog.wideKeysFrom ·))) = true := by kernel_rfl
theorem topExpires_j18 : (Rows.topExpiresSpec.vars.all (Tryz.prog.varReadable ·)) = true := by kernel_rfl
theorem topExpires_j19 : (Tryz.f3.resultTypes.all (fun t => Tryz.prog.readableRec t && decide (t < Tryz.prog.types.size))) = true := by kernel_rfl
theorem topExpires_j20 : ((Rows.topExpiresRow.ifacesOut == Tryz.f3.resultTypes.toList.any (Tryz.prog.ifacesRec ·))) = true := by kernel_rfl
theorem topExpires_j21 : ((Rows.topExpiresRow.loopsOut == Tryz.f3.resultTypes.toList.any (Tryz.prog.loopsFrom ·))) = true := by kernel_rfl
theorem topExpires_j22 : ((Rows.topExpiresRow.plainKeys == Tryz.prog.plainKeys)) = true := by kernel_rfl
theorem topExpires_j23 : (Rows.topExpiresRow.shortTexts.isNone) = true := by kernel_rfl
theorem topExpires_j24 : (Tryz.prog.stopsHeard) = true := by kernel_rfl
theorem topExpires_j25 : (Tryz.prog.mayEnter) = true := by kernel_rfl
theorem topExpires_j26 : ((Rows.topExpiresRow.lifted == Tryz.prog.liftsFinal)) = true := by kernel_rfl
theorem topExpires_j27 : ((Tryz.prog.make == some Rows.topExpiresRow.make)) = true := by kernel_rfl
theorem topExpires_j28 : ((Rows.topExpiresRow.kinds == (if Rows.topExpiresRow.domain.isEmpty then [] else Tryz.f3.params.toList.map fun t => match Tryz.prog.underlying t with | some (.int k) => some k | _ => none))) = true := by kernel_rfl
theorem topExpires_j29 : ((Rows.topExpiresRow.pinned == Rows.topExpiresRow.pinnedBy)) = true := by kernel_rfl
theorem topExpires_j30 : ((Rows.topExpiresRow.veiled == (Tryz.f3.params.toList ++ Rows.topExpiresSpec.plain.varTypes Tryz.prog ++ Tryz.f3.resultTypes.toList).any (Tryz.prog.veiledRec ·))) = true := by kernel_rfl
theorem topExpires_j31 : (Rows.topExpiresRow.veiledFits Tryz.prog Tryz.f3.params.toList (Tryz.f3.params.toList ++ Rows.topExpiresSpec.plain.varTypes Tryz.prog ++ Tryz.f3.resultTypes.toList)) = true := by kernel_rfl
theorem topExpires_joined : joinedFacts Tryz.prog 3 Tryz.f3 Rows.topExpiresSpec Rows.topExpiresRow = true := by
  unfold joinedFacts
  exact and_tt (and_tt (and_tt (and_tt (and_tt (and_tt (and_tt (and_tt (and_tt (and_tt (and_tt (and_tt (and_tt (and_tt (and_tt (and_tt (and_tt (and_tt (and_tt (and_tt (and_tt (and_tt (and_tt (and_tt (and_tt (and_tt (and_tt (and_tt (and_tt (and_tt (and_tt (topExpires_j0) topExpires_j1) topExpires_j2) topExpires_j3) topExpires_j4) topExpires_j5) topExpires_j6) topExpires_j7) topExpires_j8) topExpires_j9) topExpires_j10) topExpires_j11) topExpires_j12) topExpires_j13) topExpires_j14) topExpires_j15) topExpires_j16) topExpires_j17) topExpires_j18) topExpires_j19) topExpires_j20) topExpires_j21) topExpires_j22) topExpires_j23) topExpires_j24) topExpires_j25) topExpires_j26) topExpires_j27) topExpires_j28) topExpires_j29) topExpires_j30) topExpires_j31

end Go.Proofs.YtfhkhnoiolkkdaaGreatDoor
