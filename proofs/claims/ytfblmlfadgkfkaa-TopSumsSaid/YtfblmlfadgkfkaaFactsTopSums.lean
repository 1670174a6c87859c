/- The closed facts of the row TopSums, one by one; own work. -/
import Derived.Test.YtfblmlfadgkfkaaRows
import Derived.JoinedOf
import Derived.KernelRfl
set_option linter.unusedVariables false
namespace Go.Proofs.Ytfblmlfadgkfkaa.factsTopSums
open Go
theorem k1 : (Rows.topSumsRow.wf (OpenSpec.ofChange Rows.topSumsSpec)) = true := by kernel_rfl
theorem k2 : (laidOutB Try.prog) = true := by kernel_rfl
theorem k3 : (mapsRowed Try.prog) = true := by kernel_rfl
theorem k4 : (Try.f3.params.all (Try.prog.readableRec ·)) = true := by kernel_rfl
theorem k5 : (namedTie Try.prog Rows.topSumsRow.named Rows.topSumsSpec.vars) = true := by kernel_rfl
theorem k6 : (Rows.topSumsRow.stops == []) = true := by kernel_rfl
theorem k7 : (Try.prog.stops == []) = true := by kernel_rfl
theorem k8 : (Rows.topSumsRow.knobs == []) = true := by kernel_rfl
theorem k9 : (Try.prog.stopKnobs == []) = true := by kernel_rfl
theorem k10 : (Rows.topSumsRow.inPlace == Try.prog.inPlace 3) = true := by kernel_rfl
theorem k11 : (Rows.topSumsRow.unfollowed == Try.prog.unfollowed 3) = true := by kernel_rfl
theorem k12 : (Rows.topSumsRow.recurses == Try.prog.recurses 3) = true := by kernel_rfl
theorem k13 : (Rows.topSumsRow.named == Try.prog.varsNamed 3) = true := by kernel_rfl
theorem k14 : (Rows.topSumsRow.maps == (Try.f3.params.toList ++ Rows.topSumsSpec.plain.varTypes Try.prog).any (Try.prog.mapsRec ·)) = true := by kernel_rfl
theorem k15 : (Rows.topSumsRow.ifaces == (Try.f3.params.toList ++ Rows.topSumsSpec.plain.varTypes Try.prog).any (Try.prog.ifacesRec ·)) = true := by kernel_rfl
theorem k16 : (Rows.topSumsRow.mapsOut == Try.prog.mapsAmong Try.f3.resultTypes.toList) = true := by kernel_rfl
theorem k17 : (Rows.topSumsRow.loops == (Try.f3.params.toList ++ Rows.topSumsSpec.plain.varTypes Try.prog).any (Try.prog.loopsFrom ·)) = true := by kernel_rfl
theorem k17b : (Rows.topSumsRow.wideKeys == (Try.f3.params.toList ++ Rows.topSumsSpec.plain.varTypes Try.prog ++ Try.f3.resultTypes.toList).any (Try.prog.wideKeysFrom ·)) = true := by kernel_rfl
theorem k18 : (Rows.topSumsSpec.vars.all (Try.prog.varReadable ·)) = true := by kernel_rfl
theorem k19 : (Try.f3.resultTypes.all (fun t => Try.prog.readableRec t && decide (t < Try.prog.types.size))) = true := by kernel_rfl
theorem k20 : (Rows.topSumsRow.ifacesOut == Try.f3.resultTypes.toList.any (Try.prog.ifacesRec ·)) = true := by kernel_rfl
theorem k21 : (Rows.topSumsRow.loopsOut == Try.f3.resultTypes.toList.any (Try.prog.loopsFrom ·)) = true := by kernel_rfl
theorem k22 : (Rows.topSumsRow.plainKeys == Try.prog.plainKeys) = true := by kernel_rfl
theorem k23 : (Rows.topSumsRow.shortTexts.isNone) = true := by kernel_rfl
theorem k23b : (Try.prog.stopsHeard) = true := by kernel_rfl
theorem k24 : (Try.prog.mayEnter) = true := by kernel_rfl
theorem k24b : (Rows.topSumsRow.lifted == Try.prog.liftsFinal) = true := by kernel_rfl
theorem k24c : (Try.prog.make == some Rows.topSumsRow.make) = true := by kernel_rfl
theorem k25 : (Rows.topSumsRow.kinds == (if Rows.topSumsRow.domain.isEmpty then [] else Try.f3.params.toList.map fun t => match Try.prog.underlying t with | some (.int k) => some k | _ => none)) = true := by kernel_rfl
theorem k26 : (Rows.topSumsRow.pinned == Rows.topSumsRow.pinnedBy) = true := by kernel_rfl
theorem k27 : (Rows.topSumsRow.veiled == (Try.f3.params.toList ++ Rows.topSumsSpec.plain.varTypes Try.prog ++ Try.f3.resultTypes.toList).any (Try.prog.veiledRec ·)) = true := by kernel_rfl
theorem k28 : (Rows.topSumsRow.veiledFits Try.prog Try.f3.params.toList (Try.f3.params.toList ++ Rows.topSumsSpec.plain.varTypes Try.prog ++ Try.f3.resultTypes.toList)) = true := by kernel_rfl
theorem named : Try.prog.funcNamed Rows.topSumsRow.func = some 3 := by kernel_rfl
theorem band {a b : Bool} (h : a = true) (k : b = true) : (a && b) = true := by rw [h, k]; rfl
set_option maxRecDepth 100000 in
theorem all : joinedFacts Try.prog 3 Try.f3 Rows.topSumsSpec Rows.topSumsRow = true := (band (band (band (band (band (band (band (band (band (band (band (band (band (band (band (band (band (band (band (band (band (band (band (band (band (band (band (band (band (band (band k1 k2) k3) k4) k5) k6) k7) k8) k9) k10) k11) k12) k13) k14) k15) k16) k17) k17b) k18) k19) k20) k21) k22) k23) k23b) k24) k24b) k24c) k25) k26) k27) k28)
end Go.Proofs.Ytfblmlfadgkfkaa.factsTopSums
