/- A step towards BlakeCodesSaid: no conditions. -/
import Derived.Test.YtolcdmnjfiaheaaBlhCon
namespace Go.Proofs.Ytolcdmnjfiaheaa
open Go Go.Eng Go.Cod Go.Cha Go.Bla
set_option maxRecDepth 100000 in
theorem conBeg : Con Try.prog 11 gTrue0 := con_of_vcs fun args ps res h hp => by
  unfold gTrue0 at h
  split at h <;> cases h
  refine ⟨BEb, 200, rfl, eok (gs := [(12, gHash)]) ⟨conHash, trivial⟩, ?_⟩
  refine Eq.mpr vcBeg ?_
  decide +kernel
set_option maxRecDepth 100000 in
theorem ebl : EnvOk BEl := eok (gs := [(12, gHash), (14, gCode), (9, gSum), (11, gTrue0)]) ⟨conHash, conCode, conSum, conBeg, trivial⟩
end Go.Proofs.Ytolcdmnjfiaheaa
