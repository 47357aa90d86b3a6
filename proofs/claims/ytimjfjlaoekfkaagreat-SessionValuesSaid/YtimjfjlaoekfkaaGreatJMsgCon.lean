/- Steps towards SessionValuesSaid. -/
import Derived.Test.YtimjfjlaoekfkaaGreatJPolCon
import Derived.Test.YtimjfjlaoekfkaaGreatJChaVc
import Derived.Test.YtimjfjlaoekfkaaGreatJDbcVc
import Derived.Test.YtimjfjlaoekfkaaGreatJDazCon
/- A step towards SessionValuesSaid: no conditions. -/

namespace Go.Proofs.YtimjfjlaoekfkaaGreat
open Go Go.Eng Go.Cod Go.Msg
abbrev b4 (n : UInt32) : List UInt8 := [(shr64 n.toUInt64 0).toUInt8, (shr64 n.toUInt64 8).toUInt8, (shr64 n.toUInt64 16).toUInt8, (shr64 n.toUInt64 24).toUInt8]
theorem tranR_16 {r : UInt32} {c : UInt64} {b : List UInt8} (h : b.length < 16) : tranR r c b = [] ∧ tranE b = 2 := by simp [tranR, tranE, h]
theorem tranR_big {r : UInt32} {c : UInt64} {b : List UInt8} (h1 : ¬ b.length < 16) (h : 2084 < b.length) : tranR r c b = [] ∧ tranE b = 3 := by simp [tranR, tranE, h, h1]
theorem tranR_ok {r : UInt32} {c : UInt64} {b : List UInt8} (h1 : ¬ b.length < 16) (h : ¬ 2084 < b.length) : tranR r c b = tranL r c b ∧ tranE b = 0 := by simp [tranR, tranE, h, h1]
theorem tranL_len (r : UInt32) (c : UInt64) (b : List UInt8) : (tranL r c b).length = 16 + b.length := by
  simp only [tranL, List.length_append, littleL_len, List.length_cons, List.length_nil]; omega
set_option maxRecDepth 100000 in
theorem conTran : Con Tryz.prog 48 gTran := con_of_vcl fun args ps res h hp hlen => by
  unfold gTran at h
  split at h <;> cases h
  rename_i r c m b
  obtain ⟨rfl, hp2⟩ := all_cons.1 hp
  refine ⟨EM, 100, rfl, eok (gs := [(67, gLittleN)]) ⟨conLittleN4, trivial⟩, ?_⟩
  rw [vcTran]
  simp only [io, dropL_zero]
  refine ⟨fun h1 => ?_, fun h1 => ⟨fun h2 => ?_, fun h2 => ?_⟩⟩
  · have h1 : b.length < 16 := by have := of_decide_eq_true h1; omega
    rw [(tranR_16 h1).1, (tranR_16 (r := r) (c := c) h1).2]; exact ⟨rfl, rfl, rfl, trivial⟩
  · have h1 : ¬ b.length < 16 := by have := of_decide_eq_false h1; omega
    have h2 : 2084 < b.length := by have := of_decide_eq_true h2; omega
    rw [(tranR_big h1 h2).1, (tranR_big (r := r) (c := c) h1 h2).2]; exact ⟨rfl, rfl, rfl, trivial⟩
  · have h1 : ¬ b.length < 16 := by have := of_decide_eq_false h1; omega
    have h2 : ¬ 2084 < b.length := by have := of_decide_eq_false h2; omega
    rw [(tranR_ok h1 h2).1, (tranR_ok (r := r) (c := c) h1 h2).2, tranL_len]
    refine ⟨by omega, by omega, by omega, by omega, rfl, ?_, rfl, trivial⟩
    have hl := tranL_len r c b
    exact (List.take_of_length_le (by show (tranL r c b).length ≤ _; omega)).trans rfl
end Go.Proofs.YtimjfjlaoekfkaaGreat

/- A step towards SessionValuesSaid: no conditions. -/

namespace Go.Proofs.YtimjfjlaoekfkaaGreat
open Go Go.Eng Go.Cod Go.Cha Go.Pol Go.Aed Go.Msg Go.Cds
set_option maxRecDepth 100000
theorem conPad0 : Con Tryz.prog 51 gPad0 := con_of_vcs fun args ps res h hp => by
  unfold gPad0 at h
  split at h
  · cases h
    have h1 := (all_cons.1 hp).1
    subst h1
    refine ⟨EPd, 200, rfl, eok (gs := [(_, gJoin)]) ⟨conJoin, trivial⟩, ?_⟩
    rw [vcPad0]
    simp only [forall_eq, InI]
    decide +kernel
  · cases h
set_option maxHeartbeats 4000000 in
set_option synthInstance.maxSize 100000 in
set_option synthInstance.maxHeartbeats 4000000 in
theorem conBegn : Con Tryz.prog 14 Go.Pol.gTrue0 := con_of_vcs fun args ps res h hp => by
  unfold Go.Pol.gTrue0 at h
  split at h <;> cases h
  refine ⟨EBn, 300, rfl, eok (gs := [(_, gNewD), (_, gCounter), (_, gSeal), (_, gTran), (_, gPad0)]) ⟨conNewP, conCounter, conSeal, conTran, conPad0, trivial⟩, ?_⟩
  rw [vcBeg]
  simp only [forall_eq, InI]
  decide +kernel
end Go.Proofs.YtimjfjlaoekfkaaGreat

/- A step towards SessionValuesSaid: no conditions. -/

namespace Go.Proofs.YtimjfjlaoekfkaaGreat
open Go Go.Eng Go.Cod Go.Cds Go.Dae Go.Win
theorem elw : EnvOk ELw := mkEH_ok namesOk mx (gs := [(_, gSetG), (_, gMask), (_, gHost), (_, gPeer), (_, gNewD), (_, gNewD), (_, gMod), (_, gAge), (_, gAge), (_, gUs), (_, gUs), (_, Go.Pol.gTrue0)])
  ⟨conSetG, conMask, conHost, conPeer, conNewR, conNewP, conMod, conAgeP, conAgeR, conUsP, conUsR, conBegn, trivial⟩ trivial ⟨conM_nrmC conNext, conM_nrmC conKey, conM_nrmC conBoolM, conM_nrmC conBigM, conM_nrmC conSess, trivial⟩ (hs := [(_, gIns), (_, gInst)]) ⟨conIns, conInst, trivial⟩
end Go.Proofs.YtimjfjlaoekfkaaGreat
