/- A step towards KdfChainSaid: no conditions. -/
import Derived.Test.YtpafbofajjpcdaaBlrVc
import Derived.Test.YtpafbofajjpcdaaBlhCon
import Derived.Test.YtpafbofajjpcdaaSrfCon
namespace Go.Proofs.Ytpafbofajjpcdaa
open Go Go.Eng Go.Cod Go.Cha Go.Bla
theorem codeL_len (key d : List UInt8) : (codeL key d).length = 16 := by
  unfold codeL
  split
  · exact sumL_len 16 key d (by decide)
  · rfl
theorem codeL_sum (key d : List UInt8) : over (List.replicate 16 0) 0 (sumR 16 key d) = codeL key d := by
  unfold codeL
  split
  · rename_i hk
    have hn : (sumL 16 key d).length = 16 := sumL_len 16 key d (by decide)
    rw [(sumR_ok (size := 16) d (by decide) hk).1]
    unfold over
    rw [hn]
    simp
  · rename_i hk
    have : sumR 16 key d = [] := if_neg (fun h => hk h.2.2)
    rw [this]
    rfl
set_option maxRecDepth 100000 in
theorem conHashR : Con Try.prog 16 gHash := con_of_vcl fun args ps res h hp hlen => by
  unfold gHash at h
  split at h <;> cases h
  rename_i m ls
  obtain ⟨rfl, hp2⟩ := all_cons.1 hp
  obtain ⟨hl, hp3⟩ := all_cons.1 hp2
  have hf := (all_cons.1 hp3).1
  refine ⟨BEhr, 100, rfl, eok (gs := [(17, gJoin), (19, gSum)]) ⟨conJoinR, conSumR, trivial⟩, ?_⟩
  rw [vcHashR ls]
  simp only [forall_eq, true_and, and_true, io, dropL_zero, Nat.zero_add, List.take_length]
  have hr := (sumR_ok (size := 32) (key := []) ls.flatten (by decide) (by decide)).1
  have hr' : sumR ((32 : Nat) : Int) (List.replicate 0 0) ls.flatten = sumL 32 [] ls.flatten := hr
  have hn : (sumL 32 [] ls.flatten).length = 32 := sumL_len 32 [] ls.flatten (by decide)
  rw [hr', hn]
  refine ⟨hl, by omega, Nat.le_refl _, by omega, Nat.le_refl _, by rw [List.length_take]; omega, ?_⟩
  rw [List.take_of_length_le (by omega)]
  unfold over
  rw [hn]
  simp
end Go.Proofs.Ytpafbofajjpcdaa
