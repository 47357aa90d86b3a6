/- A step towards KdfChainSaid: no conditions. -/
import Derived.Test.YtpafbofajjpcdaaBlhVc
import Derived.Test.YtpafbofajjpcdaaSumCon
namespace Go.Proofs.Ytpafbofajjpcdaa
open Go Go.Eng Go.Cod Go.Cha Go.Bla
theorem sumL_len (size : Int) (key data : List UInt8) (hs : 1 ≤ size ∧ size ≤ 32) : (sumL size key data).length = size.toNat :=
  sum_len size (h0 size key.length) (textK key data) rfl hs
theorem sumR_ok {size : Int} {key : List UInt8} (data : List UInt8) (hs : 1 ≤ size ∧ size ≤ 32) (hk : key.length ≤ 32) : sumR size key data = sumL size key data ∧ sumE size key = 0 :=
  ⟨if_pos ⟨hs.1, hs.2, hk⟩, if_pos ⟨hs.1, hs.2, hk⟩⟩
set_option maxRecDepth 100000 in
theorem conHash : Con Try.prog 14 gHash := con_of_vcl fun args ps res h hp hlen => by
  unfold gHash at h
  split at h <;> cases h
  rename_i m ls
  obtain ⟨rfl, hp2⟩ := all_cons.1 hp
  obtain ⟨hl, hp3⟩ := all_cons.1 hp2
  have hf := (all_cons.1 hp3).1
  refine ⟨BEh, 100, rfl, eok (gs := [(15, gJoin), (18, gSum)]) ⟨conJoin, conSum, trivial⟩, ?_⟩
  refine Eq.mpr (vcHash ls) ?_
  refine ⟨rfl, hl, by omega, ?_⟩
  intro y hy
  subst hy
  have e : List.take ls.flatten.length (dropL (dropL ls.flatten 0) 0) = ls.flatten := List.take_length
  rw [e]
  have hr := (sumR_ok (size := 32) (key := []) ls.flatten (by decide) (by decide)).1
  have hr' : sumR (Int.ofNat 32) (List.replicate 0 0) ls.flatten = sumL 32 [] ls.flatten := hr
  have hn := sumL_len 32 [] ls.flatten (by decide)
  have hn' : (sumL 32 [] ls.flatten).length = 32 := hn
  rw [hr', hn']
  refine ⟨by omega, rfl, rfl, by omega, fun y1 _ y2 hy2 y3 _ => ⟨Nat.le_refl _, Nat.le_refl _, fun y hy => ⟨?_, trivial⟩⟩⟩
  rw [hy, hy2, List.take_of_length_le (by rw [hn']; exact Nat.le_refl _)]
end Go.Proofs.Ytpafbofajjpcdaa
