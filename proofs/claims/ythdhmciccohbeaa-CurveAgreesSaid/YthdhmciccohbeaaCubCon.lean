/- A step towards CurveAgreesSaid: no conditions. -/
import Derived.Test.YthdhmciccohbeaaCubVc
import Derived.Test.YthdhmciccohbeaaCurCon
namespace Go.Proofs.Ythdhmciccohbeaa
open Go Go.Eng Go.Cod Go.Pol Go.Cur
theorem cover (b : List UInt8) (h : b.length = 8) : over (List.replicate 32 0) 0 b = b ++ List.replicate 24 0 := by
  unfold over; rw [h]; simp
theorem cover2 (a b : List UInt8) (n : Nat) (ha : a.length = n) (m : Nat) (h : b.length = 8) : over (a ++ List.replicate (8 + m) 0) n b = (a ++ b) ++ List.replicate m 0 := by
  subst ha
  unfold over
  rw [h, List.take_left', List.drop_append, List.drop_of_length_le (by omega)]
  simp
  rfl
def le8 (x : UInt64) : List UInt8 := [(shr64 x 0).toUInt8, (shr64 x 8).toUInt8, (shr64 x 16).toUInt8, (shr64 x 24).toUInt8, (shr64 x 32).toUInt8, (shr64 x 40).toUInt8, (shr64 x 48).toUInt8, (shr64 x 56).toUInt8]
theorem le8_eq (x : UInt64) : [(shr64 x 0).toUInt8, (shr64 x 8).toUInt8, (shr64 x 16).toUInt8, (shr64 x 24).toUInt8, (shr64 x 32).toUInt8, (shr64 x 40).toUInt8, (shr64 x 48).toUInt8, (shr64 x 56).toUInt8] = littleL x 8 := rfl
theorem bytes_over (w0 w1 w2 w3 : UInt64) : over (over (over (over (List.replicate 32 0) 0 (littleL w0 8)) 8 (littleL w1 8)) 16 (littleL w2 8)) 24 (littleL w3 8) = bytesW [w0, w1, w2, w3] := by
  have l := fun x => littleL_len x 8
  rw [cover _ (l _), show (24 : Nat) = 8 + 16 from rfl, cover2 _ _ 8 (l _) 16 (l _), show (16 : Nat) = 8 + 8 from rfl, cover2 _ _ (8 + 8) (by rw [List.length_append, l, l]) 8 (l _), show List.replicate 8 (0 : UInt8) = List.replicate (8 + 0) 0 from rfl, cover2 _ _ (8 + (8 + 8)) (by rw [List.length_append, List.length_append, l, l, l]) 0 (l _)]
  unfold bytesW
  simp [g]
theorem carL_five (a : List UInt64) : ∃ c0 c1 c2 c3 c4, carL a = [c0, c1, c2, c3, c4] := ⟨_, _, _, _, _, rfl⟩
set_option maxRecDepth 100000 in
set_option maxHeartbeats 4000000 in
theorem conFBytes : Con Try.prog 24 gBytes := con_of_vcl fun args ps res h hp hlen => by
  unfold gBytes at h
  split at h <;> cases h
  rename_i a
  refine ⟨CEb, 300, rfl, eok (gs := [(33, gCar), (34, gLittleN)]) ⟨conFCar, conLittleN4, trivial⟩, ?_⟩
  rw [vcFBytes]
  unfold bytesL
  obtain ⟨c0, c1, c2, c3, c4, hc⟩ := carL_five a
  rw [hc]
  simp only [forall_eq, List.getD_cons_zero, List.getD_cons_succ, List.set_cons_zero, List.set_cons_succ, le8_eq]
  refine ⟨by decide, by decide, by decide, by decide, ?_, trivial⟩
  rw [bytes_over]
  simp only [wordsL, mk, b4, b3, b2, b1, b0, qL, g, List.getD_cons_zero, List.getD_cons_succ]
theorem bit_eq {n : List UInt8} {x : Nat} (hx : x ≤ 254) : shr8 (n.getD (((254 : Int) - (x : Int)).tdiv ((8 : Nat) : Int)).toNat 0) (((254 : Int) - (x : Int)).tmod ((8 : Nat) : Int)).toNat &&& UInt8.ofNat 1 = bitL n (254 - x) := by
  rw [show (254 : Int) - (x : Int) = ((254 - x : Nat) : Int) by omega]
  rfl
theorem mul_step {n : List UInt8} {x1 : List UInt64} {x : Nat} {a b c d : List UInt64} {k : UInt8} (hx : x ≤ 254) (h : (⟨a, b, c, d, k⟩ : Lad) = ladL n x1 (x + 1)) (p q r : Prop) (hp : p) (hq : q) (hr : r) :
    InI ((254 : Int) - (x : Int) - ((1 : Nat) : Int)) ∧ ∃ y : Nat, y ≤ 255 ∧ 255 - y < 255 - x ∧ k = (ladL n x1 y).last ∧ (254 : Int) - (x : Int) - ((1 : Nat) : Int) = (254 : Int) - (y : Int) ∧ p ∧ q ∧ r ∧ True ∧ True ∧ a = (ladL n x1 y).x2 ∧ b = (ladL n x1 y).z2 ∧ c = (ladL n x1 y).x3 ∧ d = (ladL n x1 y).z3 ∧ True :=
  ⟨by unfold InI; omega, x + 1, by omega, by omega, by rw [← h], by omega, hp, hq, hr, trivial, trivial, by rw [← h], by rw [← h], by rw [← h], by rw [← h], trivial⟩
set_option maxRecDepth 100000 in
set_option maxHeartbeats 4000000 in
theorem conMulP : Con Try.prog 8 gMulP := con_of_vcl fun args ps res h hp hlen => by
  unfold gMulP at h
  split at h <;> cases h
  rename_i s p
  refine ⟨CEu, 300, rfl, eok (gs := [(11, gClamp), (19, gLoad), (20, gAdd), (21, gSub), (22, gFMul), (23, gInv), (24, gBytes)]) ⟨conClamp, conFLoad, conFAdd, conFSub, conFMul, conFInv, conFBytes, trivial⟩, ?_⟩
  rw [vcMulP]
  simp only [forall_eq, io]
  refine ⟨⟨0, by decide, rfl, by decide, trivial, trivial, trivial, trivial, trivial, rfl, rfl, rfl, rfl, trivial⟩, fun x hx => ⟨fun h => ?_, fun h => ?_⟩⟩
  · have h := of_decide_eq_true h
    have hx2 : x ≤ 254 := by omega
    rw [bit_eq hx2]
    have q1 : ((254 : Int) - (x : Int)).tdiv ((8 : Nat) : Int) = (((254 - x) / 8 : Nat) : Int) := by
      rw [show (254 : Int) - (x : Int) = ((254 - x : Nat) : Int) by omega]; rfl
    have q2 : ((254 : Int) - (x : Int)).tmod ((8 : Nat) : Int) = (((254 - x) % 8 : Nat) : Int) := by
      rw [show (254 : Int) - (x : Int) = ((254 - x : Nat) : Int) by omega]; rfl
    rw [q1, q2]
    refine ⟨⟨by decide, by unfold InI; omega⟩, by omega, by omega, by decide, by omega, fun hb => ?_, fun hb => ?_⟩
    · refine mul_step hx2 ?_ True True True trivial trivial trivial
      have hn : ¬ bitL (clampL s) (254 - x) = (ladL (clampL s) (loadL p) x).last := by simpa using hb
      show _ = stL (loadL p) (bitL (clampL s) (254 - x)) (swL (bitL (clampL s) (254 - x)) (ladL (clampL s) (loadL p) x))
      unfold swL
      rw [if_neg hn]
      rfl
    · refine mul_step hx2 ?_ True True True trivial trivial trivial
      have hn : bitL (clampL s) (254 - x) = (ladL (clampL s) (loadL p) x).last := by simpa using hb
      show _ = stL (loadL p) (bitL (clampL s) (254 - x)) (swL (bitL (clampL s) (254 - x)) (ladL (clampL s) (loadL p) x))
      unfold swL
      rw [if_pos hn]
      rfl
  · have h := of_decide_eq_false h
    have : x = 255 := by omega
    subst this
    refine ⟨fun hb => ⟨?_, trivial⟩, fun hb => ⟨?_, trivial⟩⟩
    · unfold keyL endL; rw [if_pos (by simpa using hb)]
    · unfold keyL endL; rw [if_neg (by simpa using hb)]
end Go.Proofs.Ythdhmciccohbeaa
