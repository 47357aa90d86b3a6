/- A step towards CurveAgreesSaid: no conditions. -/
import Derived.Test.YthdhmciccohbeaaCugVc
import Derived.Test.YthdhmciccohbeaaCugVal
import Derived.Test.YthdhmciccohbeaaCufCon
import Derived.Test.YthdhmciccohbeaaCurCon
namespace Go.Proofs.Ythdhmciccohbeaa
open Go Go.Eng Go.Cod Go.Pol Go.Cur
theorem two_n (x : Nat) : ((2 : Nat) : Int) * (x : Int) = ((2 * x : Nat) : Int) := by omega
theorem two_n1 (x : Nat) : ((2 * x : Nat) : Int) + ((1 : Nat) : Int) = ((2 * x + 1 : Nat) : Int) := by omega
theorem one_n (x : Nat) : (x : Int) + (1 : Int) = ((x + 1 : Nat) : Int) := by omega
theorem less1 (x : Nat) : ((x + 1 : Nat) : Int) - ((1 : Nat) : Int) = (x : Int) := by omega
set_option maxRecDepth 100000 in
theorem conRRead : Con Try.prog 25 gReadR := con_of_vcl fun args ps res h hp hlen => by
  unfold gReadR at h
  split at h <;> cases h
  rename_i k
  refine ⟨GEr, 100, rfl, eok (gs := []) trivial, ?_⟩
  rw [vcRRead]
  simp only [forall_eq, io, two_n, two_n1, Int.toNat_natCast, d_eq]
  refine ⟨⟨0, by decide, rfl, trivial, trivial, rfl, trivial⟩, fun x hx => ⟨fun h => ?_, fun h => ?_⟩⟩
  · have h := of_decide_eq_true h
    have hk := (k.getD (2 * x + 1) 0).toNat_lt
    refine ⟨inI60 (by omega), by omega, by omega, inI60 (by omega), inI60 (by omega), by omega, by omega, ⟨by decide, inI60 (by omega)⟩, by omega, by omega, inI60 (by omega), nx16 (by omega) ⟨trivial, trivial, rfl, trivial⟩⟩
  · have h := of_decide_eq_false h
    have : x = 16 := by omega
    subst this
    exact ⟨rfl, trivial⟩
set_option maxRecDepth 100000 in
theorem conROnce : Con Try.prog 37 gOnceR := con_of_vcl fun args ps res h hp hlen => by
  unfold gOnceR at h
  split at h <;> cases h
  rename_i f
  have hf := (all_cons.1 hp).1
  refine ⟨GEo, 100, rfl, eok (gs := []) trivial, ?_⟩
  rw [vcROnce]
  simp only [forall_eq, io, one_n, less1, Int.toNat_natCast, d_eq]
  have f0 := hf.all 0
  refine ⟨inI60 (by omega), ⟨0, by decide, rfl, trivial, trivial, rfl, trivial⟩, fun x hx => ⟨fun h => ?_, fun h => ?_⟩⟩
  · have h := of_decide_eq_true h
    obtain ⟨i1, i2, i3, _⟩ := once_inv hf x hx
    have hn := i3 (x + 1) (by omega)
    have fb := hf.all (x + 1)
    have e1 : iand (d (onceI f x) x / 2 ^ 16) ((1 : Nat) : Int) = d (onceI f x) x / 2 ^ 16 % 2 := iand1 _
    rw [e1]
    refine ⟨by omega, by omega, inI60 (by omega), by omega, by omega, by decide, inI60 (by omega), inI60 (by rw [hn]; omega), by omega, by omega, inI60 (by omega), by omega, by omega, by omega, by omega, inI60 (by omega), ⟨x + 1, by omega, by omega, by omega, trivial, trivial, ?_, trivial⟩⟩
    show _ = onceS (onceI f x) x
    unfold onceS
    rw [iand1]
    rfl
  · have h := of_decide_eq_false h
    have : x = 14 := by omega
    subst this
    obtain ⟨i1, i2, i3, _⟩ := once_inv hf 14 hx
    have hn := i3 15 (by omega)
    have fb := hf.all 15
    have e1 : iand (d (onceI f 14) 14 / 2 ^ 16) ((1 : Nat) : Int) = d (onceI f 14) 14 / 2 ^ 16 % 2 := iand1 _
    refine ⟨by decide, inI60 (by rw [e1]; omega), inI60 (by rw [e1, hn]; omega), by decide, fun hb => ⟨?_, trivial⟩, fun hb => ⟨?_, trivial⟩⟩
    · have hb := of_decide_eq_true hb
      show f = if _ then _ else _
      exact (if_pos hb).symm
    · have hb := of_decide_eq_false hb
      show _ = if _ then _ else _
      exact (if_neg hb).symm
set_option maxRecDepth 100000 in
theorem conRWrite : Con Try.prog 28 gWriteR := con_of_vcl fun args ps res h hp hlen => by
  unfold gWriteR at h
  split at h <;> cases h
  rename_i f
  have hf := (all_cons.1 hp).1
  refine ⟨GEw, 100, rfl, eok (gs := [(38, gCarR), (37, gOnceR)]) ⟨conRCar, conROnce, trivial⟩, ?_⟩
  rw [vcRWrite]
  obtain ⟨h1, _⟩ := carR_dg hf
  obtain ⟨h2, _⟩ := carR_dg h1.nm
  obtain ⟨h3, _⟩ := carR_dg h2.nm
  obtain ⟨o1, _⟩ := once_ok h3
  have big : ∀ {l : List Int}, Nm l → Bd B60 l := fun hl j => by have := hl.bd j; simp only [B17, B60] at *; omega
  simp only [forall_eq, io, two_n, two_n1, Int.toNat_natCast, d_eq]
  refine ⟨big hf, big h1.nm, big h2.nm, h3, o1, ⟨0, by decide, rfl, trivial, trivial, rfl, trivial⟩, fun x hx => ⟨fun h => ?_, fun h => ?_⟩⟩
  · have h := of_decide_eq_true h
    refine ⟨inI60 (by omega), inI60 (by omega), inI60 (by omega), by omega, by omega, by omega, by omega, by decide, by omega, by omega, by omega, by omega, inI60 (by omega), nx16 (by omega) ⟨trivial, trivial, rfl, trivial⟩⟩
  · have h := of_decide_eq_false h
    have : x = 16 := by omega
    subst this
    exact ⟨rfl, trivial⟩
set_option maxRecDepth 100000 in
theorem egs : EnvOk GEs := eok (gs := [(35, gAddR), (36, gSubR), (29, gMulR)]) ⟨conRAdd, conRSub, conRMul, trivial⟩
set_option maxRecDepth 100000 in
theorem conRSwap : Con Try.prog 26 gSwapR := con_of_vcl fun args ps res h hp hlen => by
  unfold gSwapR at h
  split at h <;> cases h
  rename_i a b c e
  refine ⟨GEs, 100, rfl, egs, ?_⟩
  rw [vcRSwap]
  simp only [forall_eq, and_self]
/-- what is asked of the operands -/
def OkJ (f : List Int) : Prop := f.length = 16 ∧ Bd B18 f
theorem okm {a b : List Int} (ha : OkJ a) (hb : OkJ b) : Nm (mulR a b) := (mulR_nm ha.2 hb.2 ha.1 hb.1).1
theorem okn {a : List Int} (ha : Nm a) : OkJ a := ⟨ha.len, ha.b18⟩
theorem oka {a b : List Int} (ha : Nm a) (hb : Nm b) : OkJ (addI a b 16) := (i_add (⟨ha, rfl⟩ : RI a _) (⟨hb, rfl⟩ : RI b _)).1
theorem oks {a b : List Int} (ha : Nm a) (hb : Nm b) : OkJ (subI a b 16) := (i_sub (⟨ha, rfl⟩ : RI a _) (⟨hb, rfl⟩ : RI b _)).1
theorem ok60 {a : List Int} (ha : Nm a) : Bd B60 a := fun j => by have := ha.bd j; simp only [B17, B60] at *; omega
theorem a24_ok : OkJ [((56129 : Nat) : Int), ((1 : Nat) : Int), 0, 0, 0, 0, 0, 0, 0, 0, 0, 0, 0, 0, 0, 0] := i_a24.1
set_option maxRecDepth 100000 in
theorem conRStep : Con Try.prog 27 gStepR := con_of_vcl fun args ps res h hp hlen => by
  unfold gStepR at h
  split at h <;> cases h
  rename_i a b c e x
  obtain ⟨ha, hp2⟩ := all_cons.1 hp
  obtain ⟨hb, hp3⟩ := all_cons.1 hp2
  obtain ⟨hc, hp4⟩ := all_cons.1 hp3
  obtain ⟨he, hp5⟩ := all_cons.1 hp4
  have hx := (all_cons.1 hp5).1
  refine ⟨GEs, 200, rfl, egs, ?_⟩
  rw [vcRStep]
  have s := oka ha hb
  have t := oks ha hb
  have aa := okm s s
  have bb := okm t t
  have ee := oks aa bb
  have s3 := oka hc he
  have t3 := oks hc he
  have da := okm t3 s
  have cb := okm s3 t
  have u := oka da cb
  have v := oks da cb
  have w := okm a24_ok ee
  have z := oka aa w
  have vv := okm v v
  simp only [forall_eq, io]
  simp only [stR]
  exact ⟨ok60 ha, ok60 hb, ok60 ha, ok60 hb, s.2, s.2, t.2, t.2, ok60 aa, ok60 bb, ok60 hc, ok60 he, ok60 hc, ok60 he, t3.2, s.2, s3.2, t.2, ok60 da, ok60 cb, ok60 da, ok60 cb, (okn aa).2, (okn bb).2, a24_ok.2, ee.2, ok60 aa, ok60 w, ee.2, z.2, u.2, u.2, v.2, v.2, (okn hx).2, (okn vv).2, by first | rfl | trivial, by first | rfl | trivial, by first | rfl | trivial, by first | rfl | trivial, trivial⟩
theorem key_step {n : List UInt8} {x1 : List Int} {x : Nat} {k : UInt8} {l : LR} (hx : x ≤ 254) (hk : k = bitL n (254 - x)) (hl : l = if bitL n (254 - x) = (ladR n x1 x).last then (ladR n x1 x).l else swapR (ladR n x1 x).l) (p q r : Prop) (hp : p) (hq : q) (hr : r) :
    InI ((254 : Int) - (x : Int) - ((1 : Nat) : Int)) ∧ ∃ y : Nat, y ≤ 255 ∧ 255 - y < 255 - x ∧ k = (ladR n x1 y).last ∧ (254 : Int) - (x : Int) - ((1 : Nat) : Int) = (254 : Int) - (y : Int) ∧ p ∧ q ∧ r ∧ True ∧ True ∧ (stR l x1).x2 = (ladR n x1 y).l.x2 ∧ (stR l x1).z2 = (ladR n x1 y).l.z2 ∧ (stR l x1).x3 = (ladR n x1 y).l.x3 ∧ (stR l x1).z3 = (ladR n x1 y).l.z3 ∧ True := by
  have e : ladR n x1 (x + 1) = ⟨stR l x1, k⟩ := by
    show stepM x1 (bitL n (254 - x)) (ladR n x1 x) = _
    unfold stepM
    rw [← hl, hk]
  exact ⟨by unfold InI; omega, x + 1, by omega, by omega, by rw [e], by omega, hp, hq, hr, trivial, trivial, by rw [e], by rw [e], by rw [e], by rw [e], trivial⟩
theorem bit_eqR {n : List UInt8} {x : Nat} (hx : x ≤ 254) : shr8 (n.getD (((254 : Int) - (x : Int)).tdiv ((8 : Nat) : Int)).toNat 0) (((254 : Int) - (x : Int)).tmod ((8 : Nat) : Int)).toNat &&& UInt8.ofNat 1 = bitL n (254 - x) := by
  rw [show (254 : Int) - (x : Int) = ((254 - x : Nat) : Int) by omega]
  rfl
set_option maxRecDepth 100000 in
set_option maxHeartbeats 4000000 in
theorem conMulR : Con Try.prog 16 gMulP := con_of_vcl fun args ps res h hp hlen => by
  unfold gMulP at h
  split at h <;> cases h
  rename_i s p
  have hpl : p.length = 32 := hlen.2.1.1
  refine ⟨GEm, 200, rfl, eok (gs := [(12, gClamp), (25, gReadR), (26, gSwapR), (27, gStepR), (30, gPowR), (29, gMulR), (28, gWriteR)]) ⟨conClampR, conRRead, conRSwap, conRStep, conRPow, conRMul, conRWrite, trivial⟩, ?_⟩
  rw [← key_eq hpl]
  rw [vcRKey]
  obtain ⟨l1, l2⟩ := readR_dg hpl
  have hx1 : RI (readR p) (natL p % 57896044618658097711785492504343953926634992332820282019728792003956564819968 % PP) := ⟨l1.nm, by rw [l2]; simp only [PP]; omega⟩
  have hlad := i_lad hx1 (clampL s)
  simp only [forall_eq, io]
  refine ⟨⟨0, by decide, rfl, by decide, trivial, trivial, trivial, trivial, trivial, rfl, rfl, rfl, rfl, trivial⟩, fun x hx => ⟨fun h => ?_, fun h => ?_⟩⟩
  · have h := of_decide_eq_true h
    have hx2 : x ≤ 254 := by omega
    obtain ⟨n1, n2, n3, n4, _⟩ := hlad x
    rw [bit_eqR hx2]
    have q1 : ((254 : Int) - (x : Int)).tdiv ((8 : Nat) : Int) = (((254 - x) / 8 : Nat) : Int) := by
      rw [show (254 : Int) - (x : Int) = ((254 - x : Nat) : Int) by omega]; rfl
    have q2 : ((254 : Int) - (x : Int)).tmod ((8 : Nat) : Int) = (((254 - x) % 8 : Nat) : Int) := by
      rw [show (254 : Int) - (x : Int) = ((254 - x : Nat) : Int) by omega]; rfl
    rw [q1, q2]
    refine ⟨⟨by decide, by unfold InI; omega⟩, by omega, by omega, by decide, by omega, fun hb => ?_, fun hb => ?_⟩
    · have hn : ¬ bitL (clampL s) (254 - x) = (ladR (clampL s) (readR p) x).last := by simpa using hb
      refine ⟨n3.1, n4.1, n1.1, n2.1, l1.nm, key_step hx2 rfl ?_ True True True trivial trivial trivial⟩
      rw [if_neg hn]
      rfl
    · have hn : bitL (clampL s) (254 - x) = (ladR (clampL s) (readR p) x).last := by simpa using hb
      refine ⟨n1.1, n2.1, n3.1, n4.1, l1.nm, key_step hx2 rfl ?_ True True True trivial trivial trivial⟩
      rw [if_pos hn]
  · have h := of_decide_eq_false h
    have : x = 255 := by omega
    subst this
    obtain ⟨n1, n2, n3, n4, _⟩ := hlad 255
    refine ⟨fun hb => ?_, fun hb => ?_⟩
    · have pw := i_pow n4 254
      exact ⟨n4.1.b18, n3.1.b18, pw.1.b18, (i_mul n3.mid pw.mid).1, by unfold keyR endR; rw [if_pos (by simpa using hb)], trivial⟩
    · have pw := i_pow n2 254
      exact ⟨n2.1.b18, n1.1.b18, pw.1.b18, (i_mul n1.mid pw.mid).1, by unfold keyR endR; rw [if_neg (by simpa using hb)], trivial⟩
end Go.Proofs.Ythdhmciccohbeaa
