/- Steps towards SessionValuesSaid. -/
import Derived.Test.YtimjfjlaoekfkaaGreatJDbaVc
import Derived.Test.YtimjfjlaoekfkaaGreatJDayVc
import Derived.Test.YtimjfjlaoekfkaaGreatJDagCon
import Derived.Test.YtimjfjlaoekfkaaGreatJPslSpec
import Derived.Test.YtimjfjlaoekfkaaGreatJCodSpec
import Derived.Test.YtimjfjlaoekfkaaGreatJDbbSpec
/- A step towards SessionValuesSaid: no conditions. -/

namespace Go.Cds
open Go Go.Eng Go.Cod Go.Dae Go.Win
theorem winA_rng {l : List UInt8} {a : Int} (h : 0 ≤ a ∧ a ≤ l.length) : ∀ n, 0 ≤ winA l a n ∧ winA l a n ≤ l.length
  | 0 => h
  | n + 1 => nxA_rng 8 (winA_rng h n)
theorem sA4_rng {l : List UInt8} {a : Int} (h : 0 ≤ a ∧ a ≤ l.length) : 0 ≤ sA4 l a ∧ sA4 l a ≤ l.length := nxA_rng 2 (nxA_rng 256 (nxA_rng 256 (nxA_rng 12 h)))
theorem sA6_rng {l : List UInt8} {a : Int} (h : 0 ≤ a ∧ a ≤ l.length) : 0 ≤ sA6 l a ∧ sA6 l a ≤ l.length := by
  have h4 := nxA_rng 4 (sA4_rng h)
  unfold sA6
  split
  · exact nxA_rng 40 h4
  · split
    · exact nxA_rng 4 h4
    · exact h4
theorem sesA_rng {l : List UInt8} {a : Int} (h : 0 ≤ a ∧ a ≤ l.length) : 0 ≤ sesA l a ∧ sesA l a ≤ l.length := winA_rng (nxA_rng 4 (sA6_rng h)) _
theorem sK_eq (l : List UInt8) (a : Int) : ((sK l a : Nat) : Int) = nxV l (sA6 l a) 4 := Int.toNat_of_nonneg (nxV_rng _ _ _).1
end Go.Cds
namespace Go.Proofs.YtimjfjlaoekfkaaGreat
open Go Go.Eng Go.Cod Go.Cds Go.Dae Go.Win
set_option maxRecDepth 100000
set_option maxRecDepth 100000 in
theorem vcNewR (lo re : UInt32) (sd rv : List UInt8) (bo : Int) (ini : Bool) (fe : UInt64) : (vcFn WI0 100 8 [.s (.u32 lo), .s (.u32 re), .agg [.vec (.n 32) (.u8 sd)], .agg [.vec (.n 32) (.u8 rv)], .s (.i64 bo), .s (.b ini), .s (.u64 fe)] (.w (.agg [.one (.u32 lo), .one (.u32 re), .vec (.n 32) (.u8 sd), .vec (.n 32) (.u8 rv), .one (.u64 0), .one (.u64 fe), .one (.b false), .one (.u64 0), .vec (.n 4) (.u64 (List.replicate 4 0)), .one (.i64 bo), .one (.b ini)]))) =
  (lo = lo ∧ re = re ∧ sd = sd ∧ rv = rv ∧ (0 : UInt64) = (0 : UInt64) ∧ fe = fe ∧ false = false ∧ (0 : UInt64) = (0 : UInt64) ∧ List.replicate 4 (0 : UInt64) = List.replicate 4 (0 : UInt64) ∧ bo = bo ∧ ini = ini ∧ True) := by kernel_rfl
set_option maxRecDepth 100000 in
theorem vcNewP (lo re : UInt32) (sd rv : List UInt8) (bo : Int) (ini : Bool) (fe : UInt64) : (vcFn WI0 100 7 [.s (.u32 lo), .s (.u32 re), .agg [.vec (.n 32) (.u8 sd)], .agg [.vec (.n 32) (.u8 rv)], .s (.i64 bo), .s (.b ini), .s (.u64 fe)] (.w (.agg [.one (.u32 lo), .one (.u32 re), .vec (.n 32) (.u8 sd), .vec (.n 32) (.u8 rv), .one (.u64 0), .one (.u64 fe), .one (.b false), .one (.u64 0), .vec (.n 4) (.u64 (List.replicate 4 0)), .one (.i64 bo), .one (.b ini)]))) =
  (lo = lo ∧ re = re ∧ sd = sd ∧ rv = rv ∧ (0 : UInt64) = (0 : UInt64) ∧ fe = fe ∧ false = false ∧ (0 : UInt64) = (0 : UInt64) ∧ List.replicate 4 (0 : UInt64) = List.replicate 4 (0 : UInt64) ∧ bo = bo ∧ ini = ini ∧ True) := by kernel_rfl
theorem conNewR : Con Tryz.prog 8 gNewD := con_of_vcs fun args ps res h hp => by
  unfold gNewD at h
  split at h
  · cases h
    refine ⟨WI0, 100, rfl, eok (gs := []) trivial, Eq.mpr (vcNewR _ _ _ _ _ _ _) ?_⟩
    and_intros <;> first | trivial | rfl
  · cases h
theorem conNewP : Con Tryz.prog 7 gNewD := con_of_vcs fun args ps res h hp => by
  unfold gNewD at h
  split at h
  · cases h
    refine ⟨WI0, 100, rfl, eok (gs := []) trivial, Eq.mpr (vcNewP _ _ _ _ _ _ _) ?_⟩
    and_intros <;> first | trivial | rfl
  · cases h
theorem ecds (l : List UInt8) (a : Int) (jm : UInt64) : EnvOk (CDs l a jm) := mkEM_ok namesOk mx (gs := [(_, gNewD), (_, gAcc)]) ⟨conNewR, conWAccR, trivial⟩ trivial ⟨conM_nrmC conNext, conKey, conBoolM, trivial⟩
theorem conSess : ConM Tryz.prog 6 gmSess := conM_of_vcl fun cs o args ps res cs' hg hp hlen hcs hrow => by
  unfold gmSess at hg
  split at hg
  · rename_i m l a cd lo
    split at hg
    · rename_i d now jm hd hn
      cases hg
      have e := dmOfA_eq hd
      subst e
      have hn2 : nowJm (dmA d) = some (d.now, d.r.jm) := rfl
      rw [hn2] at hn
      cases hn
      obtain rfl := hrow _ _ _ rfl
      obtain ⟨h0, hp⟩ := all_cons.1 hp
      obtain ⟨h1, hp⟩ := all_cons.1 hp
      obtain ⟨h2, hp⟩ := all_cons.1 hp
      obtain ⟨h3, hp⟩ := all_cons.1 hp
      have h4 := (all_cons.1 hp).1
      refine ⟨CDs l a d.r.jm, 300, rfl, ecds _ _ _, fun u => ?_⟩
      refine Eq.mpr (vcSess u l.length l a d lo) ?_
      have e0 : ((0 : Nat) : Int) = 0 := rfl
      have e1 : ((1 : Nat) : Int) = 1 := rfl
      have e2 : ((2 : Nat) : Int) = 2 := rfl
      have e4 : ((4 : Nat) : Int) = 4 := rfl
      have e8 : ((8 : Nat) : Int) = 8 := rfl
      have e12 : ((12 : Nat) : Int) = 12 := rfl
      have e40 : ((40 : Nat) : Int) = 40 := rfl
      have e5 : ((5000 : Nat) : Int) = 5000 := rfl
      have r1 := nxA_rng 12 ⟨h0, h1⟩
      have r2 := nxA_rng 256 r1
      have r3 := nxA_rng 256 r2
      have r4 := nxA_rng 2 r3
      have r5 := nxA_rng 4 r4
      have r6 := sA6_rng ⟨h0, h1⟩
      have v1 := nxV_rng l a 12
      have hk := sK_eq l a
      have hk2 := nxV_rng l (sA6 l a) 4
      simp only [dSm, dmL, io, e0, e1, e2, e4, e8, e12, e40, e5, decide_eq_true_eq, decide_eq_false_iff_not, true_and, and_true, true_implies]
      refine ⟨h0, h1, h2, by unfold InI; omega, by unfold InI; omega, r1.1, r1.2, h2, r2.1, r2.2, h2, r3.1, r3.2, h2, r4.1, r4.2, h2, fun hc => ?_, fun hc => ⟨fun hc2 => ?_, fun hc2 => ?_⟩, fun _ => ?_⟩
      · refine ⟨r5.1, r5.2, h2, (), ?_, ?_⟩
        · show _ = if nxV l (sA4 l a) 4 = 1 then _ else _
          rw [if_pos (show nxV l (sA4 l a) 4 = 1 from hc)]; rfl
        · show _ = if nxV l (sA4 l a) 4 = 1 then _ else _
          rw [if_pos (show nxV l (sA4 l a) 4 = 1 from hc)]; rfl
      · refine ⟨r5.1, r5.2, h2, (), ?_, ?_⟩
        · show _ = if nxV l (sA4 l a) 4 = 1 then _ else if nxV l (sA4 l a) 4 = 2 then _ else _
          rw [if_neg (show ¬ nxV l (sA4 l a) 4 = 1 from hc), if_pos (show nxV l (sA4 l a) 4 = 2 from hc2)]; rfl
        · show _ = if nxV l (sA4 l a) 4 = 1 then _ else if nxV l (sA4 l a) 4 = 2 then _ else _
          rw [if_neg (show ¬ nxV l (sA4 l a) 4 = 1 from hc), if_pos (show nxV l (sA4 l a) 4 = 2 from hc2)]; rfl
      · refine ⟨(), ?_, ?_⟩
        · show _ = if nxV l (sA4 l a) 4 = 1 then _ else if nxV l (sA4 l a) 4 = 2 then _ else _
          rw [if_neg (show ¬ nxV l (sA4 l a) 4 = 1 from hc), if_neg (show ¬ nxV l (sA4 l a) 4 = 2 from hc2)]; rfl
        · show _ = if nxV l (sA4 l a) 4 = 1 then _ else if nxV l (sA4 l a) 4 = 2 then _ else _
          rw [if_neg (show ¬ nxV l (sA4 l a) 4 = 1 from hc), if_neg (show ¬ nxV l (sA4 l a) 4 = 2 from hc2)]
      · refine ⟨r6.1, r6.2, h2, ⟨0, Nat.zero_le _, by omega, rfl, rfl, rfl, rfl⟩, fun x hx => ⟨fun h => ?_, fun h => ?_⟩⟩
        · have w := winA_rng (nxA_rng 4 r6) x
          exact ⟨w.1, w.2, h2, by unfold InI; omega, x + 1, by omega, by omega, by omega, rfl, rfl, rfl, rfl⟩
        · have hx2 : x = sK l a := by omega
          subst hx2
          and_intros <;> first | trivial | rfl
    · cases hg
  · cases hg
end Go.Proofs.YtimjfjlaoekfkaaGreat

/- A step towards SessionValuesSaid: no conditions. -/

namespace Go.Cds
open Go Go.Eng Go.Cod Go.Dae Go.Win
theorem modV_rng (x : Int) {n : Int} (h : 1 ≤ n) : 0 ≤ modV x n ∧ modV x n < n := by
  have h1 : -n < x.tmod n := Int.lt_tmod_of_pos _ (by omega)
  unfold modV
  exact ⟨Int.tmod_nonneg _ (by omega), Int.tmod_lt_of_pos _ (by omega)⟩
theorem lt_min3 (n a b c : UInt64) : decide (n < if c < (if b < a then b else a) then c else if b < a then b else a) = (decide (n < a) && (decide (n < b) && decide (n < c))) := by
  rw [Bool.eq_iff_iff]
  simp only [decide_eq_true_eq, Bool.and_eq_true, UInt64.lt_iff_toNat_lt]
  split <;> split <;> omega
end Go.Cds
namespace Go.Proofs.YtimjfjlaoekfkaaGreat
open Go Go.Eng Go.Cod Go.Cds Go.Dae Go.Win
set_option maxRecDepth 100000
theorem conHost : Con Tryz.prog 24 gHost := con_of_vcs fun args ps res h hp => by
  unfold gHost at h
  split at h
  · cases h
    exact ⟨EDz, 100, rfl, eok (gs := []) trivial, Eq.mpr (vcHost _ _) ⟨rfl, rfl, trivial⟩⟩
  · cases h
theorem conPeer : Con Tryz.prog 19 gPeer := con_of_vcs fun args ps res h hp => by
  unfold gPeer at h
  split at h
  · rename_i i
    cases h
    obtain ⟨h1, hp⟩ := all_cons.1 hp
    have h2 := (all_cons.1 hp).1
    refine ⟨EDz, 100, rfl, eok (gs := []) trivial, Eq.mpr (vcPeer i) ?_⟩
    have e1 : ((1 : Nat) : Int) = 1 := rfl
    have e40 : ((40 : Nat) : Int) = 40 := rfl
    simp only [io, e1, e40]
    exact ⟨by unfold InI; omega, by unfold InI; omega, rfl, trivial⟩
  · cases h
theorem conMod : Con Tryz.prog 9 gMod := con_of_vcs fun args ps res h hp => by
  unfold gMod at h
  split at h
  · rename_i x n
    cases h
    obtain ⟨h1, hp⟩ := all_cons.1 hp
    have h2 := (all_cons.1 hp).1
    refine ⟨EDz, 100, rfl, eok (gs := []) trivial, Eq.mpr (vcMod x n) ?_⟩
    have e1 : ((1 : Nat) : Int) = 1 := rfl
    have g1 : -n < x.tmod n := Int.lt_tmod_of_pos _ (by omega)
    have g2 : x.tmod n < n := Int.tmod_lt_of_pos _ (by omega)
    simp only [io, e1]
    exact ⟨fun hd => absurd (of_decide_eq_true hd) (by omega), fun _ => ⟨by omega, by unfold InI; omega, by omega, rfl, trivial⟩⟩
  · cases h
theorem conAgeP : Con Tryz.prog 10 gAge := con_of_vcs fun args ps res h hp => by
  unfold gAge at h
  split at h
  · split at h
    · rename_i s hs
      cases h
      have e := snOf_eq hs
      subst e
      refine ⟨EDz, 100, rfl, eok (gs := []) trivial, Eq.mpr (vcAgeP s _) ⟨fun hd => ⟨?_, trivial⟩, fun hd => ⟨?_, trivial⟩⟩⟩
      · unfold ageV; rw [if_pos (of_decide_eq_true hd)]; rfl
      · unfold ageV; rw [if_neg (of_decide_eq_false hd)]; rfl
    · cases h
  · cases h
theorem conAgeR : Con Tryz.prog 11 gAge := con_of_vcs fun args ps res h hp => by
  unfold gAge at h
  split at h
  · split at h
    · rename_i s hs
      cases h
      have e := snOf_eq hs
      subst e
      refine ⟨EDz, 100, rfl, eok (gs := []) trivial, Eq.mpr (vcAgeR s _) ⟨fun hd => ⟨?_, trivial⟩, fun hd => ⟨?_, trivial⟩⟩⟩
      · unfold ageV; rw [if_pos (of_decide_eq_true hd)]; rfl
      · unfold ageV; rw [if_neg (of_decide_eq_false hd)]; rfl
    · cases h
  · cases h
theorem conUsP : Con Tryz.prog 12 gUs := con_of_vcs fun args ps res h hp => by
  unfold gUs at h
  split at h
  · rename_i cn cr now
    split at h
    · rename_i s r hs hr
      cases h
      have e := snOf_eq hs
      subst e
      have e := rulOf_eq hr
      subst e
      refine ⟨EUp, 100, rfl, eok (gs := [(_, gAge)]) ⟨conAgeP, trivial⟩, Eq.mpr (vcUsP s r now) ?_⟩
      have em : UInt64.ofNat 18446744073709543423 = 18446744073709543423 := rfl
      simp only [em]
      have t : ∀ {a b : UInt64}, decide (b ≤ a) = true → decide (a < b) = false := fun {a b} h => decide_eq_false (by have := of_decide_eq_true h; simp only [UInt64.le_iff_toNat_le, UInt64.lt_iff_toNat_lt] at *; omega)
      have f : ∀ {a b : UInt64}, decide (b ≤ a) = false → decide (a < b) = true := fun {a b} h => decide_eq_true (by have := of_decide_eq_false h; simp only [UInt64.le_iff_toNat_le, UInt64.lt_iff_toNat_lt] at *; omega)
      unfold usV
      refine ⟨fun h1 => ⟨fun h2 => ?_, fun h2 => ⟨fun h3 => ?_, fun h3 => ⟨fun h4 => ?_, fun h4 => ?_⟩⟩⟩, fun h1 => ?_⟩
      · rw [h1, t h2]; exact ⟨rfl, trivial⟩
      · rw [h1, f h2, t h3]; exact ⟨rfl, trivial⟩
      · rw [h1, f h2, f h3, t h4]; exact ⟨rfl, trivial⟩
      · rw [h1, f h2, f h3, f h4]; exact ⟨rfl, trivial⟩
      · rw [h1]; exact ⟨rfl, trivial⟩
    · cases h
  · cases h
theorem conUsR : Con Tryz.prog 13 gUs := con_of_vcs fun args ps res h hp => by
  unfold gUs at h
  split at h
  · rename_i cn cr now
    split at h
    · rename_i s r hs hr
      cases h
      have e := snOf_eq hs
      subst e
      have e := rulOf_eq hr
      subst e
      refine ⟨EUr, 100, rfl, eok (gs := [(_, gAge)]) ⟨conAgeR, trivial⟩, Eq.mpr (vcUsR s r now) ?_⟩
      have em : UInt64.ofNat 18446744073709543423 = 18446744073709543423 := rfl
      simp only [em]
      unfold usV
      refine ⟨fun h1 => ?_, fun h1 => ?_⟩
      · rw [h1, lt_min3]; exact ⟨rfl, trivial⟩
      · rw [h1]; exact ⟨rfl, trivial⟩
    · cases h
  · cases h
end Go.Proofs.YtimjfjlaoekfkaaGreat

/- A step towards SessionValuesSaid: no conditions. -/

namespace Go.Cds
open Go Go.Eng Go.Cod Go.Dae Go.Win
theorem nxV_lt (l : List UInt8) (a : Int) {n : Int} (h : 1 ≤ n) : 0 ≤ nxV l a n ∧ nxV l a n < n := by
  refine ⟨(nxV_rng l a n).1, ?_⟩
  unfold nxV
  split
  · exact Int.tmod_lt_of_pos _ (by omega)
  · omega
theorem nx3_rng {l : List UInt8} {a : Int} (h : 0 ≤ a ∧ a ≤ l.length) : 0 ≤ nx3 l a ∧ nx3 l a ≤ l.length := nxA_rng _ (nxA_rng _ (nxA_rng _ h))
theorem ior_nn {x y : Int} (hx : 0 ≤ x ∧ x < 4294967296) (hy : 0 ≤ y ∧ y < 4294967296) : 0 ≤ ior x y ∧ ior x y < 4294967296 := by
  obtain ⟨a, rfl⟩ := Int.eq_ofNat_of_zero_le hx.1
  obtain ⟨b, rfl⟩ := Int.eq_ofNat_of_zero_le hy.1
  have ha : a < 2 ^ 32 := by have := hx.2; omega
  have hb : b < 2 ^ 32 := by have := hy.2; omega
  have h := Nat.or_lt_two_pow ha hb
  have e : (BitVec.ofInt 64 (a : Int) ||| BitVec.ofInt 64 (b : Int)).toNat = a ||| b := by
    rw [BitVec.toNat_or]
    have g : ∀ c : Nat, c < 2 ^ 32 → (BitVec.ofInt 64 (c : Int)).toNat = c := fun c hc => by
      rw [BitVec.toNat_ofInt]; omega
    rw [g a ha, g b hb]
  have e2 : ior (a : Int) (b : Int) = ((a ||| b : Nat) : Int) := by
    unfold ior
    rw [BitVec.toInt_eq_toNat_of_lt (by rw [e]; omega), e]
  rw [e2]
  omega
theorem bigV_nn (l : List UInt8) (a : Int) {n : Int} (h : 1 ≤ n) : 0 ≤ bigV l a n ∧ bigV l a n < n := by
  unfold bigV
  have v1 := nxV_rng l a 256
  have v2 := nxV_rng l (nxA l a 256) 256
  have v3 := nxV_rng l (nxA l (nxA l a 256) 256) 256
  have h1 := ior_nn (x := nxV l a 256 * (2 : Int) ^ 16) (y := nxV l (nxA l a 256) 256 * (2 : Int) ^ 8) (by omega) (by omega)
  have h2 := ior_nn h1 (y := nxV l (nxA l (nxA l a 256) 256) 256) (by omega)
  exact ⟨Int.tmod_nonneg _ h2.1, Int.tmod_lt_of_pos _ (by omega)⟩
theorem inI_mul {a b : Int} (h1 : 0 ≤ a ∧ a ≤ 1000000) (h2 : 0 ≤ b ∧ b ≤ 100000) : 0 ≤ a * b ∧ a * b ≤ 100000000000 := by
  have h3 : a * b ≤ 1000000 * 100000 := Int.mul_le_mul h1.2 h2.2 h2.1 (by omega)
  exact ⟨Int.mul_nonneg h1.1 h2.1, by omega⟩
def peerC (pk ip : List UInt8) (b : Bool) (po ka : Int) : VL :=
  List.map eu8 pk ++ (List.map eu8 (List.replicate 32 0) ++ Value.bool b :: Value.bool false :: (List.map eu8 ip ++ ei64 po :: ei64 ka :: (List.map eu8 (List.replicate 12 0) ++ Value.bool false :: ei64 0 :: Value.bool false :: eu32 0 :: (List.map eu8 (List.replicate 32 0) ++ (List.map eu8 (List.replicate 32 0) ++ (List.map eu8 (List.replicate 32 0) ++ ei64 0 :: ei64 0 :: Value.bool false :: (List.map eu8 (List.replicate 16 0) ++ ei64 0 :: (List.map eu8 (List.replicate 16 0) ++
  Value.bool false :: eu32 0 :: eu32 0 :: (List.map eu8 (List.replicate 32 0) ++ (List.map eu8 (List.replicate 32 0) ++ eu64 0 :: eu64 0 :: Value.bool false :: eu64 0 :: (List.map eu64 (List.replicate 4 0) ++ ei64 0 :: Value.bool false ::
  Value.bool false :: eu32 0 :: eu32 0 :: (List.map eu8 (List.replicate 32 0) ++ (List.map eu8 (List.replicate 32 0) ++ eu64 0 :: eu64 0 :: Value.bool false :: eu64 0 :: (List.map eu64 (List.replicate 4 0) ++ ei64 0 :: Value.bool false ::
  Value.bool false :: eu32 0 :: eu32 0 :: (List.map eu8 (List.replicate 32 0) ++ (List.map eu8 (List.replicate 32 0) ++ eu64 0 :: eu64 0 :: Value.bool false :: eu64 0 :: (List.map eu64 (List.replicate 4 0) ++ [ei64 0, Value.bool false, Value.slice none 0 0])))))))))))))))))
set_option maxRecDepth 100000 in
theorem peerC_ok {pk ip : List UInt8} {b : Bool} {po ka : Int} (h : pk.length = 32) (h2 : ip.length = 16) : WU ksP (peerC pk ip b po ka) ∧ (peerC pk ip b po ka).getD 65 (.bool false) = .bool false := by
  constructor
  · exact ⟨_, _, rfl, by simpa using h, is8s _, _, _, rfl, by simp, is8s _, _, _, rfl, isB _, _, _, rfl, isB _, _, _, rfl, by simpa using h2, is8s _, _, _, rfl, isI _, _, _, rfl, isI _, _, _, rfl, by simp, is8s _, _, _, rfl, isB _, _, _, rfl, isI _,
      _, _, rfl, isB _, _, _, rfl, is32 _, _, _, rfl, by simp, is8s _, _, _, rfl, by simp, is8s _, _, _, rfl, by simp, is8s _, _, _, rfl, isI _, _, _, rfl, isI _, _, _, rfl, isB _, _, _, rfl, by simp, is8s _, _, _, rfl, isI _, _, _, rfl, by simp, is8s _,
      _, _, rfl, isB _, _, _, rfl, is32 _, _, _, rfl, is32 _, _, _, rfl, by simp, is8s _, _, _, rfl, by simp, is8s _, _, _, rfl, is64 _, _, _, rfl, is64 _, _, _, rfl, isB _, _, _, rfl, is64 _, _, _, rfl, by simp, is64s _, _, _, rfl, isI _, _, _, rfl, isB _,
      _, _, rfl, isB _, _, _, rfl, is32 _, _, _, rfl, is32 _, _, _, rfl, by simp, is8s _, _, _, rfl, by simp, is8s _, _, _, rfl, is64 _, _, _, rfl, is64 _, _, _, rfl, isB _, _, _, rfl, is64 _, _, _, rfl, by simp, is64s _, _, _, rfl, isI _, _, _, rfl, isB _,
      _, _, rfl, isB _, _, _, rfl, is32 _, _, _, rfl, is32 _, _, _, rfl, by simp, is8s _, _, _, rfl, by simp, is8s _, _, _, rfl, is64 _, _, _, rfl, is64 _, _, _, rfl, isB _, _, _, rfl, is64 _, _, _, rfl, by simp, is64s _, _, _, rfl, isI _, _, _, rfl, isB _, _, _, rfl, rfl, rfl⟩
  · unfold peerC
    rw [List.getD_eq_getElem?_getD, List.getElem?_append_right (by simp [h]), List.getElem?_append_right (by simp [h])]
    simp [h]
end Go.Cds
namespace Go.Dae
open Go Go.Eng Go.Cds
theorem PRow.snoc {n : Nat} {l e : VL} (h : PRow n l) (he : WU ksP e ∧ e.getD 65 (.bool false) = .bool false) : PRow (n + 1) (l.take (n * 464) ++ e) := by
  have hel : e.length = 464 := he.1.len
  have hl := h.1.1
  rw [h.1.all]
  refine ⟨h.1.app (Row.one (WT_of he.1) hel), fun i hi => ?_⟩
  rw [getD_sub (by omega)]
  by_cases hn : i < n
  · have h1 := h.2 i hn
    rw [getD_sub (by omega)] at h1
    have h2 := Nat.mul_le_mul_right 464 (show i + 1 ≤ n from hn)
    rw [List.getD_eq_getElem?_getD, List.getElem?_append_left (by omega), ← List.getD_eq_getElem?_getD]
    exact h1
  · have hi2 : i = n := by omega
    subst hi2
    rw [List.getD_eq_getElem?_getD, List.getElem?_append_right (by omega), hl, show i * 464 + 65 - i * 464 = 65 by omega, ← List.getD_eq_getElem?_getD, he.2]
    rfl
theorem peerK_len (i : Int) : (peerK i).length = 32 := rfl
theorem Dm.Bd.len {d : Dm} (h : d.Bd) : (Dm.mk d.r d.priv d.pub d.port d.rnd d.now d.np d.ps d.nr d.rs d.ns d.ss d.nt d.ts d.sec d.sat d.rc.length d.rc d.nb d.bk d.bad).Bd := ⟨h.jt0, h.jt, h.now0, h.now⟩
end Go.Dae
namespace Go.Proofs.YtimjfjlaoekfkaaGreat
open Go Go.Eng Go.Cod Go.Cds Go.Dae Go.Win
set_option maxRecDepth 100000
set_option maxHeartbeats 16000000 in
theorem law_vals (s : Sn) (r : Rul) (now : Int) (l : List UInt8) : vcFn ELw 400 3 [.w (.agg (snC s)), .w (.agg (rulC r)), .s (.i64 now), .s (.xs 1 (.s l.length) (.u8 l))] (.s (.b true)) := by
  refine Eq.mpr (vcLaw s r now l) ?_
  simp (config := { maxSteps := 10000000 }) only [forall_eq]
  have hl : (l.take (min (l.length : Int) (Int.ofNat 160)).toNat).length ≤ 160 := by rw [List.length_take]; simp only [Int.ofNat_eq_natCast]; omega
  generalize l.take (min (l.length : Int) (Int.ofNat 160)).toNat = k at *
  have e0 : Int.ofNat 0 = 0 := rfl
  have e1 : Int.ofNat 1 = 1 := rfl
  have e2 : Int.ofNat 2 = 2 := rfl
  have e3 : Int.ofNat 3 = 3 := rfl
  have e4 : Int.ofNat 4 = 4 := rfl
  have e5 : Int.ofNat 5 = 5 := rfl
  have e6 : Int.ofNat 6 = 6 := rfl
  have e8 : Int.ofNat 8 = 8 := rfl
  have e10 : Int.ofNat 10 = 10 := rfl
  have e16 : Int.ofNat 16 = 16 := rfl
  have e20 : Int.ofNat 20 = 20 := rfl
  have e30 : Int.ofNat 30 = 30 := rfl
  have e40 : Int.ofNat 40 = 40 := rfl
  have e60 : Int.ofNat 60 = 60 := rfl
  have e160 : Int.ofNat 160 = 160 := rfl
  have e200 : Int.ofNat 200 = 200 := rfl
  have e500 : Int.ofNat 500 = 500 := rfl
  have ea : Int.ofNat 1000 = 1000 := rfl
  have eb : Int.ofNat 2000 = 2000 := rfl
  have ec : Int.ofNat 20000 = 20000 := rfl
  have ed : Int.ofNat 30000 = 30000 := rfl
  have ee : Int.ofNat 65536 = 65536 := rfl
  have ef : Int.ofNat 16777216 = 16777216 := rfl
  have eg : Int.ofNat 90000 = 90000 := rfl
  simp (config := { maxSteps := 10000000 }) only [e0, e1, e2, e3, e4, e5, e6, e8, e10, e16, e20, e30, e40, e60, e160, e200, e500, ea, eb, ec, ed, ee, ef, eg, true_and, and_true, true_implies, Int.toNat_natCast, Nat.zero_add, dropL, decide_eq_true_eq, decide_eq_false_iff_not, bne_self_eq_false, beq_self_eq_true, Bool.and_self, Bool.not_true, ne_eq, not_true_eq_false, not_false_eq_true, false_implies, Bool.false_eq_true, implies_true, Nat.le_refl]
  have h0 : 0 ≤ (0 : Int) ∧ (0 : Int) ≤ k.length := by omega
  have rA1 := nxA_rng 40 h0
  generalize nxA k 0 40 = A1 at *
  have wA1 := nxV_lt k A1 (show (1 : Int) ≤ 20 by decide)
  generalize nxV k A1 20 = vA1 at *
  have rA2 := nxA_rng 20 rA1
  generalize nxA k A1 20 = A2 at *
  have wA2 := nxV_lt k A2 (show (1 : Int) ≤ 5 by decide)
  generalize nxV k A2 5 = vA2 at *
  have rA3 := nxA_rng 5 rA2
  generalize nxA k A2 5 = A3 at *
  have wA3 := nxV_lt k A3 (show (1 : Int) ≤ 5 by decide)
  generalize nxV k A3 5 = vA3 at *
  have rA4 := nxA_rng 5 rA3
  generalize nxA k A3 5 = A4 at *
  have wA4 := nxV_lt k A4 (show (1 : Int) ≤ 6 by decide)
  generalize nxV k A4 6 = vA4 at *
  have rA5 := nxA_rng 6 rA4
  generalize nxA k A4 6 = A5 at *
  have wA5 := nxV_lt k A5 (show (1 : Int) ≤ 8 by decide)
  generalize nxV k A5 8 = vA5 at *
  have rA6 := nxA_rng 8 rA5
  generalize nxA k A5 8 = A6 at *
  have rA7 := nxA_rng 60 rA6
  generalize nxA k A6 60 = A7 at *
  have wA7 := nxV_lt k A7 (show (1 : Int) ≤ 40 by decide)
  generalize nxV k A7 40 = vA7 at *
  have rA8 := nxA_rng 40 rA7
  generalize nxA k A7 40 = A8 at *
  have wA8 := nxV_lt k A8 (show (1 : Int) ≤ 5 by decide)
  generalize nxV k A8 5 = vA8 at *
  have rA9 := nxA_rng 5 rA8
  generalize nxA k A8 5 = A9 at *
  have rA10 := nxA_rng 4 rA9
  generalize nxA k A9 4 = A10 at *
  have rA11 := nxA_rng 256 rA10
  generalize nxA k A10 256 = A11 at *
  have rA12 := nxA_rng 256 rA11
  generalize nxA k A11 256 = A12 at *
  have rA13 := nx3_rng rA12
  generalize nx3 k A12 = A13 at *
  have rA14 := nxA_rng 256 rA13
  generalize nxA k A13 256 = A14 at *
  have wN := bigV_nn k A14 (show (1 : Int) ≤ 16777216 by decide)
  generalize bigV k A14 16777216 = nw at *
  have rA15 := nx3_rng rA14
  generalize nx3 k A14 = A15 at *
  have rA16 := nxA_rng 256 rA15
  generalize nxA k A15 256 = A16 at *
  have wA16 := nxV_lt k A16 (show (1 : Int) ≤ 2 by decide)
  generalize nxV k A16 2 = vA16 at *
  have rA17 := nxA_rng 2 rA16
  generalize nxA k A16 2 = A17 at *
  have wA17 := nxV_lt k A17 (show (1 : Int) ≤ 2 by decide)
  generalize nxV k A17 2 = vA17 at *
  have rA18 := nxA_rng 2 rA17
  generalize nxA k A17 2 = A18 at *
  have wm := inI_mul (a := vA16) (b := min nw 20000) (by omega) (by omega)
  generalize vA16 * min nw 20000 = pm at *
  have wq := inI_mul (a := 1000 + vA2 * 500) (b := 1 + vA8) (by omega) (by omega)
  generalize (1000 + vA2 * 500) * (1 + vA8) = pq at *
  repeat (refine ⟨by first | omega | (unfold InI; omega), ?_⟩)
  refine ⟨fun _ => ⟨(_, _), rfl, rfl⟩, fun _ => ⟨(_, _), rfl, rfl⟩, fun c => ?_⟩
  obtain ⟨c1, c2⟩ := c
  dsimp only
  repeat (refine ⟨by first | omega | (unfold InI; omega), ?_⟩)
  refine ⟨⟨⟨(0, A18, ⟨⟨_, _, _, _, _, _, _, _, _, _⟩, _, _, _, _, _, 0, [], 0, [], 0, [], 0, [], _, _, 0, [], 0, [], _⟩), ⟨Nat.zero_le _, rA18, ⟨⟨Row.nil, fun i h => absurd h (Nat.not_lt_zero i)⟩, Row.nil, Row.nil, Row.nil, rfl, rfl, rfl, rfl, Nat.zero_le _, Nat.zero_le _, Nat.zero_le _, Nat.zero_le _⟩, ⟨by dsimp only; omega, by dsimp only; omega, by dsimp only; omega, by dsimp only; omega⟩, Nat.zero_le _, Nat.zero_le _, Nat.zero_le _, rfl⟩, rfl, rfl, rfl, rfl, rfl, rfl, rfl, rfl, rfl, rfl, rfl, rfl, rfl, rfl, rfl, rfl, rfl, rfl, rfl, rfl, rfl, rfl, rfl, rfl, rfl, rfl, rfl, rfl, rfl, rfl, rfl, rfl, rfl, rfl, rfl, rfl, rfl, rfl⟩, fun x hx => ⟨fun h => ?_, fun h => ?_⟩⟩, fun y hy => ?_⟩
  · obtain ⟨i, at0, d⟩ := x
    obtain ⟨hi, hat, hd, hbd, hnp, hnr, hnt, hns⟩ := hx
    dsimp only at *
    have t2 := hd.hr.all
    have t4 := hd.ht.all
    have hj0 := hbd.jt0
    have hj1 := hbd.jt
    have hn0 := hbd.now0
    have hn1 := hbd.now
    have hpl := hd.hp.1.1
    simp only [t2, t4]
    repeat (refine ⟨by first | omega | (unfold InI; omega), ?_⟩)
    refine ⟨fun _ => ⟨by unfold InI; omega, by unfold InI; omega, ([UInt8.ofNat 192, UInt8.ofNat 0, UInt8.ofNat 2, to8 ((i : Int) + 1), 0, 0, 0, 0, 0, 0, 0, 0, 0, 0, 0, 0], 1000 + (i : Int)), rfl, rfl, rfl⟩, fun _ => ⟨(List.replicate 16 0, 0), rfl, rfl, rfl⟩, fun y158 h16 => ?_⟩
    obtain ⟨ip, po⟩ := y158
    dsimp only at *
    have ra := nxA_rng 8 hat
    have rb := nxA_rng 4 ra
    have rc := nxA_rng 30 rb
    have rd := nxA_rng 200 rc
    have vb := nxV_lt k (nxA k (nxA k at0 8) 4) (show (1 : Int) ≤ 30 by decide)
    have vc := nxV_lt k (nxA k (nxA k (nxA k at0 8) 4) 30) (show (1 : Int) ≤ 200 by decide)
    refine ⟨ra.1, ra.2, by omega, fun hk => ?_, fun hk => ?_⟩
    · have hcl := (canRow (k := peerK (i : Int)) (q := 4) hd.ht d.nt (Nat.le_refl _)).2
      have hset : Row ksT 34 ((canL d.ts (peerK (i : Int)) 4 d.nt).1 + 1) (setL d.ts d.nt (d.now + 1 + nxV k (nxA k (nxA k (nxA k at0 8) 4) 30) 200 * 10) (peerK (i : Int)) 4) := setRow hd.ht (peerK_len _)
      repeat (refine ⟨by first | omega | (unfold InI; omega) | exact hd.ht | exact hd.hr, ?_⟩)
      intro a ha
      obtain ⟨nr', rs', e'⟩ := a
      obtain ⟨ha1, ha2⟩ := ha
      dsimp only at *
      refine ⟨by unfold InI; omega, (i + 1, nxA k (nxA k (nxA k (nxA k at0 8) 4) 30) 200, { d with np := d.np + 1, ps := List.take (d.np * 464) d.ps ++ peerC (peerK (i : Int)) ip (decide (0 < nxV k at0 8)) po (1000 * (1 + nxV k (nxA k (nxA k at0 8) 4) 30)), nr := nr', rs := rs', nt := (canL d.ts (peerK (i : Int)) 4 d.nt).1 + 1, ts := setL d.ts d.nt (d.now + 1 + nxV k (nxA k (nxA k (nxA k at0 8) 4) 30) 200 * 10) (peerK (i : Int)) 4 }), ⟨by dsimp only; omega, rd, ⟨hd.hp.snoc (peerC_ok (peerK_len _) h16), ha2, hd.hs, hset, hd.hc, hd.hrc, hd.hb, hd.hbk, by dsimp only; omega, by dsimp only; omega, hd.ns, by dsimp only; omega⟩, ⟨hbd.jt0, hbd.jt, hbd.now0, hbd.now⟩, by dsimp only; omega, by dsimp only; omega, by dsimp only; omega, hns⟩, by dsimp only; omega, by dsimp only; omega, ?_⟩
      and_intros <;> first | rfl | (dsimp only; omega)
    · repeat (refine ⟨by first | omega | (unfold InI; omega) | exact hd.ht | exact hd.hr, ?_⟩)
      intro a ha
      obtain ⟨nr', rs', e'⟩ := a
      obtain ⟨ha1, ha2⟩ := ha
      dsimp only at *
      refine ⟨by unfold InI; omega, (i + 1, nxA k (nxA k at0 8) 4, { d with np := d.np + 1, ps := List.take (d.np * 464) d.ps ++ peerC (peerK (i : Int)) ip (decide (0 < nxV k at0 8)) po 0, nr := nr', rs := rs' }), ⟨by dsimp only; omega, rb, ⟨hd.hp.snoc (peerC_ok (peerK_len _) h16), ha2, hd.hs, hd.ht, hd.hc, hd.hrc, hd.hb, hd.hbk, by dsimp only; omega, by dsimp only; omega, hd.ns, hd.nt⟩, ⟨hbd.jt0, hbd.jt, hbd.now0, hbd.now⟩, by dsimp only; omega, by dsimp only; omega, by dsimp only; omega, hns⟩, by dsimp only; omega, by dsimp only; omega, ?_⟩
      and_intros <;> first | rfl | (dsimp only; omega)
  · obtain ⟨i, at0, d⟩ := x
    obtain ⟨hi, hat, hd, hbd, hnp, hnr, hnt, hns⟩ := hx
    dsimp only at *
    have t1 := hd.hp.1.all
    have t2 := hd.hr.all
    have t3 := hd.hs.all
    have t4 := hd.ht.all
    have trc : List.take d.nc d.rc = d.rc := by rw [hd.hrc]; exact List.take_nil
    have tbk : List.take (d.nb * 19) d.bk = d.bk := by rw [hd.hbk]; exact List.take_nil
    refine ⟨(at0, d), ⟨hat, hd, hbd, hns, by dsimp only; omega⟩, ?_⟩
    and_intros <;> first | rfl | exact t1 | exact t2 | exact t3 | exact t4 | exact trc | exact tbk | omega
  · obtain ⟨at1, d1⟩ := y
    obtain ⟨hat1, hd1, hbd1, hns1, hnt1⟩ := hy
    dsimp only at *
    refine ⟨⟨(0, at1, d1), ⟨Nat.zero_le _, hat1, hd1, hbd1, by dsimp only; omega, by dsimp only; omega⟩, by and_intros <;> rfl⟩, fun x hx => ⟨fun h => ?_, fun h => ?_⟩⟩
    · obtain ⟨i, at2, d2⟩ := x
      obtain ⟨hi, hat2, hd2, hbd2, hns2, hnt2⟩ := hx
      dsimp only at *
      have ra := nxA_rng 4 hat2
      have va := nxV_lt k at2 (show (1 : Int) ≤ 4 by decide)
      refine ⟨hat2.1, hat2.2, by omega, ⟨((nxV k at2 4).toNat, nxA k at2 4, d2), ⟨by dsimp only; omega, ra, hd2, hbd2, by dsimp only; omega, by dsimp only; omega⟩, by dsimp only; omega, by and_intros <;> rfl⟩, fun x hx => ⟨fun h2 => ?_, fun h2 => ?_⟩⟩
      · obtain ⟨j, at3, d3⟩ := x
        obtain ⟨hj, hat3, hd3, hbd3, hns3, hnt3⟩ := hx
        dsimp only at *
        have rs := sesA_rng hat3
        have rt := nxA_rng 2 rs
        have hn0 := hbd3.now0
        have hn1 := hbd3.now
        have hdl := hd3.len
        have hbl := hbd3.len
        repeat (refine ⟨by first | omega | (unfold InI; omega) | exact hdl | exact hbl, ?_⟩)
        intro a ha
        obtain ⟨d4, e4⟩ := a
        obtain ⟨ha1, ha2, ha3, ha4⟩ := ha
        dsimp only at *
        exact ⟨by unfold InI; omega, (j - 1, nxA k (sesA k at3) 2, d4), ⟨by dsimp only; omega, rt, ha1, ha2, by dsimp only; omega, by dsimp only; omega⟩, by dsimp only; omega, by dsimp only; omega, by and_intros <;> rfl⟩
      · obtain ⟨j, at3, d3⟩ := x
        obtain ⟨hj, hat3, hd3, hbd3, hns3, hnt3⟩ := hx
        dsimp only at *
        exact ⟨by unfold InI; omega, (i + 1, at3, d3), ⟨by dsimp only; omega, hat3, hd3, hbd3, by dsimp only; omega, by dsimp only; omega⟩, by dsimp only; omega, by dsimp only; omega, by and_intros <;> rfl⟩
    · obtain ⟨i, at2, d2⟩ := x
      obtain ⟨hi, hat2, hd2, hbd2, hns2, hnt2⟩ := hx
      dsimp only at *
      have rs := sesA_rng hat2
      have hn0 := hbd2.now0
      have hn1 := hbd2.now
      have hm := modV_rng now (show (1 : Int) ≤ 90000 by decide)
      exact ⟨hat2.1, hat2.2, by omega, hn0, hn1, by omega, by omega, by unfold InI; omega, by omega, by omega, by unfold InI; omega⟩
end Go.Proofs.YtimjfjlaoekfkaaGreat

/- A step towards SessionValuesSaid: no conditions. -/

namespace Go.Msg
open Go Go.Eng Go.Cod
def tranL (r : UInt32) (c : UInt64) (b : List UInt8) : List UInt8 := [4, 0, 0, 0] ++ (littleL r.toUInt64 4 ++ (littleL c 8 ++ b))
def tranR (r : UInt32) (c : UInt64) (b : List UInt8) : List UInt8 := if b.length < 16 then [] else if 2084 < b.length then [] else tranL r c b
def tranE (b : List UInt8) : Int := if b.length < 16 then 2 else if 2084 < b.length then 3 else 0
def gTran : SpecF := fun args => match args with
  | [.w (.agg [.one (.u32 r), .one (.u64 c), .one (.xs 1 (.s m) (.u8 b))])] => some ([m = b.length, m ≤ 4294967296], .tup [.s (.xs 1 (.s (tranR r c b).length) (.u8 (tranR r c b))), .s (.i64 (tranE b))])
  | _ => none
def gTrue0 : SpecF := fun args => match args with
  | [] => some ([], .s (.b true))
  | _ => none
end Go.Msg
