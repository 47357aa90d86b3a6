/- A step towards MacsCookiesSaid: no conditions. -/
import Derived.Test.YtbannfdoiiojgaaJChaSpec

/-! choices from a list of numbers -/
namespace Go.Cds
open Go Go.Eng Go.Cod
abbrev BS := List UInt8
noncomputable def nrmCs : List Ch → List Ch
  | [] => []
  | .one (.n k) :: r => .one (.i64 k) :: nrmCs r
  | c :: r => c :: nrmCs r
noncomputable def nrm (g : SpecM) : SpecM := fun cs o args => g (nrmCs cs) o args
def nxV (l : BS) (at_ n : Int) : Int := if at_ < l.length ∧ 1 ≤ n then ((l.getD at_.toNat 0).toNat : Int).tmod n else 0
def nxA (l : BS) (at_ n : Int) : Int := if at_ < l.length ∧ 1 ≤ n then at_ + 1 else at_
def gmNext : SpecM := fun cs o args => match cs, o, args with
  | [.one (.xs 1 (.s m) (.u8 l)), .one (.i64 a)], 0, [.w (.s (.i64 n))] => some ([0 ≤ a, a ≤ l.length, l.length ≤ 4294967296], .s (.i64 (nxV l a n)), [.one (.i64 (nxA l a n))])
  | _, _, _ => none
def byt16 (x s : Int) : BS := (List.range 16).map fun i => to8 (x + Int.ofNat i * s)
def bytL (l : BS) (a : Int) : BS := byt16 (nxV l a 256) (2 * nxA l a 256 + 1)
def gmBytes : SpecM := fun cs o args => match cs, o, args with
  | [.one (.xs 1 (.s m) (.u8 l)), .one (.i64 a)], 0, [.w (.s (.i64 n))] => match n with
    | .ofNat q => bif Nat.beq q 16 then some ([0 ≤ a, a ≤ l.length, l.length ≤ 4294967296], .s (.xs 1 (.n 16) (.u8 (bytL l a))), [.one (.i64 (nxA l a 256))]) else none
    | _ => none
  | _, _, _ => none
def nx3 (l : BS) (a : Int) : Int := nxA l (nxA l (nxA l a 256) 256) 256
def bigV (l : BS) (a n : Int) : Int := (ior (ior (nxV l a 256 * (2 : Int) ^ 16) (nxV l (nxA l a 256) 256 * (2 : Int) ^ 8)) (nxV l (nxA l (nxA l a 256) 256) 256)).tmod n
def gmBig : SpecM := fun cs o args => match cs, o, args with
  | [.one (.xs 1 (.s m) (.u8 l)), .one (.i64 a)], 0, [.w (.s (.i64 n))] => some ([0 ≤ a, a ≤ l.length, l.length ≤ 4294967296, 1 ≤ n], .s (.i64 (bigV l a n)), [.one (.i64 (nx3 l a))])
  | _, _, _ => none
def sixV (l : BS) (a : Int) : Bool := decide (nxV l a 3 = 1)
def ip4 (l : BS) (a : Int) : BS := over (List.replicate 16 0) 0 [UInt8.ofNat 10, to8 (nxV l (nxA l a 3) 4), to8 (nxV l (nxA l (nxA l a 3) 4) 4), to8 (nxV l (nxA l (nxA l (nxA l a 3) 4) 4) 256)]
def ipV (l : BS) (a : Int) : BS := if nxV l a 3 = 1 then (bytL l (nxA l a 3)).set 0 (UInt8.ofNat 253) else ip4 l a
def adA (l : BS) (a : Int) : Int := if nxV l a 3 = 1 then nxA l (nxA l a 3) 256 else nxA l (nxA l (nxA l (nxA l a 3) 4) 4) 256
def gmAddr : SpecM := fun cs o args => match cs, o, args with
  | [.one (.xs 1 (.s m) (.u8 l)), .one (.i64 a)], 0, [] => some ([0 ≤ a, a ≤ l.length, l.length ≤ 4294967296], .w (.agg [.one (.b (sixV l a)), .vec (.n 16) (.u8 (ipV l a))]), [.one (.i64 (adA l a))])
  | _, _, _ => none
def portV (l : BS) (a : Int) : Int := 1 + bigV l (adA l a) 65535
def gmEnd : SpecM := fun cs o args => match cs, o, args with
  | [.one (.xs 1 (.s m) (.u8 l)), .one (.i64 a)], 0, [] => some ([0 ≤ a, a ≤ l.length, l.length ≤ 4294967296], .w (.agg [.one (.b (sixV l a)), .vec (.n 16) (.u8 (ipV l a)), .one (.i64 (portV l a))]), [.one (.i64 (nx3 l (adA l a)))])
  | _, _, _ => none
/-! bounds -/
theorem nxA_rng {l : BS} {a : Int} (n : Int) (h : 0 ≤ a ∧ a ≤ l.length) : 0 ≤ nxA l a n ∧ nxA l a n ≤ l.length := by
  unfold nxA
  split <;> omega
theorem nxV_rng (l : BS) (a n : Int) : 0 ≤ nxV l a n ∧ nxV l a n ≤ 255 := by
  unfold nxV
  split
  · have h1 : (l.getD a.toNat 0).toNat < 256 := UInt8.toNat_lt _
    have h2 := Int.tmod_nonneg n (a := ((l.getD a.toNat 0).toNat : Int)) (by omega)
    have h3 : ((l.getD a.toNat 0).toNat : Int).tmod n ≤ (l.getD a.toNat 0).toNat := by
      rename_i hc
      obtain ⟨_, hn⟩ := hc
      obtain ⟨k, rfl⟩ := Int.eq_ofNat_of_zero_le (show 0 ≤ n by omega)
      have e : ((l.getD a.toNat 0).toNat : Int).tmod (k : Int) = (((l.getD a.toNat 0).toNat % k : Nat) : Int) := rfl
      rw [e]
      have := Nat.mod_le (l.getD a.toNat 0).toNat k
      omega
    omega
  · omega
end Go.Cds
