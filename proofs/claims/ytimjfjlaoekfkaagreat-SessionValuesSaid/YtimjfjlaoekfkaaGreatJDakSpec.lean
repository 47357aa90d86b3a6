/- Steps towards SessionValuesSaid. -/
import Derived.Test.YtimjfjlaoekfkaaGreatJDafSpec
import Derived.Test.YtimjfjlaoekfkaaGreatJCodSpec
/- A step towards SessionValuesSaid: no conditions. -/

namespace Go.Dae
open Go Go.Eng
def elT (l : VL) (i : Nat) : VL := (dropL l (i * 34)).take 34
def kyT (l : VL) (i : Nat) : BS := ((elT l i).drop 1 |>.take 32).map d8
def keepT (l : VL) (k : BS) (q : Int) (i : Nat) : Bool := !(kyT l i == k) || decide (dI ((elT l i).getD 33 (.bool false)) ≠ q)
def encT (l : VL) (i : Nat) : VL := ei64 (dI ((elT l i).getD 0 (.bool false))) :: ((kyT l i).map eu8 ++ [ei64 (dI ((elT l i).getD 33 (.bool false)))])
def canL (l : VL) (k : BS) (q : Int) : Nat → Nat × VL
  | 0 => (0, [])
  | i + 1 => if keepT l k q i = true then ((canL l k q i).1 + 1, (canL l k q i).2 ++ encT l i) else canL l k q i
noncomputable def gCan : SpecF := fun args => match args with
  | [.w (.s (.xs 34 (.s n) (.va l))), .w (.agg [.vec (.n 32) (.u8 k)]), .w (.s (.i64 q))] => some ([n ≤ 100000, Row ksT 34 n l], .s (.xs 34 (.s (canL l k q n).1) (.va (canL l k q n).2)))
  | _ => none
noncomputable def JCanG (σ : St) : Option Inv :=
  match getF σ.fr 10, names σ.fr 4, getF σ.fr 2 with
  | .w (.s (.xs _ (.s n) (.va l))), some kb, .w (.s (.i64 q)) => match getO σ.own kb with
    | some [.vec _ (.u8 k)] => some {
        α := Nat
        ok := fun a => a ≤ n
        mu := fun a => n - a
        keep := [2, 4, 6, 10, 11]
        slots := fun a => [(12, .s (.i64 a)), (7, .s (.sl σ.own.length 0 (.n 0) (.s (canL l k q a).1) 34))]
        own := fun _ => []
        ext := fun a => [(7, [.vec (.s ((canL l k q a).1 * 34)) (.va (canL l k q a).2)])] }
    | _ => none
  | _, _, _ => none
def lessAt (a : Int) (k : BS) (q : Int) (c : VL) (i : Nat) : Bool := lessT a k q (dI ((elT c i).getD 0 (.bool false))) (kyT c i) (dI ((elT c i).getD 33 (.bool false)))
def posT (a : Int) (k : BS) (q : Int) (c : VL) (m : Nat) : Nat := (List.range m).findIdx fun i => lessAt a k q c i
def setL (l : VL) (n : Nat) (a : Int) (k : BS) (q : Int) : VL :=
  (canL l k q n).2.take (posT a k q (canL l k q n).2 (canL l k q n).1 * 34) ++ ((ei64 a :: (k.map eu8 ++ [ei64 q])) ++ (canL l k q n).2.drop (posT a k q (canL l k q n).2 (canL l k q n).1 * 34))
noncomputable def gSetG : SpecF := fun args => match args with
  | [.w (.s (.xs 34 (.s n) (.va l))), .w (.agg [.one (.i64 a), .vec (.n 32) (.u8 k), .one (.i64 q)])] => some ([n ≤ 99999, Row ksT 34 n l], .s (.xs 34 (.s ((canL l k q n).1 + 1)) (.va (setL l n a k q))))
  | _ => none
noncomputable def JSetG (a : Int) (k : BS) (q : Int) (σ : St) : Option Inv :=
  match getF σ.fr 5, names σ.fr 5 with
  | .w (.s (.sl _ _ _ (.s m) _)), some kb => match getO σ.own kb with
    | some [.vec _ (.va c)] => some {
        α := Nat
        ok := fun i => i ≤ m ∧ ∀ j, j < i → lessAt a k q c j = false
        mu := fun i => m - i
        keep := [3, 4, 5]
        slots := fun i => [(6, .s (.i64 i))]
        own := fun _ => []
        ext := fun _ => [] }
    | _ => none
  | _, _ => none
end Go.Dae

/- A step towards SessionValuesSaid: no conditions. -/

namespace Go.Dae
open Go Go.Eng
def rulOf (cs : List Ch) : Option Rul :=
  match cs with
  | [.one (.u64 a), .one (.u64 b), .one (.i64 c), .one (.i64 d), .one (.i64 e), .one (.i64 f), .one (.i64 g), .one (.i64 h), .one (.i64 i), .one (.i64 j)] => some ⟨a, b, c, d, e, f, g, h, i, j⟩
  | _ => none
theorem rulOf_eq {cs : List Ch} {r : Rul} (h : rulOf cs = some r) : cs = rulC r := by
  unfold rulOf at h
  split at h
  · cases h; rfl
  · cases h
def dmOf2 (r : Rul) (cs : List Ch) : Option Dm :=
  match cs with
  | [.vec (.n 32) (.u8 priv), .vec (.n 32) (.u8 pub), .one (.i64 port), .vec (.n 32) (.u8 rnd), .one (.i64 now), .one (.xs 464 (.s np) (.va ps)), .one (.xs 50 (.s nr) (.va rs)), .one (.xs 34 (.s ns) (.va ss)), .one (.xs 34 (.s nt) (.va ts)), .vec (.n 32) (.u8 sec), .one (.i64 sat), .one (.xs 1 (.s nc) (.u8 rc)), .one (.xs 19 (.s nb) (.va bk)), .one (.i64 bad)] =>
    some ⟨r, priv, pub, port, rnd, now, np, ps, nr, rs, ns, ss, nt, ts, sec, sat, nc, rc, nb, bk, bad⟩
  | _ => none
def dmOf (cs : List Ch) : Option Dm :=
  match rulOf (cs.take 10) with
  | some r => dmOf2 r (cs.drop 10)
  | none => none
theorem dmOf_eq {cs : List Ch} {d : Dm} (h : dmOf cs = some d) : cs = dmC d := by
  unfold dmOf at h
  split at h
  · rename_i r hr
    have e := rulOf_eq hr
    rw [← List.take_append_drop 10 cs, e]
    generalize cs.drop 10 = t at *
    unfold dmOf2 at h
    split at h
    · cases h; rfl
    · cases h
  · cases h
noncomputable def gFindP : SpecH := fun args => match args with
  | [.w (.agg cs), .w (.agg [.vec (.n 32) (.u8 k)])] => match dmOf cs with
    | some d => some ([d.Ok], HFindP d.np)
    | none => none
  | _ => none
def HBool : HRes where
  α := Bool
  ok := fun _ => True
  res := fun a => .s (.b a)
noncomputable def gValD : SpecH := fun args => match args with
  | [.w (.agg cs)] => match dmOf cs with
    | some d => some ([d.Ok], HBool)
    | none => none
  | _ => none
structure Dm.Bd (d : Dm) : Prop where
  jt0 : 0 ≤ d.r.jt
  jt : d.r.jt ≤ 1000000000
  now0 : 0 ≤ d.now
  now : d.now ≤ 1000000000
def HInst (d : Dm) : HRes where
  α := Dm × Int
  ok := fun a => a.1.Ok ∧ a.1.Bd ∧ a.1.ns ≤ d.ns + 1 ∧ a.1.nt ≤ d.nt + 1
  res := fun a => .tup [.agg (dmC a.1), .s (.i64 a.2)]
noncomputable def JCopyI (σ : St) : Option Inv :=
  match Nat.beq σ.fr.length 63, names σ.fr 1 with
  | true, some kd => match getO σ.own kd with
    | some cs => match (List.getD cs 15 (Ch.one .any)) with
      | Ch.one (S.sl kp _ _ (.s np) _) => some {
          α := Nat × VL
          ok := fun a => a.1 ≤ np ∧ PRow np a.2
          mu := fun a => np - a.1
          keep := [1, 2, 13]
          slots := fun a => [(14, .s (.i64 a.1))]
          own := fun a => [(kp, some [.vec (.s (np * 464)) (.va a.2)])]
          ext := fun _ => [] }
      | _ => none
    | none => none
  | _, _ => none
end Go.Dae

/- A step towards SessionValuesSaid: no conditions. -/

namespace Go.Cds
open Go Go.Eng Go.Cod Go.Dae Go.Win
def byt32 (x s : Int) : BS := (List.range 32).map fun i => to8 (x + Int.ofNat i * s)
def keyL (l : BS) (a : Int) : BS := byt32 (nxV l a 256) (2 * nxA l a 256 + 1)
def gmByt : SpecM := fun cs o args => match cs, o, args with
  | [.one (.xs 1 (.s m) (.u8 l)), .one (.i64 a)], 0, [.w (.s (.i64 n))] => match n with
    | .ofNat q => bif Nat.beq q 32 then some ([0 ≤ a, a ≤ l.length, l.length ≤ 4294967296], .s (.xs 1 (.n 32) (.u8 (keyL l a))), [.one (.i64 (nxA l a 256))]) else none
    | _ => none
  | _, _, _ => none
def gmKey : SpecM := fun cs o args => match cs, o, args with
  | [.one (.xs 1 (.s m) (.u8 l)), .one (.i64 a)], 0, [] => some ([0 ≤ a, a ≤ l.length, l.length ≤ 4294967296], .w (.agg [.vec (.n 32) (.u8 (keyL l a))]), [.one (.i64 (nxA l a 256))])
  | _, _, _ => none
def gmBool : SpecM := fun cs o args => match cs, o, args with
  | [.one (.xs 1 (.s m) (.u8 l)), .one (.i64 a)], 0, [] => some ([0 ≤ a, a ≤ l.length, l.length ≤ 4294967296], .s (.b (decide (nxV l a 2 = 1))), [.one (.i64 (nxA l a 2))])
  | _, _, _ => none
def bornV (l : BS) (a now : Int) : Int := now - min now (nxV l a 12 * 5000)
def sA4 (l : BS) (a : Int) : Int := nxA l (nxA l (nxA l (nxA l a 12) 256) 256) 2
def sendV (l : BS) (a : Int) (lo : UInt32) : BS := ((keyL l (nxA l a 12)).set 0 lo.toUInt8).set 1 1
def recvV (l : BS) (a : Int) (lo : UInt32) : BS := ((keyL l (nxA l (nxA l a 12) 256)).set 0 lo.toUInt8).set 1 2
def iniV (l : BS) (a : Int) : Bool := decide (nxV l (nxA l (nxA l (nxA l a 12) 256) 256) 2 = 1)
def sA6 (l : BS) (a : Int) : Int :=
  if nxV l (sA4 l a) 4 = 1 then nxA l (nxA l (sA4 l a) 4) 40 else if nxV l (sA4 l a) 4 = 2 then nxA l (nxA l (sA4 l a) 4) 4 else nxA l (sA4 l a) 4
def nextV (l : BS) (a : Int) (jm : UInt64) : UInt64 :=
  if nxV l (sA4 l a) 4 = 1 then to64 (nxV l (nxA l (sA4 l a) 4) 40) else if nxV l (sA4 l a) 4 = 2 then jm - (if to64 (nxV l (nxA l (sA4 l a) 4) 4) < jm then to64 (nxV l (nxA l (sA4 l a) 4) 4) else jm) else 0
def winA (l : BS) (a : Int) : Nat → Int
  | 0 => a
  | n + 1 => nxA l (winA l a n) 8
def winW (l : BS) (a : Int) : Nat → Win
  | 0 => ⟨false, 0, List.replicate 4 0⟩
  | n + 1 => acc (winW l a n) (to64 (nxV l (winA l a n) 8))
def sA7 (l : BS) (a : Int) : Int := nxA l (sA6 l a) 4
def sK (l : BS) (a : Int) : Nat := (nxV l (sA6 l a) 4).toNat
def sesV (l : BS) (a now : Int) (jm : UInt64) (lo : UInt32) : Sn :=
  ⟨lo, 7000 + lo, sendV l a lo, recvV l a lo, nextV l a jm, jm, (winW l (sA7 l a) (sK l a)).u, (winW l (sA7 l a) (sK l a)).t, (winW l (sA7 l a) (sK l a)).ws, bornV l a now, iniV l a⟩
def sesA (l : BS) (a : Int) : Int := winA l (sA7 l a) (sK l a)
def gNewD : SpecF := fun args => match args with
  | [.w (.s (.u32 lo)), .w (.s (.u32 re)), .w (.agg [.vec (.n 32) (.u8 sd)]), .w (.agg [.vec (.n 32) (.u8 rv)]), .w (.s (.i64 bo)), .w (.s (.b ini)), .w (.s (.u64 fe))] => some ([], .w (.agg [.one (.u32 lo), .one (.u32 re), .vec (.n 32) (.u8 sd), .vec (.n 32) (.u8 rv), .one (.u64 0), .one (.u64 fe), .one (.b false), .one (.u64 0), .vec (.n 4) (.u64 (List.replicate 4 0)), .one (.i64 bo), .one (.b ini)]))
  | _ => none
def dmA (d : Dm) : List Ch := rulC d.r ++ [.vec (.n 32) (.u8 d.priv), .vec (.n 32) (.u8 d.pub), .one (.i64 d.port), .vec (.n 32) (.u8 d.rnd), .one (.i64 d.now), .one .any, .one .any, .one .any, .one .any, .vec (.n 32) (.u8 d.sec), .one (.i64 d.sat), .one .any, .one .any, .one (.i64 d.bad)]
def dmOfA2 (r : Rul) (cs : List Ch) : Option Dm :=
  match cs with
  | [.vec (.n 32) (.u8 priv), .vec (.n 32) (.u8 pub), .one (.i64 port), .vec (.n 32) (.u8 rnd), .one (.i64 now), .one .any, .one .any, .one .any, .one .any, .vec (.n 32) (.u8 sec), .one (.i64 sat), .one .any, .one .any, .one (.i64 bad)] =>
    some ⟨r, priv, pub, port, rnd, now, 0, [], 0, [], 0, [], 0, [], sec, sat, 0, [], 0, [], bad⟩
  | _ => none
def dmOfA (cs : List Ch) : Option Dm :=
  match rulOf (cs.take 10) with
  | some r => dmOfA2 r (cs.drop 10)
  | none => none
theorem dmOfA_eq {cs : List Ch} {d : Dm} (h : dmOfA cs = some d) : cs = dmA d := by
  unfold dmOfA at h
  split at h
  · rename_i r hr
    have e := rulOf_eq hr
    rw [← List.take_append_drop 10 cs, e]
    generalize cs.drop 10 = t at *
    unfold dmOfA2 at h
    split at h
    · cases h; rfl
    · cases h
  · cases h
def nowJm (cs : List Ch) : Option (Int × UInt64) :=
  match cs with
  | [_, .one (.u64 jm), _, _, _, _, _, _, _, _, _, _, _, _, .one (.i64 now), _, _, _, _, _, _, _, _, _] => some (now, jm)
  | _ => none
def gmSess : SpecM := fun cs o args => match cs, o, args with
  | [.one (.xs 1 (.s m) (.u8 l)), .one (.i64 a)], 0, [.w (.agg cd), .w (.s (.u32 lo))] => match dmOfA cd, nowJm cd with
    | some _, some (now, jm) => some ([0 ≤ a, a ≤ l.length, l.length ≤ 4294967296, 0 ≤ now, now ≤ 1000000000], .w (.agg (snC (sesV l a now jm lo))), [.one (.i64 (sesA l a))])
    | _, _ => none
  | _, _, _ => none
noncomputable def JSw (l : BS) (a : Int) (jm : UInt64) (σ : St) : Option Inv :=
  match names σ.fr 0, names σ.fr 8 with
  | some kc, some ks => match getO σ.own kc, getO σ.own ks with
    | some (c0 :: _), some cs => some {
        α := Unit
        ok := fun _ => True
        mu := fun _ => 0
        keep := [0, 2, 4, 6, 8]
        slots := fun _ => []
        own := fun _ => [(kc, some [c0, .one (.i64 (sA6 l a))]), (ks, some (cs.take 4 ++ .one (.u64 (nextV l a jm)) :: cs.drop 5))]
        ext := fun _ => [] }
    | _, _ => none
  | _, _ => none
noncomputable def JWi (l : BS) (a : Int) (σ : St) : Option Inv :=
  match names σ.fr 0, names σ.fr 8 with
  | some kc, some ks => match getO σ.own kc, getO σ.own ks with
    | some (c0 :: _), some cs => some {
        α := Nat
        ok := fun j => j ≤ sK l a
        mu := fun j => sK l a - j
        keep := [0, 2, 4, 6, 8]
        slots := fun j => [(9, .s (.i64 (((sK l a : Nat) : Int) - (j : Int))))]
        own := fun j => [(kc, some [c0, .one (.i64 (winA l (sA7 l a) j))]), (ks, some (cs.take 6 ++ .one (.b (winW l (sA7 l a) j).u) :: .one (.u64 (winW l (sA7 l a) j).t) :: .vec (.n 4) (.u64 (winW l (sA7 l a) j).ws) :: cs.drop 9))]
        ext := fun _ => [] }
    | _, _ => none
  | _, _ => none
end Go.Cds

/- A step towards SessionValuesSaid: no conditions. -/

namespace Go.Cds
open Go Go.Eng Go.Cod Go.Dae Go.Win
def hostI (n h : Int) : BS := [10, to8 n, 0, to8 h, 0, 0, 0, 0, 0, 0, 0, 0, 0, 0, 0, 0]
def peerK (i : Int) : BS := to8 (40 * (i + 1)) :: 9 :: 7 :: List.replicate 29 0
def modV (x n : Int) : Int := (x.tmod n + n).tmod n
def ageV (bo now : Int) : Int := if now < bo then 0 else toI (if 1099511627776 < to64 now - to64 bo then 1099511627776 else to64 now - to64 bo)
def usV (s : Sn) (r : Rul) (now : Int) : Bool := decide (ageV s.bo now < r.jt) && (decide (s.nx < s.fe) && (decide (s.nx < r.jm) && decide (s.nx < 18446744073709543423)))
noncomputable def gHost : SpecF := fun args => match args with
  | [.w (.s (.i64 n)), .w (.s (.i64 h))] => some ([], .w (.agg [.one (.b false), .vec (.n 16) (.u8 (hostI n h))]))
  | _ => none
noncomputable def gPeer : SpecF := fun args => match args with
  | [.w (.s (.i64 i))] => some ([0 ≤ i, i ≤ 1000], .w (.agg [.vec (.n 32) (.u8 (peerK i))]))
  | _ => none
noncomputable def gMod : SpecF := fun args => match args with
  | [.w (.s (.i64 x)), .w (.s (.i64 n))] => some ([1 ≤ n, n ≤ 1000000], .s (.i64 (modV x n)))
  | _ => none
noncomputable def gAge : SpecF := fun args => match args with
  | [.w (.agg cn), .w (.s (.i64 now))] => match snOf cn with
    | some s => some ([], .s (.i64 (ageV s.bo now)))
    | none => none
  | _ => none
noncomputable def gUs : SpecF := fun args => match args with
  | [.w (.agg cn), .w (.agg cr), .w (.s (.i64 now))] => match snOf cn, rulOf cr with
    | some s, some r => some ([], .s (.b (usV s r now)))
    | _, _ => none
  | _ => none
end Go.Cds
