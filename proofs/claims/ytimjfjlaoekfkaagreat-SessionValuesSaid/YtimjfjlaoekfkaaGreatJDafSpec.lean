/- Steps towards SessionValuesSaid. -/
import Derived.Test.YtimjfjlaoekfkaaGreatJCodSpec
/- A step towards SessionValuesSaid: no conditions. -/

namespace Go.Dae
open Go Go.Eng
def lessA (s : Bool) (i : BS) (s' : Bool) (j : BS) : Bool := if s = s' then Op.bytesLess i j else !s
def befP (s : Bool) (i : BS) (b : Int) (s' : Bool) (j : BS) (c : Int) : Bool := if s = s' ∧ i = j then decide (b < c) else lessA s i s' j
def lessT (a : Int) (k : BS) (q : Int) (a' : Int) (k' : BS) (q' : Int) : Bool := if a ≠ a' then decide (a < a') else if k ≠ k' then Op.bytesLess k k' else decide (q < q')
def soundP (s : Bool) (ip : BS) : Bool := s || (List.range 12).all fun j => ip.getD (4 + j) 0 == 0
def widthP (s : Bool) : Int := if s = true then 128 else 32
def bitP (ip : BS) (i : Nat) : UInt8 := shr8 (ip.getD (i / 8) 0) (7 - i % 8) &&& UInt8.ofNat 1
def validP (s : Bool) (ip : BS) (b : Int) : Bool := soundP s ip && decide (0 ≤ b) && decide (b ≤ widthP s) && (List.range 128).all fun i => decide ((i : Int) < b) || bitP ip i == 0
noncomputable def gLess : SpecF := fun args => match args with
  | [.w (.agg [.one (.b s), .vec (.n 16) (.u8 i)]), .w (.agg [.one (.b s'), .vec (.n 16) (.u8 j)])] => some ([], .s (.b (lessA s i s' j)))
  | _ => none
noncomputable def gBefore : SpecF := fun args => match args with
  | [.w (.agg [.one (.b s), .vec (.n 16) (.u8 i), .one (.i64 b)]), .w (.agg [.one (.b s'), .vec (.n 16) (.u8 j), .one (.i64 c)])] => some ([], .s (.b (befP s i b s' j c)))
  | _ => none
noncomputable def gLessT : SpecF := fun args => match args with
  | [.w (.agg [.one (.i64 a), .vec (.n 32) (.u8 k), .one (.i64 q)]), .w (.agg [.one (.i64 a'), .vec (.n 32) (.u8 k'), .one (.i64 q')])] => some ([], .s (.b (lessT a k q a' k' q')))
  | _ => none
noncomputable def gSound : SpecF := fun args => match args with
  | [.w (.agg [.one (.b s), .vec (.n 16) (.u8 i)])] => some ([], .s (.b (soundP s i)))
  | _ => none
noncomputable def gWidth : SpecF := fun args => match args with
  | [.w (.agg [.one (.b s), .vec (.n 16) (.u8 i)])] => some ([], .s (.i64 (widthP s)))
  | _ => none
noncomputable def gValid : SpecF := fun args => match args with
  | [.w (.agg [.one (.b s), .vec (.n 16) (.u8 i), .one (.i64 b)])] => some ([], .s (.b (validP s i b)))
  | _ => none
noncomputable def JSou (σ : St) : Option Inv :=
  match names σ.fr 1 with
  | some ka => match getO σ.own ka with
    | some [.one (.b s), .vec _ (.u8 ip)] => some {
        α := Nat
        ok := fun i => i ≤ 12 ∧ ∀ j, j < i → (s || ip.getD (4 + j) 0 == 0) = true
        mu := fun i => 12 - i
        keep := [1, 2, 6, 7]
        slots := fun i => [(8, .s (.i64 i))]
        own := fun _ => []
        ext := fun _ => [] }
    | _ => none
  | _ => none
noncomputable def JVal (σ : St) : Option Inv :=
  match names σ.fr 1 with
  | some ka => match getO σ.own ka with
    | some [_, .vec _ (.u8 ip), .one (.i64 b)] => some {
        α := Nat
        ok := fun i => i ≤ 128 ∧ b ≤ (i : Int) ∧ ∀ j : Nat, b ≤ (j : Int) → j < i → bitP ip j = 0
        mu := fun i => 128 - i
        keep := [1, 2]
        slots := fun i => [(3, .s (.i64 i))]
        own := fun _ => []
        ext := fun _ => [] }
    | _ => none
  | _ => none
end Go.Dae

/- A step towards SessionValuesSaid: no conditions. -/

namespace Go.Dae
open Go Go.Eng
def HRowE (ks : List TK) (z m : Nat) : HRes where
  α := Nat × VL × Int
  ok := fun a => a.1 ≤ m ∧ Row ks z a.1 a.2.1
  res := fun a => .tup [.s (.xs z (.s a.1) (.va a.2.1)), .s (.i64 a.2.2)]
noncomputable def gIns : SpecH := fun args => match args with
  | [.w (.s (.xs 50 (.s n) (.va l))), .w (.agg [.one (.b s), .vec (.n 16) (.u8 i), .one (.i64 b)]), .w (.agg [.vec (.n 32) (.u8 k)])] => some ([n ≤ 99999, Row ksR 50 n l], HRowE ksR 50 (n + 1))
  | _ => none
noncomputable def JIns0 (σ : St) : Option Inv :=
  match getF σ.fr 8 with
  | .w (.s (.sl _ _ _ (.s m) _)) => some {
      α := Nat
      ok := fun i => i ≤ m
      mu := fun i => m - i
      keep := [0, 4, 5, 6, 7, 8, 17]
      slots := fun i => [(18, .s (.i64 i))]
      own := fun _ => []
      ext := fun _ => [] }
  | _ => none
noncomputable def JIns2 (σ : St) : Option Inv :=
  match getF σ.fr 8 with
  | .w (.s (.sl _ _ _ (.s m) _)) => some {
      α := Nat
      ok := fun i => i ≤ m
      mu := fun i => m - i
      keep := [4, 5, 6, 7, 8]
      slots := fun i => [(10, .s (.i64 i))]
      own := fun _ => []
      ext := fun _ => [] }
  | _ => none
def idxS (l : VL) (j : Nat) : UInt32 := d32 (((dropL l (j * 34)).take 34).getD 0 (.bool false))
def hasS (l : VL) (n : Nat) (x : UInt32) : Bool := (List.range n).any fun j => idxS l j == x
def HFind (l : VL) (n : Nat) (x : UInt32) : HRes where
  α := UInt32 × BS × Bool × Bool
  ok := fun a => a.2.1.length = 32 ∧ a.2.2.2 = hasS l n x
  res := fun a => .tup [.agg [.one (.u32 a.1), .vec (.n 32) (.u8 a.2.1), .one (.b a.2.2.1)], .s (.b a.2.2.2)]
noncomputable def gFindS : SpecH := fun args => match args with
  | [.w (.s (.xs 34 (.s n) (.va l))), .w (.s (.u32 x))] => some ([n ≤ 100000, Row ksS 34 n l], HFind l n x)
  | _ => none
noncomputable def JFiS (σ : St) : Option Inv :=
  match getF σ.fr 8, getF σ.fr 1 with
  | .w (.s (.xs _ (.s n) (.va l))), .w (.s (.u32 x)) => some {
      α := Nat
      ok := fun i => i ≤ n ∧ ∀ j, j < i → idxS l j ≠ x
      mu := fun i => n - i
      keep := [1, 4, 5, 8, 9]
      slots := fun i => [(10, .s (.i64 i))]
      own := fun _ => []
      ext := fun _ => [] }
  | _, _ => none
def SubS (l : VL) (n : Nat) (k : VL) (m : Nat) : Prop := ∀ j, j < m → ∃ i, i < n ∧ idxS k j = idxS l i
def HDrop (l : VL) (n : Nat) : HRes where
  α := Nat × VL
  ok := fun a => a.1 ≤ n ∧ Row ksS 34 a.1 a.2 ∧ SubS l n a.2 a.1
  res := fun a => .s (.xs 34 (.s a.1) (.va a.2))
noncomputable def gDrop : SpecH := fun args => match args with
  | [.w (.s (.xs 34 (.s n) (.va l))), .w (.s (.u32 x))] => some ([n ≤ 100000, Row ksS 34 n l], HDrop l n)
  | _ => none
noncomputable def JDrop (σ : St) : Option Inv :=
  match getF σ.fr 8 with
  | .w (.s (.xs _ (.s n) (.va l))) => some {
      α := Nat × Nat × VL
      ok := fun a => a.1 ≤ n ∧ a.2.1 ≤ a.1 ∧ Row ksS 34 a.2.1 a.2.2 ∧ SubS l n a.2.2 a.2.1
      mu := fun a => n - a.1
      keep := [1, 4, 8, 9]
      slots := fun a => [(10, .s (.i64 a.1)), (5, .s (.sl σ.own.length 0 (.n 0) (.s a.2.1) 34))]
      own := fun _ => []
      ext := fun a => [(5, [.vec (.s (a.2.1 * 34)) (.va a.2.2)])] }
  | _ => none
def HTake (n : Nat) : HRes where
  α := Nat × VL × UInt32 × Int
  ok := fun a => a.1 ≤ n + 1 ∧ Row ksS 34 a.1 a.2.1
  res := fun a => .tup [.s (.xs 34 (.s a.1) (.va a.2.1)), .s (.u32 a.2.2.1), .s (.i64 a.2.2.2)]
noncomputable def gTake : SpecH := fun args => match args with
  | [.w (.s (.xs 34 (.s n) (.va l))), .w (.s (.u32 x)), .w (.agg [.vec (.n 32) (.u8 k)]), .w (.s (.b s))] => some ([n ≤ 100000, Row ksS 34 n l, x ≠ 0, hasS l n x = false, k.length = 32], HTake n)
  | _ => none
noncomputable def JTak (σ : St) : Option Inv :=
  match getF σ.fr 0 with
  | .w (.s (.xs _ (.s n) (.va l))) => some {
      α := Nat
      ok := fun i => i ≤ n
      mu := fun i => n - i
      keep := [0, 3, 6, 8, 9, 10, 11]
      slots := fun i => [(14, .s (.i64 i))]
      own := fun _ => []
      ext := fun _ => [] }
  | _ => none
end Go.Dae

/- A step towards SessionValuesSaid: no conditions. -/

namespace Go.Dae
open Go Go.Eng
def ksSess : List TK := [.one .u32, .one .u32, .vec 32 .u8, .vec 32 .u8, .one .u64, .one .u64, .one .b, .one .u64, .vec 4 .u64, .one .i64, .one .b]
def ksPlace : List TK := .one .b :: ksSess
def ksHand : List TK := [.one .b, .one .u32, .vec 32 .u8, .vec 32 .u8, .vec 32 .u8, .one .i64, .one .i64]
def ksP : List TK := [.vec 32 .u8, .vec 32 .u8, .one .b, .one .b, .vec 16 .u8, .one .i64, .one .i64, .vec 12 .u8, .one .b, .one .i64] ++ (ksHand ++ ([.one .b, .vec 16 .u8, .one .i64, .vec 16 .u8] ++ (ksPlace ++ (ksPlace ++ (ksPlace ++ [.one .nil])))))
def PRow (n : Nat) (l : VL) : Prop := Row ksP 464 n l ∧ ∀ i, i < n → dB (((l.drop (i * 464)).take 464).getD 65 (.bool false)) = false
structure Rul where
  rm : UInt64
  jm : UInt64
  rt : Int
  jt : Int
  at_ : Int
  ret : Int
  ka : Int
  ct : Int
  load : Int
  stage : Int
structure Dm where
  r : Rul
  priv : BS
  pub : BS
  port : Int
  rnd : BS
  now : Int
  np : Nat
  ps : VL
  nr : Nat
  rs : VL
  ns : Nat
  ss : VL
  nt : Nat
  ts : VL
  sec : BS
  sat : Int
  nc : Nat
  rc : BS
  nb : Nat
  bk : VL
  bad : Int
def rulC (r : Rul) : List Ch := [.one (.u64 r.rm), .one (.u64 r.jm), .one (.i64 r.rt), .one (.i64 r.jt), .one (.i64 r.at_), .one (.i64 r.ret), .one (.i64 r.ka), .one (.i64 r.ct), .one (.i64 r.load), .one (.i64 r.stage)]
def dmC (d : Dm) : List Ch := rulC d.r ++ [.vec (.n 32) (.u8 d.priv), .vec (.n 32) (.u8 d.pub), .one (.i64 d.port), .vec (.n 32) (.u8 d.rnd), .one (.i64 d.now), .one (.xs 464 (.s d.np) (.va d.ps)), .one (.xs 50 (.s d.nr) (.va d.rs)), .one (.xs 34 (.s d.ns) (.va d.ss)), .one (.xs 34 (.s d.nt) (.va d.ts)), .vec (.n 32) (.u8 d.sec), .one (.i64 d.sat), .one (.xs 1 (.s d.nc) (.u8 d.rc)), .one (.xs 19 (.s d.nb) (.va d.bk)), .one (.i64 d.bad)]
abbrev dSm (d : Dm) (p : Prop) : Prop := d.r.rm = d.r.rm ∧ d.r.jm = d.r.jm ∧ d.r.rt = d.r.rt ∧ d.r.jt = d.r.jt ∧ d.r.at_ = d.r.at_ ∧ d.r.ret = d.r.ret ∧ d.r.ka = d.r.ka ∧ d.r.ct = d.r.ct ∧ d.r.load = d.r.load ∧ d.r.stage = d.r.stage ∧ d.priv = d.priv ∧ d.pub = d.pub ∧ d.port = d.port ∧ d.rnd = d.rnd ∧ d.now = d.now ∧ d.np = d.np ∧ d.ps = d.ps ∧ d.nr = d.nr ∧ d.rs = d.rs ∧ d.ns = d.ns ∧ d.ss = d.ss ∧ d.nt = d.nt ∧ d.ts = d.ts ∧ d.sec = d.sec ∧ d.sat = d.sat ∧ d.nc = d.nc ∧ d.rc = d.rc ∧ d.nb = d.nb ∧ d.bk = d.bk ∧ d.bad = d.bad ∧ p
abbrev dmL (d : Dm) : Dm := { r := d.r, priv := d.priv, pub := d.pub, port := d.port, rnd := d.rnd, now := d.now, np := d.np, ps := d.ps, nr := d.nr, rs := d.rs, ns := d.ns, ss := d.ss, nt := d.nt, ts := d.ts, sec := d.sec, sat := d.sat, nc := List.length d.rc, rc := d.rc, nb := d.nb, bk := d.bk, bad := d.bad : Dm }
structure Dm.Ok (d : Dm) : Prop where
  hp : PRow d.np d.ps
  hr : Row ksR 50 d.nr d.rs
  hs : Row ksS 34 d.ns d.ss
  ht : Row ksT 34 d.nt d.ts
  hc : d.nc = 0
  hrc : d.rc = []
  hb : d.nb = 0
  hbk : d.bk = []
  np : d.np ≤ 1000
  nr : d.nr ≤ 1000
  ns : d.ns ≤ 1000
  nt : d.nt ≤ 1000
def HFindP (n : Nat) : HRes where
  α := Int
  ok := fun a => -1 ≤ a ∧ a < n
  res := fun a => .s (.i64 a)
noncomputable def JFindP (σ : St) : Option Inv :=
  match getF σ.fr 8 with
  | .w (.s (.xs _ (.s n) _)) => some {
      α := Nat
      ok := fun i => i ≤ n
      mu := fun i => n - i
      keep := [2, 3, 4, 8, 9]
      slots := fun i => [(10, .s (.i64 i))]
      own := fun _ => []
      ext := fun _ => [] }
  | _ => none
end Go.Dae

/- A step towards SessionValuesSaid: no conditions. -/

namespace Go.Dae
open Go Go.Eng
structure Sn where
  lo : UInt32
  re : UInt32
  sd : BS
  rv : BS
  nx : UInt64
  fe : UInt64
  wu : Bool
  wt : UInt64
  ww : List UInt64
  bo : Int
  ini : Bool
structure Pl where
  has : Bool
  s : Sn
def snC (s : Sn) : List Ch := [.one (.u32 s.lo), .one (.u32 s.re), .vec (.n 32) (.u8 s.sd), .vec (.n 32) (.u8 s.rv), .one (.u64 s.nx), .one (.u64 s.fe), .one (.b s.wu), .one (.u64 s.wt), .vec (.n 4) (.u64 s.ww), .one (.i64 s.bo), .one (.b s.ini)]
def plC (p : Pl) : List Ch := .one (.b p.has) :: snC p.s
def zSn : Sn := ⟨0, 0, List.replicate 32 0, List.replicate 32 0, 0, 0, false, 0, List.replicate 4 0, 0, false⟩
def zPl : Pl := ⟨false, zSn⟩
def cleanP (p : Pl) : Pl := if p.has = true then p else zPl
def encPl (p : Pl) : VL := .bool p.has :: eu32 p.s.lo :: eu32 p.s.re :: (p.s.sd.map eu8 ++ (p.s.rv.map eu8 ++ eu64 p.s.nx :: eu64 p.s.fe :: .bool p.s.wu :: eu64 p.s.wt :: (p.s.ww.map eu64 ++ [ei64 p.s.bo, .bool p.s.ini])))
def hasL (l : VL) (j : Nat) : Bool := dB (((dropL l (j * 77)).take 77).getD 0 (.bool false))
def idxL (l : VL) (j : Nat) : UInt32 := d32 (((dropL l (j * 77)).take 77).getD 1 (.bool false))
def locN (l : VL) : Nat → List UInt32
  | 0 => []
  | i + 1 => if hasL l i = true then locN l i ++ [idxL l i] else locN l i
noncomputable def gLocals : SpecF := fun args => match args with
  | [.w (.s (.xs 77 (.s n) (.va l)))] => some ([n ≤ 100000, Row ksPlace 77 n l], .s (.xs 1 (.s (locN l n).length) (.u32 (locN l n))))
  | _ => none
noncomputable def JLoc (σ : St) : Option Inv :=
  match getF σ.fr 6 with
  | .w (.s (.xs _ (.s n) (.va l))) => some {
      α := Nat
      ok := fun i => i ≤ n
      mu := fun i => n - i
      keep := [2, 6, 7]
      slots := fun i => [(8, .s (.i64 i)), (3, .s (.sl σ.own.length 0 (.n 0) (.s (locN l i).length) 1))]
      own := fun _ => []
      ext := fun i => [(3, [.vec (.s (locN l i).length) (.u32 (locN l i))])] }
  | _ => none
def snOf (cs : List Ch) : Option Sn :=
  match cs with
  | [.one (.u32 lo), .one (.u32 re), .vec (.n 32) (.u8 sd), .vec (.n 32) (.u8 rv), .one (.u64 nx), .one (.u64 fe), .one (.b wu), .one (.u64 wt), .vec (.n 4) (.u64 ww), .one (.i64 bo), .one (.b ini)] => some ⟨lo, re, sd, rv, nx, fe, wu, wt, ww, bo, ini⟩
  | _ => none
theorem snOf_eq {cs : List Ch} {s : Sn} (h : snOf cs = some s) : cs = snC s := by
  unfold snOf at h
  split at h
  · cases h; rfl
  · cases h
def plOf (cs : List Ch) : Option Pl :=
  match cs with
  | .one (.b h) :: r => match snOf r with
    | some s => some ⟨h, s⟩
    | none => none
  | _ => none
theorem plOf_eq {cs : List Ch} {p : Pl} (h : plOf cs = some p) : cs = plC p := by
  unfold plOf at h
  split at h
  · split at h
    · rename_i hs; cases h; rw [snOf_eq hs]; rfl
    · cases h
  · cases h
noncomputable def gClean : SpecF := fun args => match args with
  | [.w (.agg cs)] => match plOf cs with
    | some p => some ([], .w (.agg (plC (cleanP p))))
    | none => none
  | _ => none
end Go.Dae
