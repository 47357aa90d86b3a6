/- A step towards WindowOnceSaid: no conditions. -/
import Derived.Test.YtcfbcgmikfmllaaEngD
import Derived.Test.YtcfbcgmikfmllaaBase
namespace Go.Proofs.Ytcfbcgmikfmllaa
open Go Go.Eng
structure Win where
  u : Bool
  t : UInt64
  ws : List UInt64
def chk (w : Win) (c : UInt64) : Bool :=
  !w.u || decide (w.t < c) || (decide (w.t / 64 - c / 64 < 4) && (shr64 (w.ws.getD (c / 64 % 4).toNat 0) (c % 64).toNat &&& 1 == 0))
def clr (ws : List UInt64) (b : UInt64) : Nat → List UInt64
  | 0 => ws
  | n + 1 => (clr ws b n).set ((b + 1 + UInt64.ofNat n) % 4).toNat 0
def m4 (x : UInt64) : UInt64 := if 4 < x then 4 else x
def acc1 (w : Win) (c : UInt64) : Win :=
  if w.u then if w.t < c then ⟨w.u, c, clr w.ws (w.t / 64) (m4 (c / 64 - w.t / 64)).toNat⟩ else w else ⟨true, c, List.replicate 4 0⟩
def orAt (l : List UInt64) (c : UInt64) : List UInt64 := l.set (c / 64 % 4).toNat (l.getD (c / 64 % 4).toNat 0 ||| shl64 1 (c % 64).toNat)
def acc (w : Win) (c : UInt64) : Win :=
  if chk w c then ⟨(acc1 w c).u, (acc1 w c).t, orAt (acc1 w c).ws c⟩ else w
abbrev Win.V (w : Win) : V := .agg [.one (.b w.u), .one (.u64 w.t), .vec (.n 4) (.u64 w.ws)]
abbrev Win.W (w : Win) : Go.Eng.W := .agg [.one (.b w.u), .one (.u64 w.t), .vec (.n 4) (.u64 w.ws)]
def gCheck : SpecF := fun args => match args with
  | [.w (.agg [.one (.b u), .one (.u64 t), .vec (.n 4) (.u64 ws)]), .w (.s (.u64 c))] => some ([], .s (.b (chk ⟨u, t, ws⟩ c)))
  | _ => none
def gAcc : SpecF := fun args => match args with
  | [.w (.agg [.one (.b u), .one (.u64 t), .vec (.n 4) (.u64 ws)]), .w (.s (.u64 c))] => some ([], .tup [(acc ⟨u, t, ws⟩ c).W, .s (.b (chk ⟨u, t, ws⟩ c))])
  | _ => none
noncomputable def JA (σ : St) : Option Inv :=
  match getO σ.own 0, getF σ.fr 33 with
  | some [_, .one (.u64 t), .vec _ (.u64 ws)], .w (.s (.u64 m)) => some {
      α := Nat
      ok := fun n => n ≤ m.toNat
      mu := fun n => m.toNat - n
      keep := [1, 2, 4, 6, 7, 33]
      slots := fun n => [(34, .s (.u64 (UInt64.ofNat n)))]
      own := fun n => [(0, some [.one (.b true), .one (.u64 t), .vec (.n 4) (.u64 (clr ws (t / 64) n))])]
      ext := fun _ => [] }
  | _, _ => none
noncomputable def E6 : Env := mkE Try.prog [(8, gCheck)] [(1, JA)] 2
noncomputable def JB (σ : St) : Option Inv :=
  match getO σ.own 0, getF σ.fr 1 with
  | some [_, .one (.u64 t), .vec _ (.u64 ws)], .w (.s (.u64 c)) => some {
      α := Nat
      ok := fun n => n ≤ (m4 (c / 64 - t / 64)).toNat
      mu := fun n => (m4 (c / 64 - t / 64)).toNat - n
      keep := [1, 2, 4]
      slots := fun n => [(6, .s (.u64 (1 + UInt64.ofNat n)))]
      own := fun n => [(0, some [.one (.b true), .one (.u64 t), .vec (.n 4) (.u64 (clr ws (t / 64) n))])]
      ext := fun _ => [] }
  | _, _ => none
noncomputable def E7 : Env := mkE Try.prog [(9, gCheck)] [(0, JB)] 2
noncomputable def E0 : Env := mkE Try.prog [] [] 2
/-- near -/
def nearS (t : UInt64) (x : UInt16) : UInt64 :=
  if 60000 ≤ x then shl64 x.toUInt64 40
  else if t + ((x % 600).toUInt64 - 300) < 9223372036854775808 ∨ 4611686018427387904 ≤ t then t + ((x % 600).toUInt64 - 300)
  else (x % 64).toUInt64
def gNear : SpecF := fun args => match args with
  | [.w (.agg [.one (.b _), .one (.u64 t), .vec (.n 4) (.u64 _)]), .w (.s (.u16 x))] => some ([], .s (.u64 (nearS t x)))
  | _ => none
def gBegun : SpecF := fun args => match args with
  | [] => some ([], .s (.b true))
  | _ => none
abbrev Win.C (w : Win) : List Ch := [.one (.b w.u), .one (.u64 w.t), .vec (.n 4) (.u64 w.ws)]
noncomputable def J2 (σ : St) : Option Inv :=
  match names σ.fr 15, getF σ.fr 72 with
  | some k, .w (.s (.i64 n)) => some {
      α := Nat × Win
      ok := fun x => (x.1 : Int) ≤ n
      mu := fun x => n.toNat - x.1
      keep := List.range 17 ++ [60, 61, 62, 71, 72]
      slots := fun x => [(73, .s (.i64 x.1))]
      own := fun x => [(k, some x.2.C)]
      ext := fun _ => [] }
  | _, _ => none
noncomputable def E11 : Env := mkE Try.prog [(6, gAcc), (8, gCheck)] [] 2
noncomputable def E3 : Env := mkE Try.prog [(6, gAcc), (7, gAcc), (8, gCheck), (9, gCheck), (10, gNear), (11, gBegun)] [(2, J2)] 5
end Go.Proofs.Ytcfbcgmikfmllaa
