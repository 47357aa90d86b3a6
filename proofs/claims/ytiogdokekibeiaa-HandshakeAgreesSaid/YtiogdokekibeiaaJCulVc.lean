/- Steps towards HandshakeAgreesSaid. -/
import Derived.Test.YtiogdokekibeiaaJKdfSpec
import Derived.Test.YtiogdokekibeiaaBase
/- A step towards HandshakeAgreesSaid: no conditions. -/

namespace Go.Cur
open Go Go.Eng
def nineL : List UInt8 := [9, 0, 0, 0, 0, 0, 0, 0, 0, 0, 0, 0, 0, 0, 0, 0, 0, 0, 0, 0, 0, 0, 0, 0, 0, 0, 0, 0, 0, 0, 0, 0]
def gPub : SpecF := fun args => match args with
  | [.w (.agg [.vec (.n 32) (.u8 s)])] => some ([], .w (.agg [.vec (.n 32) (.u8 (keyL s nineL))]))
  | _ => none
def shareE (s p : List UInt8) : Int := if keyL s p = List.replicate 32 0 then 21 else 0
def gShare : SpecF := fun args => match args with
  | [.w (.agg [.vec (.n 32) (.u8 s)]), .w (.agg [.vec (.n 32) (.u8 p)])] => some ([], .tup [.agg [.vec (.n 32) (.u8 (keyL s p))], .s (.i64 (shareE s p))])
  | _ => none
def gMod : SpecF := fun args => match args with
  | [.w (.s (.i64 x)), .w (.s (.i64 n))] => some ([1 ≤ n ∧ n ≤ 4294967296], .s (.i64 ((x.tmod n + n).tmod n)))
  | _ => none
def gYes : SpecF := fun args => match args with
  | [] => some ([], .s (.b true))
  | _ => none
end Go.Cur
namespace Go.Proofs.Ytiogdokekibeiaa
open Go Go.Eng Go.Cod Go.Pol Go.Cur
noncomputable def CLm : Env := mkE Try.prog [(30, gMulP)] [] 40 true
noncomputable def CLr : Env := mkE Try.prog [(10, gMulP)] [] 40 true
set_option maxRecDepth 100000 in
theorem vcPub (s : List UInt8) : (vcFn CLm 100 12 [.agg [.vec (.n 32) (.u8 s)]] (.w (.agg [.vec (.n 32) (.u8 (keyL s nineL))]))) =
  (∀ (y : List UInt8), y = keyL s [UInt8.ofNat (nat_lit 9), (0 : UInt8), (0 : UInt8), (0 : UInt8), (0 : UInt8), (0 : UInt8), (0 : UInt8), (0 : UInt8), (0 : UInt8), (0 : UInt8), (0 : UInt8), (0 : UInt8), (0 : UInt8), (0 : UInt8), (0 : UInt8), (0 : UInt8), (0 : UInt8), (0 : UInt8), (0 : UInt8), (0 : UInt8), (0 : UInt8), (0 : UInt8), (0 : UInt8), (0 : UInt8), (0 : UInt8), (0 : UInt8), (0 : UInt8), (0 : UInt8), (0 : UInt8), (0 : UInt8), (0 : UInt8), (0 : UInt8)] → ∀ (y_1 : List UInt8), y_1 = y → y_1 = keyL s nineL ∧ True) := by kernel_rfl
set_option maxRecDepth 100000 in
theorem vcPubR (s : List UInt8) : (vcFn CLr 100 4 [.agg [.vec (.n 32) (.u8 s)]] (.w (.agg [.vec (.n 32) (.u8 (keyL s nineL))]))) =
  (∀ (y : List UInt8), y = keyL s [UInt8.ofNat (nat_lit 9), (0 : UInt8), (0 : UInt8), (0 : UInt8), (0 : UInt8), (0 : UInt8), (0 : UInt8), (0 : UInt8), (0 : UInt8), (0 : UInt8), (0 : UInt8), (0 : UInt8), (0 : UInt8), (0 : UInt8), (0 : UInt8), (0 : UInt8), (0 : UInt8), (0 : UInt8), (0 : UInt8), (0 : UInt8), (0 : UInt8), (0 : UInt8), (0 : UInt8), (0 : UInt8), (0 : UInt8), (0 : UInt8), (0 : UInt8), (0 : UInt8), (0 : UInt8), (0 : UInt8), (0 : UInt8), (0 : UInt8)] → ∀ (y_1 : List UInt8), y_1 = y → y_1 = keyL s nineL ∧ True) := by kernel_rfl
set_option maxRecDepth 100000 in
theorem vcShare (s p : List UInt8) : (vcFn CLm 100 36 [.agg [.vec (.n 32) (.u8 s)], .agg [.vec (.n 32) (.u8 p)]] (.tup [.agg [.vec (.n 32) (.u8 (keyL s p))], .s (.i64 (shareE s p))])) =
  (∀ (y : List UInt8), y = keyL s p → ∀ (y_1 : List UInt8), y_1 = y → ((y_1 == [(0 : UInt8), (0 : UInt8), (0 : UInt8), (0 : UInt8), (0 : UInt8), (0 : UInt8), (0 : UInt8), (0 : UInt8), (0 : UInt8), (0 : UInt8), (0 : UInt8), (0 : UInt8), (0 : UInt8), (0 : UInt8), (0 : UInt8), (0 : UInt8), (0 : UInt8), (0 : UInt8), (0 : UInt8), (0 : UInt8), (0 : UInt8), (0 : UInt8), (0 : UInt8), (0 : UInt8), (0 : UInt8), (0 : UInt8), (0 : UInt8), (0 : UInt8), (0 : UInt8), (0 : UInt8), (0 : UInt8), (0 : UInt8)]) = true → ∀ (y : List UInt8), y = y_1 → y = keyL s p ∧ Int.ofNat (21 : Nat) = shareE s p ∧ True) ∧ ((y_1 == [(0 : UInt8), (0 : UInt8), (0 : UInt8), (0 : UInt8), (0 : UInt8), (0 : UInt8), (0 : UInt8), (0 : UInt8), (0 : UInt8), (0 : UInt8), (0 : UInt8), (0 : UInt8), (0 : UInt8), (0 : UInt8), (0 : UInt8), (0 : UInt8), (0 : UInt8), (0 : UInt8), (0 : UInt8), (0 : UInt8), (0 : UInt8), (0 : UInt8), (0 : UInt8), (0 : UInt8), (0 : UInt8), (0 : UInt8), (0 : UInt8), (0 : UInt8), (0 : UInt8), (0 : UInt8), (0 : UInt8), (0 : UInt8)]) = false → ∀ (y : List UInt8), y = y_1 → y = keyL s p ∧ Int.ofNat (0 : Nat) = shareE s p ∧ True)) := by kernel_rfl
end Go.Proofs.Ytiogdokekibeiaa

/- A step towards HandshakeAgreesSaid: no conditions. -/

namespace Go.Han
open Go Go.Eng Go.Cod Go.Cha Go.Pol Go.Aed Go.Bla Go.Kdf Go.Nos Go.Cur
/-- the block of a side: hash, chain, error, own key -/
abbrev siB (h c : List UInt8) (e : Int) (p : List UInt8) : List Ch := [.vec (.n 32) (.u8 h), .vec (.n 32) (.u8 c), .one (.i64 e), .vec (.n 32) (.u8 p)]
def shR (e : Int) (s p : List UInt8) : List UInt8 := if e = 0 then keyL s p else []
def shE (e : Int) (s p : List UInt8) : Int := if e = 0 then shareE s p else e
def odH (e : Int) (h k s : List UInt8) : List UInt8 := if e = 0 then opH h k s else h
def odC (e : Int) (h c k s : List UInt8) : List UInt8 := if e = 0 then opC h c k s else c
def odE (e : Int) (h k s : List UInt8) : Int := if e = 0 then nOpenE h k s else e
def odL (e : Int) (h k s : List UInt8) (n : Int) : List UInt8 := if odE e h k s = 0 then nOpenL h k s else List.replicate n.toNat 0
def gmChain : SpecM := fun cs o args => match cs, o, args with
  | [.vec (.n 32) (.u8 h), .vec (.n 32) (.u8 c), .one (.i64 e), .vec (.n 32) (.u8 p)], 0, [.w (.s (.xs 1 (.s m) (.u8 x)))] => some ([m = x.length, x.length ≤ 4294900000], .tup [], siB h (exI c x 1 0) e p)
  | _, _, _ => none
def gmHash : SpecM := fun cs o args => match cs, o, args with
  | [.vec (.n 32) (.u8 h), .vec (.n 32) (.u8 c), .one (.i64 e), .vec (.n 32) (.u8 p)], 0, [.w (.s (.xs 1 (.s m) (.u8 x)))] => some ([m = x.length, x.length ≤ 4294900000], .tup [], siB (mixH h [x]) c e p)
  | _, _, _ => none
def gmEph : SpecM := fun cs o args => match cs, o, args with
  | [.vec (.n 32) (.u8 h), .vec (.n 32) (.u8 c), .one (.i64 e), .vec (.n 32) (.u8 p)], 0, [.w (.agg [.vec (.n 32) (.u8 x)])] => some ([], .tup [], siB (mixH h [x]) (exI c x 1 0) e p)
  | _, _, _ => none
def gmShare : SpecM := fun cs o args => match cs, o, args with
  | [.vec (.n 32) (.u8 h), .vec (.n 32) (.u8 c), .one (.i64 e), .vec (.n 32) (.u8 p)], 0, [.w (.agg [.vec (.n 32) (.u8 s)]), .w (.agg [.vec (.n 32) (.u8 q)])] => some ([], .w (.s (roS (shR e s q))), siB h c (shE e s q) p)
  | _, _, _ => none
def gmKey : SpecM := fun cs o args => match cs, o, args with
  | [.vec (.n 32) (.u8 h), .vec (.n 32) (.u8 c), .one (.i64 e), .vec (.n 32) (.u8 p)], 0, [.w (.agg [.vec (.n 32) (.u8 s)]), .w (.agg [.vec (.n 32) (.u8 q)])] => some ([], .w (keW (exI c (shR e s q) 2 1)), siB h (exI c (shR e s q) 2 0) (shE e s q) p)
  | _, _, _ => none
def gmShared : SpecM := fun cs o args => match cs, o, args with
  | [.vec (.n 32) (.u8 h), .vec (.n 32) (.u8 c), .one (.i64 e), .vec (.n 32) (.u8 p)], 0, [.w (.agg [.vec (.n 32) (.u8 x)])] => some ([], .w (keW (exI c x 3 2)), siB (mixH h [exI c x 3 1]) (exI c x 3 0) e p)
  | _, _, _ => none
def gmSeal : SpecM := fun cs o args => match cs, o, args with
  | [.vec (.n 32) (.u8 h), .vec (.n 32) (.u8 c), .one (.i64 e), .vec (.n 32) (.u8 p)], 0, [.w (.agg [.vec (.n 32) (.u8 k)]), .w (.s (.xs 1 (.s m) (.u8 x)))] => some ([m = x.length, x.length ≤ 1073741824], .w (.s (roS (nSealL h k x))), siB (mixH h [nSealL h k x]) c e p)
  | _, _, _ => none
def gmOpen : SpecM := fun cs o args => match cs, o, args with
  | [.vec (.n 32) (.u8 h), .vec (.n 32) (.u8 c), .one (.i64 e), .vec (.n 32) (.u8 p)], 0, [.w (.agg [.vec (.n 32) (.u8 k)]), .w (.s (.xs 1 (.s m) (.u8 x))), .w (.s (.i64 n))] => some ([m = x.length, x.length ≤ 1073741824, 0 ≤ n ∧ n ≤ 1000], .w (.s (roS (odL e h k x n))), siB (odH e h k x) (odC e h c k x) (odE e h k x) p)
  | _, _, _ => none
end Go.Han

/- A step towards HandshakeAgreesSaid: no conditions. -/

namespace Go.Han
open Go Go.Eng Go.Cod Go.Cha Go.Pol Go.Aed Go.Bla Go.Kdf Go.Nos Go.Cur
abbrev BS := List UInt8
/-- numbers in a block are looked at as numbers -/
noncomputable def nrmCs : List Ch → List Ch
  | [] => []
  | .one (.n k) :: r => .one (.i64 k) :: nrmCs r
  | c :: r => c :: nrmCs r
noncomputable def nrm (g : SpecM) : SpecM := fun cs o args => g (nrmCs cs) o args
def zL (e : Int) (n : Nat) (l : BS) : BS := if e = 0 then l else List.replicate n 0
def zU (e : Int) (n : UInt32) : UInt32 := if e = 0 then n else 0
/-! initiate -/
def iH1 (pe pb : BS) : BS := mixH (startH pb) [keyL pe nineL]
def iC1 (pe : BS) : BS := exI startC (keyL pe nineL) 1 0
def iE1 (pe pb : BS) : Int := shE 0 pe pb
def iC2 (pe pb : BS) : BS := exI (iC1 pe) (shR 0 pe pb) 2 0
def iK1 (pe pb : BS) : BS := exI (iC1 pe) (shR 0 pe pb) 2 1
def iS1 (s pe pb : BS) : BS := nSealL (iH1 pe pb) (iK1 pe pb) (keyL s nineL)
def iH2 (s pe pb : BS) : BS := mixH (iH1 pe pb) [iS1 s pe pb]
def iE (s pe pb : BS) : Int := shE (iE1 pe pb) s pb
def iC3 (s pe pb : BS) : BS := exI (iC2 pe pb) (shR (iE1 pe pb) s pb) 2 0
def iK2 (s pe pb : BS) : BS := exI (iC2 pe pb) (shR (iE1 pe pb) s pb) 2 1
def iS2 (s pe pb t : BS) : BS := nSealL (iH2 s pe pb) (iK2 s pe pb) t
def iH3 (s pe pb t : BS) : BS := mixH (iH2 s pe pb) [iS2 s pe pb t]
abbrev msW (e : Int) (n : UInt32) (a b c : BS) : W := .agg [.one (.u32 (zU e n)), .vec (.n 32) (.u8 (zL e 32 a)), .vec (.n 48) (.u8 (zL e 48 b)), .vec (.n 28) (.u8 (zL e 28 c)), .vec (.n 16) (.u8 (List.replicate 16 0)), .vec (.n 16) (.u8 (List.replicate 16 0))]
def gInit : SpecF := fun args => match args with
  | [.w (.agg [.vec (.n 32) (.u8 s)]), .w (.agg [.vec (.n 32) (.u8 pb)]), .w (.agg [.vec (.n 32) (.u8 pe)]), .w (.agg [.vec (.n 12) (.u8 t)]), .w (.s (.u32 n))] =>
    some ([], .tup [msW (iE s pe pb) n (keyL pe nineL) (iS1 s pe pb) (iS2 s pe pb t), noW (zL (iE s pe pb) 32 (iH3 s pe pb t)) (zL (iE s pe pb) 32 (iC3 s pe pb)), .s (.i64 (iE s pe pb))])
  | _ => none
/-! consume -/
def cH1 (s ep : BS) : BS := mixH (startH (keyL s nineL)) [ep]
def cC1 (ep : BS) : BS := exI startC ep 1 0
def cE1 (s ep : BS) : Int := shE 0 s ep
def cK1 (s ep : BS) : BS := exI (cC1 ep) (shR 0 s ep) 2 1
def cC2 (s ep : BS) : BS := exI (cC1 ep) (shR 0 s ep) 2 0
def cL1 (s ep a : BS) : BS := odL (cE1 s ep) (cH1 s ep) (cK1 s ep) a 32
def cE2 (s ep a : BS) : Int := odE (cE1 s ep) (cH1 s ep) (cK1 s ep) a
def cH2 (s ep a : BS) : BS := odH (cE1 s ep) (cH1 s ep) (cK1 s ep) a
def cC3 (s ep a : BS) : BS := odC (cE1 s ep) (cH1 s ep) (cC2 s ep) (cK1 s ep) a
def cE3 (s ep a : BS) : Int := shE (cE2 s ep a) s (cL1 s ep a)
def cK2 (s ep a : BS) : BS := exI (cC3 s ep a) (shR (cE2 s ep a) s (cL1 s ep a)) 2 1
def cC4 (s ep a : BS) : BS := exI (cC3 s ep a) (shR (cE2 s ep a) s (cL1 s ep a)) 2 0
def cL2 (s ep a b : BS) : BS := odL (cE3 s ep a) (cH2 s ep a) (cK2 s ep a) b 12
def cE (s ep a b : BS) : Int := odE (cE3 s ep a) (cH2 s ep a) (cK2 s ep a) b
def cH3 (s ep a b : BS) : BS := odH (cE3 s ep a) (cH2 s ep a) (cK2 s ep a) b
def cC5 (s ep a b : BS) : BS := odC (cE3 s ep a) (cH2 s ep a) (cC4 s ep a) (cK2 s ep a) b
def gCons : SpecF := fun args => match args with
  | [.w (.agg [.vec (.n 32) (.u8 s)]), .w (.agg [.one (.u32 _), .vec (.n 32) (.u8 ep), .vec (.n 48) (.u8 a), .vec (.n 28) (.u8 b), .vec (.n 16) (.u8 _), .vec (.n 16) (.u8 _)])] =>
    some ([], .tup [keW (zL (cE s ep a b) 32 (cL1 s ep a)), .agg [.vec (.n 12) (.u8 (zL (cE s ep a b) 12 (cL2 s ep a b)))], noW (zL (cE s ep a b) 32 (cH3 s ep a b)) (zL (cE s ep a b) 32 (cC5 s ep a b)), .s (.i64 (cE s ep a b))])
  | _ => none
/-! respond -/
def rH1 (h pe : BS) : BS := mixH h [keyL pe nineL]
def rC1 (c pe : BS) : BS := exI c (keyL pe nineL) 1 0
def rE1 (pe ep : BS) : Int := shE 0 pe ep
def rC2 (c pe ep : BS) : BS := exI (rC1 c pe) (shR 0 pe ep) 1 0
def rE (pe ep q : BS) : Int := shE (rE1 pe ep) pe q
def rC3 (c pe ep q : BS) : BS := exI (rC2 c pe ep) (shR (rE1 pe ep) pe q) 1 0
def rH2 (h c pe ep q k : BS) : BS := mixH (rH1 h pe) [exI (rC3 c pe ep q) k 3 1]
def rC4 (c pe ep q k : BS) : BS := exI (rC3 c pe ep q) k 3 0
def rK (c pe ep q k : BS) : BS := exI (rC3 c pe ep q) k 3 2
def rS (h c pe ep q k : BS) : BS := nSealL (rH2 h c pe ep q k) (rK c pe ep q k) []
def gResp : SpecF := fun args => match args with
  | [.w (.agg [.vec (.n 32) (.u8 h), .vec (.n 32) (.u8 c)]), .w (.agg [.one (.u32 m), .vec (.n 32) (.u8 ep), .vec (.n 48) (.u8 _), .vec (.n 28) (.u8 _), .vec (.n 16) (.u8 _), .vec (.n 16) (.u8 _)]), .w (.agg [.vec (.n 32) (.u8 q)]), .w (.agg [.vec (.n 32) (.u8 k)]), .w (.agg [.vec (.n 32) (.u8 pe)]), .w (.s (.u32 n))] =>
    some ([], .tup [.agg [.one (.u32 (zU (rE pe ep q) n)), .one (.u32 (zU (rE pe ep q) m)), .vec (.n 32) (.u8 (zL (rE pe ep q) 32 (keyL pe nineL))), .vec (.n 16) (.u8 (zL (rE pe ep q) 16 (rS h c pe ep q k))), .vec (.n 16) (.u8 (List.replicate 16 0)), .vec (.n 16) (.u8 (List.replicate 16 0))],
      .agg [.vec (.n 32) (.u8 (zL (rE pe ep q) 32 (exI (rC4 c pe ep q k) [] 2 1))), .vec (.n 32) (.u8 (zL (rE pe ep q) 32 (exI (rC4 c pe ep q k) [] 2 0)))], .s (.i64 (rE pe ep q))])
  | _ => none
/-! finish -/
def fH1 (h ep : BS) : BS := mixH h [ep]
def fC1 (c ep : BS) : BS := exI c ep 1 0
def fE1 (pe ep : BS) : Int := shE 0 pe ep
def fC2 (c pe ep : BS) : BS := exI (fC1 c ep) (shR 0 pe ep) 1 0
def fE2 (s pe ep : BS) : Int := shE (fE1 pe ep) s ep
def fC3 (s c pe ep : BS) : BS := exI (fC2 c pe ep) (shR (fE1 pe ep) s ep) 1 0
def fH2 (s h c pe ep k : BS) : BS := mixH (fH1 h ep) [exI (fC3 s c pe ep) k 3 1]
def fC4 (s c pe ep k : BS) : BS := exI (fC3 s c pe ep) k 3 0
def fK (s c pe ep k : BS) : BS := exI (fC3 s c pe ep) k 3 2
def fE (s h c pe ep k m : BS) : Int := odE (fE2 s pe ep) (fH2 s h c pe ep k) (fK s c pe ep k) m
def fC5 (s h c pe ep k m : BS) : BS := odC (fE2 s pe ep) (fH2 s h c pe ep k) (fC4 s c pe ep k) (fK s c pe ep k) m
def gFin : SpecF := fun args => match args with
  | [.w (.agg [.vec (.n 32) (.u8 s)]), .w (.agg [.vec (.n 32) (.u8 pe)]), .w (.agg [.vec (.n 32) (.u8 k)]), .w (.agg [.vec (.n 32) (.u8 h), .vec (.n 32) (.u8 c)]), .w (.agg [.one (.u32 _), .one (.u32 _), .vec (.n 32) (.u8 ep), .vec (.n 16) (.u8 m), .vec (.n 16) (.u8 _), .vec (.n 16) (.u8 _)])] =>
    some ([], .tup [.agg [.vec (.n 32) (.u8 (zL (fE s h c pe ep k m) 32 (exI (fC5 s h c pe ep k m) [] 2 0))), .vec (.n 32) (.u8 (zL (fE s h c pe ep k m) 32 (exI (fC5 s h c pe ep k m) [] 2 1)))], .s (.i64 (fE s h c pe ep k m))])
  | _ => none
def gShown : SpecF := fun args => match args with
  | [.w (.agg [.vec (.n 32) (.u8 h), .vec (.n 32) (.u8 c)]), .w (.agg [.vec (.n 32) (.u8 x)])] => some ([], .w (noW (mixH h [x]) (exI c x 1 0)))
  | _ => none
end Go.Han

/- A step towards HandshakeAgreesSaid: no conditions. -/
namespace Go.Proofs.Ytiogdokekibeiaa
open Go Go.Eng Go.Cod Go.Cha Go.Pol Go.Aed Go.Bla Go.Kdf Go.Nos Go.Cur Go.Han
noncomputable def HGb : Env := mkE Try.prog [(5, gInit)] [] 4 true
noncomputable def HGl : Env := mkE Try.prog [(5, gInit), (6, gCons), (7, gResp), (8, gFin), (4, gPub), (9, gYes)] [] 4 true
set_option maxRecDepth 100000 in
theorem vcGBeg  : (vcFn HGb 300 9 [] (.s (.b true))) =
  (∀ (y : UInt32), y = zU (iE [UInt8.ofNat (nat_lit 1), (0 : UInt8), (0 : UInt8), (0 : UInt8), (0 : UInt8), (0 : UInt8), (0 : UInt8), (0 : UInt8), (0 : UInt8), (0 : UInt8), (0 : UInt8), (0 : UInt8), (0 : UInt8), (0 : UInt8), (0 : UInt8), (0 : UInt8), (0 : UInt8), (0 : UInt8), (0 : UInt8), (0 : UInt8), (0 : UInt8), (0 : UInt8), (0 : UInt8), (0 : UInt8), (0 : UInt8), (0 : UInt8), (0 : UInt8), (0 : UInt8), (0 : UInt8), (0 : UInt8), (0 : UInt8), (0 : UInt8)] [UInt8.ofNat (nat_lit 2), (0 : UInt8), (0 : UInt8), (0 : UInt8), (0 : UInt8), (0 : UInt8), (0 : UInt8), (0 : UInt8), (0 : UInt8), (0 : UInt8), (0 : UInt8), (0 : UInt8), (0 : UInt8), (0 : UInt8), (0 : UInt8), (0 : UInt8), (0 : UInt8), (0 : UInt8), (0 : UInt8), (0 : UInt8), (0 : UInt8), (0 : UInt8), (0 : UInt8), (0 : UInt8), (0 : UInt8), (0 : UInt8), (0 : UInt8), (0 : UInt8), (0 : UInt8), (0 : UInt8), (0 : UInt8), (0 : UInt8)] [(0 : UInt8), (0 : UInt8), (0 : UInt8), (0 : UInt8), (0 : UInt8), (0 : UInt8), (0 : UInt8), (0 : UInt8), (0 : UInt8), (0 : UInt8), (0 : UInt8), (0 : UInt8), (0 : UInt8), (0 : UInt8), (0 : UInt8), (0 : UInt8), (0 : UInt8), (0 : UInt8), (0 : UInt8), (0 : UInt8), (0 : UInt8), (0 : UInt8), (0 : UInt8), (0 : UInt8), (0 : UInt8), (0 : UInt8), (0 : UInt8), (0 : UInt8), (0 : UInt8), (0 : UInt8), (0 : UInt8), (0 : UInt8)]) (UInt32.ofNat (nat_lit 3)) → ∀ (y_1 : List UInt8), y_1 = zL (iE [UInt8.ofNat (nat_lit 1), (0 : UInt8), (0 : UInt8), (0 : UInt8), (0 : UInt8), (0 : UInt8), (0 : UInt8), (0 : UInt8), (0 : UInt8), (0 : UInt8), (0 : UInt8), (0 : UInt8), (0 : UInt8), (0 : UInt8), (0 : UInt8), (0 : UInt8), (0 : UInt8), (0 : UInt8), (0 : UInt8), (0 : UInt8), (0 : UInt8), (0 : UInt8), (0 : UInt8), (0 : UInt8), (0 : UInt8), (0 : UInt8), (0 : UInt8), (0 : UInt8), (0 : UInt8), (0 : UInt8), (0 : UInt8), (0 : UInt8)] [UInt8.ofNat (nat_lit 2), (0 : UInt8), (0 : UInt8), (0 : UInt8), (0 : UInt8), (0 : UInt8), (0 : UInt8), (0 : UInt8), (0 : UInt8), (0 : UInt8), (0 : UInt8), (0 : UInt8), (0 : UInt8), (0 : UInt8), (0 : UInt8), (0 : UInt8), (0 : UInt8), (0 : UInt8), (0 : UInt8), (0 : UInt8), (0 : UInt8), (0 : UInt8), (0 : UInt8), (0 : UInt8), (0 : UInt8), (0 : UInt8), (0 : UInt8), (0 : UInt8), (0 : UInt8), (0 : UInt8), (0 : UInt8), (0 : UInt8)] [(0 : UInt8), (0 : UInt8), (0 : UInt8), (0 : UInt8), (0 : UInt8), (0 : UInt8), (0 : UInt8), (0 : UInt8), (0 : UInt8), (0 : UInt8), (0 : UInt8), (0 : UInt8), (0 : UInt8), (0 : UInt8), (0 : UInt8), (0 : UInt8), (0 : UInt8), (0 : UInt8), (0 : UInt8), (0 : UInt8), (0 : UInt8), (0 : UInt8), (0 : UInt8), (0 : UInt8), (0 : UInt8), (0 : UInt8), (0 : UInt8), (0 : UInt8), (0 : UInt8), (0 : UInt8), (0 : UInt8), (0 : UInt8)]) (32 : Nat) (keyL [UInt8.ofNat (nat_lit 2), (0 : UInt8), (0 : UInt8), (0 : UInt8), (0 : UInt8), (0 : UInt8), (0 : UInt8), (0 : UInt8), (0 : UInt8), (0 : UInt8), (0 : UInt8), (0 : UInt8), (0 : UInt8), (0 : UInt8), (0 : UInt8), (0 : UInt8), (0 : UInt8), (0 : UInt8), (0 : UInt8), (0 : UInt8), (0 : UInt8), (0 : UInt8), (0 : UInt8), (0 : UInt8), (0 : UInt8), (0 : UInt8), (0 : UInt8), (0 : UInt8), (0 : UInt8), (0 : UInt8), (0 : UInt8), (0 : UInt8)] nineL) → ∀ (y_2 : List UInt8), y_2 = zL (iE [UInt8.ofNat (nat_lit 1), (0 : UInt8), (0 : UInt8), (0 : UInt8), (0 : UInt8), (0 : UInt8), (0 : UInt8), (0 : UInt8), (0 : UInt8), (0 : UInt8), (0 : UInt8), (0 : UInt8), (0 : UInt8), (0 : UInt8), (0 : UInt8), (0 : UInt8), (0 : UInt8), (0 : UInt8), (0 : UInt8), (0 : UInt8), (0 : UInt8), (0 : UInt8), (0 : UInt8), (0 : UInt8), (0 : UInt8), (0 : UInt8), (0 : UInt8), (0 : UInt8), (0 : UInt8), (0 : UInt8), (0 : UInt8), (0 : UInt8)] [UInt8.ofNat (nat_lit 2), (0 : UInt8), (0 : UInt8), (0 : UInt8), (0 : UInt8), (0 : UInt8), (0 : UInt8), (0 : UInt8), (0 : UInt8), (0 : UInt8), (0 : UInt8), (0 : UInt8), (0 : UInt8), (0 : UInt8), (0 : UInt8), (0 : UInt8), (0 : UInt8), (0 : UInt8), (0 : UInt8), (0 : UInt8), (0 : UInt8), (0 : UInt8), (0 : UInt8), (0 : UInt8), (0 : UInt8), (0 : UInt8), (0 : UInt8), (0 : UInt8), (0 : UInt8), (0 : UInt8), (0 : UInt8), (0 : UInt8)] [(0 : UInt8), (0 : UInt8), (0 : UInt8), (0 : UInt8), (0 : UInt8), (0 : UInt8), (0 : UInt8), (0 : UInt8), (0 : UInt8), (0 : UInt8), (0 : UInt8), (0 : UInt8), (0 : UInt8), (0 : UInt8), (0 : UInt8), (0 : UInt8), (0 : UInt8), (0 : UInt8), (0 : UInt8), (0 : UInt8), (0 : UInt8), (0 : UInt8), (0 : UInt8), (0 : UInt8), (0 : UInt8), (0 : UInt8), (0 : UInt8), (0 : UInt8), (0 : UInt8), (0 : UInt8), (0 : UInt8), (0 : UInt8)]) (48 : Nat) (iS1 [UInt8.ofNat (nat_lit 1), (0 : UInt8), (0 : UInt8), (0 : UInt8), (0 : UInt8), (0 : UInt8), (0 : UInt8), (0 : UInt8), (0 : UInt8), (0 : UInt8), (0 : UInt8), (0 : UInt8), (0 : UInt8), (0 : UInt8), (0 : UInt8), (0 : UInt8), (0 : UInt8), (0 : UInt8), (0 : UInt8), (0 : UInt8), (0 : UInt8), (0 : UInt8), (0 : UInt8), (0 : UInt8), (0 : UInt8), (0 : UInt8), (0 : UInt8), (0 : UInt8), (0 : UInt8), (0 : UInt8), (0 : UInt8), (0 : UInt8)] [UInt8.ofNat (nat_lit 2), (0 : UInt8), (0 : UInt8), (0 : UInt8), (0 : UInt8), (0 : UInt8), (0 : UInt8), (0 : UInt8), (0 : UInt8), (0 : UInt8), (0 : UInt8), (0 : UInt8), (0 : UInt8), (0 : UInt8), (0 : UInt8), (0 : UInt8), (0 : UInt8), (0 : UInt8), (0 : UInt8), (0 : UInt8), (0 : UInt8), (0 : UInt8), (0 : UInt8), (0 : UInt8), (0 : UInt8), (0 : UInt8), (0 : UInt8), (0 : UInt8), (0 : UInt8), (0 : UInt8), (0 : UInt8), (0 : UInt8)] [(0 : UInt8), (0 : UInt8), (0 : UInt8), (0 : UInt8), (0 : UInt8), (0 : UInt8), (0 : UInt8), (0 : UInt8), (0 : UInt8), (0 : UInt8), (0 : UInt8), (0 : UInt8), (0 : UInt8), (0 : UInt8), (0 : UInt8), (0 : UInt8), (0 : UInt8), (0 : UInt8), (0 : UInt8), (0 : UInt8), (0 : UInt8), (0 : UInt8), (0 : UInt8), (0 : UInt8), (0 : UInt8), (0 : UInt8), (0 : UInt8), (0 : UInt8), (0 : UInt8), (0 : UInt8), (0 : UInt8), (0 : UInt8)]) → ∀ (y_3 : List UInt8), y_3 = zL (iE [UInt8.ofNat (nat_lit 1), (0 : UInt8), (0 : UInt8), (0 : UInt8), (0 : UInt8), (0 : UInt8), (0 : UInt8), (0 : UInt8), (0 : UInt8), (0 : UInt8), (0 : UInt8), (0 : UInt8), (0 : UInt8), (0 : UInt8), (0 : UInt8), (0 : UInt8), (0 : UInt8), (0 : UInt8), (0 : UInt8), (0 : UInt8), (0 : UInt8), (0 : UInt8), (0 : UInt8), (0 : UInt8), (0 : UInt8), (0 : UInt8), (0 : UInt8), (0 : UInt8), (0 : UInt8), (0 : UInt8), (0 : UInt8), (0 : UInt8)] [UInt8.ofNat (nat_lit 2), (0 : UInt8), (0 : UInt8), (0 : UInt8), (0 : UInt8), (0 : UInt8), (0 : UInt8), (0 : UInt8), (0 : UInt8), (0 : UInt8), (0 : UInt8), (0 : UInt8), (0 : UInt8), (0 : UInt8), (0 : UInt8), (0 : UInt8), (0 : UInt8), (0 : UInt8), (0 : UInt8), (0 : UInt8), (0 : UInt8), (0 : UInt8), (0 : UInt8), (0 : UInt8), (0 : UInt8), (0 : UInt8), (0 : UInt8), (0 : UInt8), (0 : UInt8), (0 : UInt8), (0 : UInt8), (0 : UInt8)] [(0 : UInt8), (0 : UInt8), (0 : UInt8), (0 : UInt8), (0 : UInt8), (0 : UInt8), (0 : UInt8), (0 : UInt8), (0 : UInt8), (0 : UInt8), (0 : UInt8), (0 : UInt8), (0 : UInt8), (0 : UInt8), (0 : UInt8), (0 : UInt8), (0 : UInt8), (0 : UInt8), (0 : UInt8), (0 : UInt8), (0 : UInt8), (0 : UInt8), (0 : UInt8), (0 : UInt8), (0 : UInt8), (0 : UInt8), (0 : UInt8), (0 : UInt8), (0 : UInt8), (0 : UInt8), (0 : UInt8), (0 : UInt8)]) (28 : Nat) (iS2 [UInt8.ofNat (nat_lit 1), (0 : UInt8), (0 : UInt8), (0 : UInt8), (0 : UInt8), (0 : UInt8), (0 : UInt8), (0 : UInt8), (0 : UInt8), (0 : UInt8), (0 : UInt8), (0 : UInt8), (0 : UInt8), (0 : UInt8), (0 : UInt8), (0 : UInt8), (0 : UInt8), (0 : UInt8), (0 : UInt8), (0 : UInt8), (0 : UInt8), (0 : UInt8), (0 : UInt8), (0 : UInt8), (0 : UInt8), (0 : UInt8), (0 : UInt8), (0 : UInt8), (0 : UInt8), (0 : UInt8), (0 : UInt8), (0 : UInt8)] [UInt8.ofNat (nat_lit 2), (0 : UInt8), (0 : UInt8), (0 : UInt8), (0 : UInt8), (0 : UInt8), (0 : UInt8), (0 : UInt8), (0 : UInt8), (0 : UInt8), (0 : UInt8), (0 : UInt8), (0 : UInt8), (0 : UInt8), (0 : UInt8), (0 : UInt8), (0 : UInt8), (0 : UInt8), (0 : UInt8), (0 : UInt8), (0 : UInt8), (0 : UInt8), (0 : UInt8), (0 : UInt8), (0 : UInt8), (0 : UInt8), (0 : UInt8), (0 : UInt8), (0 : UInt8), (0 : UInt8), (0 : UInt8), (0 : UInt8)] [(0 : UInt8), (0 : UInt8), (0 : UInt8), (0 : UInt8), (0 : UInt8), (0 : UInt8), (0 : UInt8), (0 : UInt8), (0 : UInt8), (0 : UInt8), (0 : UInt8), (0 : UInt8), (0 : UInt8), (0 : UInt8), (0 : UInt8), (0 : UInt8), (0 : UInt8), (0 : UInt8), (0 : UInt8), (0 : UInt8), (0 : UInt8), (0 : UInt8), (0 : UInt8), (0 : UInt8), (0 : UInt8), (0 : UInt8), (0 : UInt8), (0 : UInt8), (0 : UInt8), (0 : UInt8), (0 : UInt8), (0 : UInt8)] [(0 : UInt8), (0 : UInt8), (0 : UInt8), (0 : UInt8), (0 : UInt8), (0 : UInt8), (0 : UInt8), (0 : UInt8), (0 : UInt8), (0 : UInt8), (0 : UInt8), (0 : UInt8)]) → ∀ (y_4 : List UInt8), y_4 = List.replicate (16 : Nat) (0 : UInt8) → ∀ (y_5 : List UInt8), y_5 = List.replicate (16 : Nat) (0 : UInt8) → ∀ (y_6 : List UInt8), y_6 = zL (iE [UInt8.ofNat (nat_lit 1), (0 : UInt8), (0 : UInt8), (0 : UInt8), (0 : UInt8), (0 : UInt8), (0 : UInt8), (0 : UInt8), (0 : UInt8), (0 : UInt8), (0 : UInt8), (0 : UInt8), (0 : UInt8), (0 : UInt8), (0 : UInt8), (0 : UInt8), (0 : UInt8), (0 : UInt8), (0 : UInt8), (0 : UInt8), (0 : UInt8), (0 : UInt8), (0 : UInt8), (0 : UInt8), (0 : UInt8), (0 : UInt8), (0 : UInt8), (0 : UInt8), (0 : UInt8), (0 : UInt8), (0 : UInt8), (0 : UInt8)] [UInt8.ofNat (nat_lit 2), (0 : UInt8), (0 : UInt8), (0 : UInt8), (0 : UInt8), (0 : UInt8), (0 : UInt8), (0 : UInt8), (0 : UInt8), (0 : UInt8), (0 : UInt8), (0 : UInt8), (0 : UInt8), (0 : UInt8), (0 : UInt8), (0 : UInt8), (0 : UInt8), (0 : UInt8), (0 : UInt8), (0 : UInt8), (0 : UInt8), (0 : UInt8), (0 : UInt8), (0 : UInt8), (0 : UInt8), (0 : UInt8), (0 : UInt8), (0 : UInt8), (0 : UInt8), (0 : UInt8), (0 : UInt8), (0 : UInt8)] [(0 : UInt8), (0 : UInt8), (0 : UInt8), (0 : UInt8), (0 : UInt8), (0 : UInt8), (0 : UInt8), (0 : UInt8), (0 : UInt8), (0 : UInt8), (0 : UInt8), (0 : UInt8), (0 : UInt8), (0 : UInt8), (0 : UInt8), (0 : UInt8), (0 : UInt8), (0 : UInt8), (0 : UInt8), (0 : UInt8), (0 : UInt8), (0 : UInt8), (0 : UInt8), (0 : UInt8), (0 : UInt8), (0 : UInt8), (0 : UInt8), (0 : UInt8), (0 : UInt8), (0 : UInt8), (0 : UInt8), (0 : UInt8)]) (32 : Nat) (iH3 [UInt8.ofNat (nat_lit 1), (0 : UInt8), (0 : UInt8), (0 : UInt8), (0 : UInt8), (0 : UInt8), (0 : UInt8), (0 : UInt8), (0 : UInt8), (0 : UInt8), (0 : UInt8), (0 : UInt8), (0 : UInt8), (0 : UInt8), (0 : UInt8), (0 : UInt8), (0 : UInt8), (0 : UInt8), (0 : UInt8), (0 : UInt8), (0 : UInt8), (0 : UInt8), (0 : UInt8), (0 : UInt8), (0 : UInt8), (0 : UInt8), (0 : UInt8), (0 : UInt8), (0 : UInt8), (0 : UInt8), (0 : UInt8), (0 : UInt8)] [UInt8.ofNat (nat_lit 2), (0 : UInt8), (0 : UInt8), (0 : UInt8), (0 : UInt8), (0 : UInt8), (0 : UInt8), (0 : UInt8), (0 : UInt8), (0 : UInt8), (0 : UInt8), (0 : UInt8), (0 : UInt8), (0 : UInt8), (0 : UInt8), (0 : UInt8), (0 : UInt8), (0 : UInt8), (0 : UInt8), (0 : UInt8), (0 : UInt8), (0 : UInt8), (0 : UInt8), (0 : UInt8), (0 : UInt8), (0 : UInt8), (0 : UInt8), (0 : UInt8), (0 : UInt8), (0 : UInt8), (0 : UInt8), (0 : UInt8)] [(0 : UInt8), (0 : UInt8), (0 : UInt8), (0 : UInt8), (0 : UInt8), (0 : UInt8), (0 : UInt8), (0 : UInt8), (0 : UInt8), (0 : UInt8), (0 : UInt8), (0 : UInt8), (0 : UInt8), (0 : UInt8), (0 : UInt8), (0 : UInt8), (0 : UInt8), (0 : UInt8), (0 : UInt8), (0 : UInt8), (0 : UInt8), (0 : UInt8), (0 : UInt8), (0 : UInt8), (0 : UInt8), (0 : UInt8), (0 : UInt8), (0 : UInt8), (0 : UInt8), (0 : UInt8), (0 : UInt8), (0 : UInt8)] [(0 : UInt8), (0 : UInt8), (0 : UInt8), (0 : UInt8), (0 : UInt8), (0 : UInt8), (0 : UInt8), (0 : UInt8), (0 : UInt8), (0 : UInt8), (0 : UInt8), (0 : UInt8)]) → ∀ (y_7 : List UInt8), y_7 = zL (iE [UInt8.ofNat (nat_lit 1), (0 : UInt8), (0 : UInt8), (0 : UInt8), (0 : UInt8), (0 : UInt8), (0 : UInt8), (0 : UInt8), (0 : UInt8), (0 : UInt8), (0 : UInt8), (0 : UInt8), (0 : UInt8), (0 : UInt8), (0 : UInt8), (0 : UInt8), (0 : UInt8), (0 : UInt8), (0 : UInt8), (0 : UInt8), (0 : UInt8), (0 : UInt8), (0 : UInt8), (0 : UInt8), (0 : UInt8), (0 : UInt8), (0 : UInt8), (0 : UInt8), (0 : UInt8), (0 : UInt8), (0 : UInt8), (0 : UInt8)] [UInt8.ofNat (nat_lit 2), (0 : UInt8), (0 : UInt8), (0 : UInt8), (0 : UInt8), (0 : UInt8), (0 : UInt8), (0 : UInt8), (0 : UInt8), (0 : UInt8), (0 : UInt8), (0 : UInt8), (0 : UInt8), (0 : UInt8), (0 : UInt8), (0 : UInt8), (0 : UInt8), (0 : UInt8), (0 : UInt8), (0 : UInt8), (0 : UInt8), (0 : UInt8), (0 : UInt8), (0 : UInt8), (0 : UInt8), (0 : UInt8), (0 : UInt8), (0 : UInt8), (0 : UInt8), (0 : UInt8), (0 : UInt8), (0 : UInt8)] [(0 : UInt8), (0 : UInt8), (0 : UInt8), (0 : UInt8), (0 : UInt8), (0 : UInt8), (0 : UInt8), (0 : UInt8), (0 : UInt8), (0 : UInt8), (0 : UInt8), (0 : UInt8), (0 : UInt8), (0 : UInt8), (0 : UInt8), (0 : UInt8), (0 : UInt8), (0 : UInt8), (0 : UInt8), (0 : UInt8), (0 : UInt8), (0 : UInt8), (0 : UInt8), (0 : UInt8), (0 : UInt8), (0 : UInt8), (0 : UInt8), (0 : UInt8), (0 : UInt8), (0 : UInt8), (0 : UInt8), (0 : UInt8)]) (32 : Nat) (iC3 [UInt8.ofNat (nat_lit 1), (0 : UInt8), (0 : UInt8), (0 : UInt8), (0 : UInt8), (0 : UInt8), (0 : UInt8), (0 : UInt8), (0 : UInt8), (0 : UInt8), (0 : UInt8), (0 : UInt8), (0 : UInt8), (0 : UInt8), (0 : UInt8), (0 : UInt8), (0 : UInt8), (0 : UInt8), (0 : UInt8), (0 : UInt8), (0 : UInt8), (0 : UInt8), (0 : UInt8), (0 : UInt8), (0 : UInt8), (0 : UInt8), (0 : UInt8), (0 : UInt8), (0 : UInt8), (0 : UInt8), (0 : UInt8), (0 : UInt8)] [UInt8.ofNat (nat_lit 2), (0 : UInt8), (0 : UInt8), (0 : UInt8), (0 : UInt8), (0 : UInt8), (0 : UInt8), (0 : UInt8), (0 : UInt8), (0 : UInt8), (0 : UInt8), (0 : UInt8), (0 : UInt8), (0 : UInt8), (0 : UInt8), (0 : UInt8), (0 : UInt8), (0 : UInt8), (0 : UInt8), (0 : UInt8), (0 : UInt8), (0 : UInt8), (0 : UInt8), (0 : UInt8), (0 : UInt8), (0 : UInt8), (0 : UInt8), (0 : UInt8), (0 : UInt8), (0 : UInt8), (0 : UInt8), (0 : UInt8)] [(0 : UInt8), (0 : UInt8), (0 : UInt8), (0 : UInt8), (0 : UInt8), (0 : UInt8), (0 : UInt8), (0 : UInt8), (0 : UInt8), (0 : UInt8), (0 : UInt8), (0 : UInt8), (0 : UInt8), (0 : UInt8), (0 : UInt8), (0 : UInt8), (0 : UInt8), (0 : UInt8), (0 : UInt8), (0 : UInt8), (0 : UInt8), (0 : UInt8), (0 : UInt8), (0 : UInt8), (0 : UInt8), (0 : UInt8), (0 : UInt8), (0 : UInt8), (0 : UInt8), (0 : UInt8), (0 : UInt8), (0 : UInt8)]) → ∀ (y_8 : Int), y_8 = iE [UInt8.ofNat (nat_lit 1), (0 : UInt8), (0 : UInt8), (0 : UInt8), (0 : UInt8), (0 : UInt8), (0 : UInt8), (0 : UInt8), (0 : UInt8), (0 : UInt8), (0 : UInt8), (0 : UInt8), (0 : UInt8), (0 : UInt8), (0 : UInt8), (0 : UInt8), (0 : UInt8), (0 : UInt8), (0 : UInt8), (0 : UInt8), (0 : UInt8), (0 : UInt8), (0 : UInt8), (0 : UInt8), (0 : UInt8), (0 : UInt8), (0 : UInt8), (0 : UInt8), (0 : UInt8), (0 : UInt8), (0 : UInt8), (0 : UInt8)] [UInt8.ofNat (nat_lit 2), (0 : UInt8), (0 : UInt8), (0 : UInt8), (0 : UInt8), (0 : UInt8), (0 : UInt8), (0 : UInt8), (0 : UInt8), (0 : UInt8), (0 : UInt8), (0 : UInt8), (0 : UInt8), (0 : UInt8), (0 : UInt8), (0 : UInt8), (0 : UInt8), (0 : UInt8), (0 : UInt8), (0 : UInt8), (0 : UInt8), (0 : UInt8), (0 : UInt8), (0 : UInt8), (0 : UInt8), (0 : UInt8), (0 : UInt8), (0 : UInt8), (0 : UInt8), (0 : UInt8), (0 : UInt8), (0 : UInt8)] [(0 : UInt8), (0 : UInt8), (0 : UInt8), (0 : UInt8), (0 : UInt8), (0 : UInt8), (0 : UInt8), (0 : UInt8), (0 : UInt8), (0 : UInt8), (0 : UInt8), (0 : UInt8), (0 : UInt8), (0 : UInt8), (0 : UInt8), (0 : UInt8), (0 : UInt8), (0 : UInt8), (0 : UInt8), (0 : UInt8), (0 : UInt8), (0 : UInt8), (0 : UInt8), (0 : UInt8), (0 : UInt8), (0 : UInt8), (0 : UInt8), (0 : UInt8), (0 : UInt8), (0 : UInt8), (0 : UInt8), (0 : UInt8)] → ∀ (y_9 : UInt32), y_9 = y → ∀ (y : List UInt8), y = y_1 → ∀ (y : List UInt8), y = y_2 → ∀ (y : List UInt8), y = y_3 → ∀ (y : List UInt8), y = y_4 → ∀ (y : List UInt8), y = y_5 → ∀ (y : List UInt8), y = y_6 → ∀ (y : List UInt8), y = y_7 → ∀ (y : Int), y = y_8 → decide (y = Int.ofNat (21 : Nat)) = true ∧ True) := by kernel_rfl
set_option maxRecDepth 100000 in
theorem vcHAgr (a b c d q t : BS) (m n : UInt32) : (vcFn HGl 300 3 [.w (.agg [.vec (.n 32) (.u8 a)]), .w (.agg [.vec (.n 32) (.u8 b)]), .w (.agg [.vec (.n 32) (.u8 c)]), .w (.agg [.vec (.n 32) (.u8 d)]), .w (.agg [.vec (.n 32) (.u8 q)]), .w (.agg [.vec (.n 12) (.u8 t)]), .w (.s (.u32 m)), .w (.s (.u32 n))] (.s (.b true))) =
  (∀ (y : List UInt8), y = keyL a nineL → ∀ (y_1 : List UInt8), y_1 = keyL b nineL → ∀ (y_2 : List UInt8), y_2 = y → ∀ (y : List UInt8), y = y_1 → ∀ (y_3 : UInt32), y_3 = zU (iE a c y) m → ∀ (y_4 : List UInt8), y_4 = zL (iE a c y) (32 : Nat) (keyL c nineL) → ∀ (y_5 : List UInt8), y_5 = zL (iE a c y) (48 : Nat) (iS1 a c y) → ∀ (y_6 : List UInt8), y_6 = zL (iE a c y) (28 : Nat) (iS2 a c y t) → ∀ (y_7 : List UInt8), y_7 = List.replicate (16 : Nat) (0 : UInt8) → ∀ (y_8 : List UInt8), y_8 = List.replicate (16 : Nat) (0 : UInt8) → ∀ (y_9 : List UInt8), y_9 = zL (iE a c y) (32 : Nat) (iH3 a c y t) → ∀ (y_10 : List UInt8), y_10 = zL (iE a c y) (32 : Nat) (iC3 a c y) → ∀ (y_11 : Int), y_11 = iE a c y → ∀ (y : UInt32), y = y_3 → ∀ (y_12 : List UInt8), y_12 = y_4 → ∀ (y_13 : List UInt8), y_13 = y_5 → ∀ (y_14 : List UInt8), y_14 = y_6 → ∀ (y_15 : List UInt8), y_15 = y_7 → ∀ (y_16 : List UInt8), y_16 = y_8 → ∀ (y_17 : List UInt8), y_17 = y_9 → ∀ (y_18 : List UInt8), y_18 = y_10 → ∀ (y_19 : Int), y_19 = y_11 → ∀ (y_20 : List UInt8), y_20 = zL (cE b y_12 y_13 y_14) (32 : Nat) (cL1 b y_12 y_13) → ∀ (y_21 : List UInt8), y_21 = zL (cE b y_12 y_13 y_14) (12 : Nat) (cL2 b y_12 y_13 y_14) → ∀ (y_22 : List UInt8), y_22 = zL (cE b y_12 y_13 y_14) (32 : Nat) (cH3 b y_12 y_13 y_14) → ∀ (y_23 : List UInt8), y_23 = zL (cE b y_12 y_13 y_14) (32 : Nat) (cC5 b y_12 y_13 y_14) → ∀ (y_24 : Int), y_24 = cE b y_12 y_13 y_14 → ∀ (y_25 : List UInt8), y_25 = y_20 → ∀ (y_26 : List UInt8), y_26 = y_21 → ∀ (y_27 : List UInt8), y_27 = y_22 → ∀ (y_28 : List UInt8), y_28 = y_23 → ∀ (y_29 : Int), y_29 = y_24 → ∀ (y_30 : UInt32), y_30 = zU (rE d y_12 y_25) n → ∀ (y_31 : UInt32), y_31 = zU (rE d y_12 y_25) y → ∀ (y_32 : List UInt8), y_32 = zL (rE d y_12 y_25) (32 : Nat) (keyL d nineL) → ∀ (y_33 : List UInt8), y_33 = zL (rE d y_12 y_25) (16 : Nat) (rS y_27 y_28 d y_12 y_25 q) → ∀ (y_34 : List UInt8), y_34 = List.replicate (16 : Nat) (0 : UInt8) → ∀ (y_35 : List UInt8), y_35 = List.replicate (16 : Nat) (0 : UInt8) → ∀ (y_36 : List UInt8), y_36 = zL (rE d y_12 y_25) (32 : Nat) (exI (rC4 y_28 d y_12 y_25 q) [] (2 : Int) (1 : Nat)) → ∀ (y_37 : List UInt8), y_37 = zL (rE d y_12 y_25) (32 : Nat) (exI (rC4 y_28 d y_12 y_25 q) [] (2 : Int) (0 : Nat)) → ∀ (y_38 : Int), y_38 = rE d y_12 y_25 → ∀ (y_39 : UInt32), y_39 = y_30 → ∀ (y_40 : UInt32), y_40 = y_31 → ∀ (y_41 : List UInt8), y_41 = y_32 → ∀ (y_42 : List UInt8), y_42 = y_33 → ∀ (y_43 : List UInt8), y_43 = y_34 → ∀ (y_44 : List UInt8), y_44 = y_35 → ∀ (y_45 : List UInt8), y_45 = y_36 → ∀ (y_46 : List UInt8), y_46 = y_37 → ∀ (y_47 : Int), y_47 = y_38 → ∀ (y_48 : List UInt8), y_48 = zL (fE a y_17 y_18 c y_41 q y_42) (32 : Nat) (exI (fC5 a y_17 y_18 c y_41 q y_42) [] (2 : Int) (0 : Nat)) → ∀ (y_49 : List UInt8), y_49 = zL (fE a y_17 y_18 c y_41 q y_42) (32 : Nat) (exI (fC5 a y_17 y_18 c y_41 q y_42) [] (2 : Int) (1 : Nat)) → ∀ (y_50 : Int), y_50 = fE a y_17 y_18 c y_41 q y_42 → ∀ (y_51 : List UInt8), y_51 = y_48 → ∀ (y_52 : List UInt8), y_52 = y_49 → ∀ (y_53 : Int), y_53 = y_50 → (decide (y_19 = Int.ofNat (0 : Nat)) = true → (decide (y_29 = Int.ofNat (0 : Nat)) = true → (decide (y_47 = Int.ofNat (0 : Nat)) = true → (decide (y_53 = Int.ofNat (0 : Nat)) = true → ((y_25 == y_2) = true → ((y_26 == t) = true → ((y_17 == y_27 && y_18 == y_28) = true → ((y_45 == y_52) = true → ((y_46 == y_51) = true → ((y == m) = true → ((y_39 == n) = true → ((y_40 == m) = true → true = true ∧ True) ∧ ((y_40 == m) = false → false = true ∧ True)) ∧ ((y_39 == n) = false → false = true ∧ True)) ∧ ((y == m) = false → false = true ∧ True)) ∧ ((y_46 == y_51) = false → false = true ∧ True)) ∧ ((y_45 == y_52) = false → false = true ∧ True)) ∧ ((y_17 == y_27 && y_18 == y_28) = false → false = true ∧ True)) ∧ ((y_26 == t) = false → false = true ∧ True)) ∧ ((y_25 == y_2) = false → false = true ∧ True)) ∧ (decide (y_53 = Int.ofNat (0 : Nat)) = false → false = true ∧ True)) ∧ (decide (y_47 = Int.ofNat (0 : Nat)) = false → false = true ∧ True)) ∧ (decide (y_29 = Int.ofNat (0 : Nat)) = false → false = true ∧ True)) ∧ (decide (y_19 = Int.ofNat (0 : Nat)) = false → false = true ∧ True)) := by kernel_rfl
end Go.Proofs.Ytiogdokekibeiaa
