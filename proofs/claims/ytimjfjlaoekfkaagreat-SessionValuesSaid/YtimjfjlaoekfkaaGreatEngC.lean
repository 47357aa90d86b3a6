/- A symbolic executor over abstract states, its conditions shown to be enough for the model (part 3). -/
import Derived.Test.YtimjfjlaoekfkaaGreatEngB
import Derived.Laws.Sem
import Derived.MapKept
import Derived.Deep.LoopGhost
/- Statements, calls, functions: the conditions that are to be shown. -/
namespace Go.Eng
open Go Go.RowKit

noncomputable def conj : List Prop → Prop → Prop
  | [], q => q
  | p :: ps, q => p ∧ conj ps q

noncomputable def frcI {β : Type} (i : I) (k : I → β) : β :=
  match i with
  | .n x => frcN x fun x => k (.n x)
  | .s x => k (.s x)
noncomputable def frcVec {β : Type} (v : Vec) (k : Vec → β) : β :=
  match v with
  | .u8 l => k (.u8 l) | .u16 l => k (.u16 l) | .u32 l => k (.u32 l) | .u64 l => k (.u64 l) | .i64 l => k (.i64 l) | .bo l => k (.bo l) | .sl l => k (.sl l) | .va l => k (.va l)
noncomputable def frcS {β : Type} (s : S) (k : S → β) : β :=
  match s with
  | .ptr b o => frcN b fun b => frcN o fun o => k (.ptr b o)
  | .pti b o i => frcN b fun b => frcN o fun o => k (.pti b o i)
  | .clo f b o => frcN f fun f => frcN b fun b => frcN o fun o => k (.clo f b o)
  | .sl b o i len z => frcN b fun b => frcN o fun o => frcI i fun i => frcI len fun len => frcN z fun z => k (.sl b o i len z)
  | .xs z len v => frcN z fun z => frcI len fun len => frcVec v fun v => k (.xs z len v)
  | .any => k .any | .u8 x => k (.u8 x) | .u16 x => k (.u16 x) | .u32 x => k (.u32 x) | .u64 x => k (.u64 x) | .i64 x => k (.i64 x)
  | .n x => frc x fun x => k (.n x)
  | .b x => k (.b x) | .str l => k (.str l) | .nil => k .nil | .cst v => k (.cst v)
  | .lb true => k (.lb true)
  | .lb false => k (.lb false)
  | s => k s
noncomputable def frcCh {β : Type} (c : Ch) (k : Ch → β) : β :=
  match c with
  | .one s => frcS s fun s => k (.one s)
  | .vec n v => frcI n fun n => frcVec v fun v => k (.vec n v)
noncomputable def frcCs {β : Type} : List Ch → (List Ch → β) → β
  | [], k => k []
  | c :: r, k => frcCh c fun c => frcCs r fun r => k (c :: r)
noncomputable def frcU {β : Type} : U → (U → β) → β
  | [], k => k []
  | (j, b) :: r, k => frcN j fun j => match b with
    | none => frcU r fun r => k ((j, none) :: r)
    | some cs => frcCs cs fun cs => frcU r fun r => k ((j, some cs) :: r)
noncomputable def frcW {β : Type} (x : W) (k : W → β) : β :=
  match x with
  | .s s => frcS s fun s => k (.s s)
  | .agg cs => frcCs cs fun cs => k (.agg cs)
noncomputable def frcWs {β : Type} : List W → (List W → β) → β
  | [], k => k []
  | x :: r, k => frcW x fun x => frcWs r fun r => k (x :: r)
noncomputable def frcV {β : Type} (x : V) (k : V → β) : β :=
  match x with
  | .w x => frcW x fun x => k (.w x)
  | .tup l => frcWs l fun l => k (.tup l)
theorem frcI_eq {β : Type} (i : I) (k : I → β) : frcI i k = k i := by cases i <;> simp [frcI, frcN_eq]
theorem frcVec_eq {β : Type} (v : Vec) (k : Vec → β) : frcVec v k = k v := by cases v <;> rfl
theorem frcS_eq {β : Type} (s : S) (k : S → β) : frcS s k = k s := by
  cases s <;> simp [frcS, frcN_eq, frcI_eq, frcVec_eq, frc_eq]
  rename_i x
  cases x <;> rfl
theorem frcCh_eq {β : Type} (c : Ch) (k : Ch → β) : frcCh c k = k c := by cases c <;> simp [frcCh, frcS_eq, frcI_eq, frcVec_eq]
theorem frcCs_eq {β : Type} : ∀ (l : List Ch) (k : List Ch → β), frcCs l k = k l
  | [], k => rfl
  | c :: r, k => by rw [frcCs, frcCh_eq, frcCs_eq r]
theorem frcU_eq {β : Type} : ∀ (l : U) (k : U → β), frcU l k = k l
  | [], k => rfl
  | (j, none) :: r, k => by rw [frcU, frcN_eq]; simp only []; rw [frcU_eq r]
  | (j, some cs) :: r, k => by rw [frcU, frcN_eq]; simp only []; rw [frcCs_eq, frcU_eq r]
theorem frcW_eq {β : Type} (x : W) (k : W → β) : frcW x k = k x := by cases x <;> simp [frcW, frcS_eq, frcCs_eq]
theorem frcWs_eq {β : Type} : ∀ (l : List W) (k : List W → β), frcWs l k = k l
  | [], k => rfl
  | x :: r, k => by rw [frcWs, frcW_eq, frcWs_eq r]
theorem frcV_eq {β : Type} (x : V) (k : V → β) : frcV x k = k x := by cases x <;> simp [frcV, frcW_eq, frcWs_eq]
noncomputable def noVec (P : Program) : Nat → TypeId → Option Vec
  | 0, _ => none
  | d + 1, e => match P.underlying e with
    | some (.int k) => kindVec k 0
    | some .bool => some (.bo [])
    | some (.slice _) => some (.sl [])
    | some (.struct _) => some (.va [])
    | some (.array _ e) => noVec P d e
    | _ => none
noncomputable def isStr : S → Bool
  | .str _ => true
  | _ => false
noncomputable def bytesOf (x : S) (own : List Blk) : R (List UInt8) :=
  match isStr x, srcOf x own 1 with
  | false, some (p, _, [.vec _ (.u8 l)]) => some (p, l)
  | false, some (p, _, []) => some (p, [])
  | _, _ => none
noncomputable def bytesAll (own : List Blk) : List Ch → R (List (List UInt8))
  | [] => some ([], [])
  | .one s :: r => match bytesOf s own with
    | none => none
    | some (p, l) => match bytesAll own r with
      | none => none
      | some (q, ls) => some (p ++ q, l :: ls)
  | .vec _ v :: r => match v with
    | .sl l => match bytesAll own r with
      | none => none
      | some (q, ls) => some (q, l ++ ls)
    | _ => none
noncomputable def normS (s : S) : S :=
  match s with
  | .lb x => .b x
  | .n x => .i64 x
  | .xs 1 _ v => .xs 1 (.s v.len) v
  | .xs z n (.va l) => .xs z (.s n.val) (.va l)
  | s => s
noncomputable def purS0 (P : Program) (own : List Blk) (T : TypeId) (s : S) : R S :=
  match s with
  | .any => none
  | .ptr .. => none
  | .pti .. => none
  | .xp .. => none
  | .clo .. => none
  | .mref _ => none
  | .nil => match P.underlying T with
    | some (.slice e) => match noVec P 4 e, Nat.blt 0 (P.cellsOf e) with
      | some v, true => some ([], .xs (P.cellsOf e) (.n 0) v)
      | _, _ => none
    | _ => none
  | .sl k o i len z => match Nat.blt 0 z with
    | false => none
    | true => match srcOf (.sl k o i len z) own z with
      | none => none
      | some (p, n, cs) => match cs with
        | [.vec _ v] => some (p, .xs z n v)
        | [] => match P.underlying T with
          | some (.slice e) => match noVec P 4 e with
            | some v => some (p, .xs z n v)
            | _ => none
          | _ => none
        | cs => match Nat.beq z 1, bytesAll own cs with
          | true, some (q, ls) => some (p ++ q, .xs 1 n (.sl ls))
          | true, none => none
          | false, _ => match encC cs with
            | some l => some (p, .xs z n (.va l))
            | none => none
  | s => some ([], s)
noncomputable def purS (P : Program) (own : List Blk) (T : TypeId) (s : S) : R S :=
  match purS0 P own T s with
  | some (p, s) => some (p, normS s)
  | none => none
noncomputable def zAt (P : Program) : Nat → TypeId → Nat → Nat
  | 0, _, _ => 1
  | d + 1, T, o => match P.underlying T with
    | some (.slice e) => P.cellsOf e
    | some (.struct fs) => match fs.toList.find? (fun f => Nat.ble f.offset o && Nat.blt o (f.offset + P.cellsOf f.type)) with
      | some f => zAt P d f.type (o - f.offset)
      | none => 1
    | some (.array _ e) => zAt P d e (o % P.cellsOf e)
    | _ => 1
noncomputable def purC1 (P : Program) (own : List Blk) (T : TypeId) (o : Nat) (s : S) : R S :=
  match s with
  | .any => none
  | .ptr .. => none
  | .pti .. => none
  | .xp .. => none
  | .clo .. => none
  | .mref _ => none
  | .nil => frcN (zAt P 8 T o) fun z => match Nat.ble 2 z with
    | true => some ([], .xs z (.n 0) (.va []))
    | false => some ([], .xs 1 (.n 0) (.u8 []))
  | .sl k o i len z => match Nat.beq z 1 with
    | true => match srcOf (.sl k o i len z) own 1 with
      | some (p, n, [.vec _ v]) => some (p, .xs 1 n v)
      | some (p, n, []) => some (p, .xs 1 n (.u8 []))
      | _ => none
    | false => match Nat.blt 1 z with
      | true => match srcOf (.sl k o i len z) own z with
        | some (p, n, [.vec _ v]) => some (p, .xs z n v)
        | some (p, n, cs) => match encC cs with
          | some l => some (p, .xs z n (.va l))
          | none => none
        | none => none
      | false => none
  | s => some ([], s)
noncomputable def purCs (P : Program) (own : List Blk) (T : TypeId) : List Ch → Nat → R (List Ch)
  | [], _ => some ([], [])
  | .vec n v :: r, o => frcN (o + n.val) fun o => match purCs P own T r o with
    | none => none
    | some (q, cs) => some (q, .vec n v :: cs)
  | .one s :: r, o =>
    match purC1 P own T o s with
    | none => none
    | some (p, s') => frcN (o + 1) fun o => match purCs P own T r o with
      | none => none
      | some (q, cs) => some (p ++ q, .one (normS s') :: cs)
noncomputable def purV (P : Program) (own : List Blk) (T : TypeId) (x : V) : R V :=
  match x with
  | .w (.s s) => match purS P own T s with
    | some (p, s) => some (p, .s s)
    | none => none
  | .w (.agg cs) => match purCs P own T cs 0 with
    | some (p, cs) => some (p, .agg cs)
    | none => none
  | .tup _ => none
noncomputable def purL (P : Program) (own : List Blk) : List TypeId → List V → R (List V)
  | [], [] => some ([], [])
  | T :: Ts, x :: xs => match purV P own T x with
    | none => none
    | some (p, y) => match purL P own Ts xs with
      | none => none
      | some (q, ys) => some (p ++ q, y :: ys)
  | _, _ => none
noncomputable def flatS : S → Bool
  | .u8 _ | .u16 _ | .u32 _ | .u64 _ | .i64 _ | .n _ | .b _ | .lb _ | .str _ => true
  | _ => false
noncomputable def flatCs : List Ch → Bool
  | [] => true
  | .one s :: r => flatS s && flatCs r
  | .vec _ (.sl _) :: _ => false
  | .vec _ _ :: r => flatCs r
noncomputable def flatW : W → Bool
  | .s s => flatS s
  | .agg cs => flatCs cs
noncomputable def extS : S → Bool
  | .xs _ _ (.sl _) => false
  | .xs _ _ _ => true
  | s => flatS s
noncomputable def extCs : List Ch → Bool
  | [] => true
  | .one s :: r => extS s && extCs r
  | .vec _ _ :: r => extCs r
noncomputable def impAgg (x : W) (r : List W) : Option (List W × U) :=
  match x with
  | .agg cs => match r.all flatW, extCs cs with
    | true, true => some (x :: r, [])
    | _, _ => none
  | _ => none
noncomputable def impTup : List W → Nat → Option (List W × U)
  | [], _ => some ([], [])
  | .s (.xs z len v) :: r, f => match r.all flatW with
    | true => some (.s (.sl f 0 (.n 0) len z) :: r, [(f, some [.vec (len.mul z) v])])
    | false => none
  | x :: r, f => match flatW x with
    | true => match impTup r f with
      | some (r, u) => some (x :: r, u)
      | none => none
    | false => impAgg x r
noncomputable def imp (x : V) (f : Nat) : Option (V × U) :=
  match x with
  | .w (.s (.xs z len v)) => some (.s (.sl f 0 (.n 0) len z), [(f, some [.vec (len.mul z) v])])
  | .w (.s s) => match flatS s with
    | true => some (.s s, [])
    | false => none
  | .w (.agg cs) => match extCs cs with
    | true => some (.agg cs, [])
    | false => none
  | .tup l => match impTup l f with
    | some (l, u) => some (.tup l, u)
    | none => none

structure Inv where
  α : Type
  ok : α → Prop
  mu : α → Nat
  keep : List Nat
  slots : α → List (Nat × V)
  own : α → List (Nat × Blk)
  ext : α → List (Nat × List Ch)
abbrev SpecF := List V → Option (List Prop × V)
abbrev SpecM := List Ch → Nat → List V → Option (List Prop × V × List Ch)
structure HRes where
  α : Type
  ok : α → Prop
  res : α → V
abbrev SpecH := List V → Option (List Prop × HRes)
structure Env where
  P : Program
  G : FuncId → Option SpecF
  L : Nat → St → Option Inv
  R : Nat
  gen : Bool
  X : FuncId → Option SpecF
  M : FuncId → Option SpecM
  H : FuncId → Option SpecH

noncomputable def genS (s : S) (k : S → Prop) : Prop :=
  match s with
  | .u8 x => ∀ y, y = x → k (.u8 y)
  | .u16 x => ∀ y, y = x → k (.u16 y)
  | .u32 x => ∀ y, y = x → k (.u32 y)
  | .u64 x => ∀ y, y = x → k (.u64 y)
  | .i64 x => ∀ y, y = x → k (.i64 y)
  | s => k s
noncomputable def genVec (v : Vec) (k : Vec → Prop) : Prop :=
  match v with
  | .u8 x => ∀ y, y = x → k (.u8 y)
  | .u16 x => ∀ y, y = x → k (.u16 y)
  | .u32 x => ∀ y, y = x → k (.u32 y)
  | .u64 x => ∀ y, y = x → k (.u64 y)
  | .i64 x => ∀ y, y = x → k (.i64 y)
  | .bo x => ∀ y, y = x → k (.bo y)
  | .sl x => ∀ y, y = x → k (.sl y)
  | .va x => ∀ y, y = x → k (.va y)
noncomputable def genCs : List Ch → (List Ch → Prop) → Prop
  | [], k => k []
  | .one s :: r, k => genS s fun s => genCs r fun r => k (.one s :: r)
  | .vec n v :: r, k => genVec v fun v => genCs r fun r => k (.vec n v :: r)
noncomputable def genU : U → (U → Prop) → Prop
  | [], k => k []
  | (j, none) :: r, k => genU r fun r => k ((j, none) :: r)
  | (j, some cs) :: r, k => genCs cs fun cs => genU r fun r => k ((j, some cs) :: r)
noncomputable def genW (x : W) (k : W → Prop) : Prop :=
  match x with
  | .s s => genS s fun s => k (.s s)
  | .agg cs => genCs cs fun cs => k (.agg cs)
noncomputable def genWs : List W → (List W → Prop) → Prop
  | [], k => k []
  | x :: r, k => genW x fun x => genWs r fun r => k (x :: r)
noncomputable def genV (x : V) (k : V → Prop) : Prop :=
  match x with
  | .w x => genW x fun x => k (.w x)
  | .tup l => genWs l fun l => k (.tup l)
noncomputable def gen (b : Bool) (o : Op) (v : V) (u : U) (k : V → U → Prop) : Prop :=
  match b, o with
  | true, .store .. => genU u fun u => k v u
  | true, .assign _ => genV v fun v => k v u
  | true, .call _ => genV v fun v => genU u fun u => k v u
  | _, _ => k v u
noncomputable def gen2 (b : Bool) (v : V) (u : U) (k : V → U → Prop) : Prop :=
  match b with
  | true => genV v fun v => genU u fun u => k v u
  | false => k v u

noncomputable def dstOf (ops : List Oper) (j : Nat) : Option Tmp :=
  match ops[j]? with
  | some o => o.dst
  | none => none
noncomputable def want (ops : List Oper) (fr : List V) (o : Oper) : Option Bool :=
  match o.guard with
  | none => some true
  | some (j, y) => match dstOf ops j with
    | some t => match getF fr t with
      | .w (.s (.lb true)) => match y with | true => some true | false => some false
      | .w (.s (.lb false)) => match y with | true => some false | false => some true
      | .tup [] => some false
      | _ => none
    | none => none
noncomputable def isGuard : List Oper → Nat → Bool
  | [], _ => false
  | o :: r, i => match o.guard with
    | some (j, _) => match Nat.beq j i with | true => true | false => isGuard r i
    | none => isGuard r i
noncomputable def put (fr : List V) (d : Option Tmp) (v : V) (K : List V → Prop) : Prop :=
  match d with
  | none => K fr
  | some d => frcV v fun v => frcL (setF fr d v) K
noncomputable def tabFrom : List Ch → Bool
  | [] => true
  | .one _ :: r => tabFrom r
  | .vec _ _ :: _ => false
noncomputable def tabN (own : List Blk) (b o : Nat) : Option Nat :=
  match getO own b with
  | some cs => match tabFrom cs, Nat.blt o cs.length, Nat.ble cs.length 16 with
    | true, true, true => some (cs.length - o)
    | _, _, _ => none
  | none => none
noncomputable def splN (b o i : Nat) (k : V → Prop) (n : Nat) : Prop :=
  Nat.rec (motive := fun _ => Prop) True (fun j ih => (i = j → frcN (o + j) fun q => k (.s (.ptr b q))) ∧ ih) n
noncomputable def spl (own : List Blk) (v : V) (k : V → Prop) : Prop :=
  match v with
  | .w (.s (.pti b o i)) => match tabN own b o with
    | some n => frcN n fun n => i < n ∧ splN b o i k n
    | none => k v
  | v => k v
noncomputable def aft0 (g : Bool) (fr : List V) (own : List Blk) (d : Option Tmp) (v : V) (K : St → Prop) : Prop :=
  match g, v with
  | true, .w (.s (.b x)) => (x = true → put fr d (.s (.lb true)) fun fr => K ⟨fr, own⟩) ∧ (x = false → put fr d (.s (.lb false)) fun fr => K ⟨fr, own⟩)
  | _, v => put fr d v fun fr => K ⟨fr, own⟩
noncomputable def aft (g : Bool) (fr : List V) (own : List Blk) (d : Option Tmp) (v : V) (K : St → Prop) : Prop := spl own v fun v => aft0 g fr own d v K
noncomputable def anys (n : Nat) : List V → List V :=
  Nat.rec (motive := fun _ => List V → List V) (fun acc => acc) (fun _ ih acc => ih (V.any :: acc)) n
noncomputable def resW (P : Program) (σ : St) : ResultVar → Option W
  | .tmp t => match getF σ.fr t with
    | .w x => some x
    | .tup _ => none
  | .cell a T => match aLoad P T (oS (getF σ.fr a)) σ.own with
    | some ([], .w x, []) => some x
    | _ => none
noncomputable def resWs (P : Program) (σ : St) : List ResultVar → Option (List W)
  | [] => some []
  | r :: rs => match resW P σ r with
    | none => none
    | some x => match resWs P σ rs with
      | none => none
      | some xs => some (x :: xs)
noncomputable def resOf (P : Program) (fn : Func) (σ : St) : Option V :=
  match resWs P σ fn.results.toList with
  | some [x] => some (.w x)
  | some l => some (.tup l)
  | none => none
abbrev VC := Code → St → (Exit → St → Prop) → Prop
noncomputable def wkS (s : S) : S := match flatS s with | true => s | false => .any
noncomputable def wkCs : List Ch → List Ch
  | [] => []
  | .one s :: r => .one (wkS s) :: wkCs r
  | .vec n x :: r => .vec n x :: wkCs r
noncomputable def noSl : List Ch → Bool
  | [] => true
  | .vec _ (.sl _) :: _ => false
  | _ :: r => noSl r
noncomputable def wkV (x : V) : V :=
  match x with
  | .w (.agg cs) => .w (.agg (wkCs cs))
  | x => x
noncomputable def wkL : List V → List V
  | [] => []
  | x :: r => wkV x :: wkL r
noncomputable def flatY (x : V) : Bool :=
  match x with
  | .w (.s (.xs _ _ v)) => match v with
    | .sl _ => false
    | _ => true
  | .w (.agg cs) => noSl cs
  | .w x => flatW x
  | .tup _ => false
noncomputable def offB (b : Nat) (x : V) : Bool :=
  match x with
  | .w (.s (.sl k _ _ _ _)) => !Nat.beq k b
  | .w (.s .nil) => true
  | .w (.s (.xs _ _ _)) => true
  | .w (.agg _) => true
  | .w x => flatW x
  | .tup _ => false
noncomputable def allV (p : V → Bool) : List V → Bool
  | [] => true
  | x :: r => match p x with
    | true => allV p r
    | false => false
noncomputable def viewCs (cs : List Ch) : List Ch :=
  match cs with
  | .one (.row _ n l) :: r => .one (.xs 1 (.s n) (.u8 l)) :: r
  | cs => cs
noncomputable def hdCs (cs : List Ch) : List Ch :=
  match cs with
  | .one (.row v n l) :: _ => [.one (.row v n l)]
  | .one (.xs z n l) :: _ => [.one (.xs z n l)]
  | _ => []
noncomputable def rokCs (cs : List Ch) : Bool :=
  match cs with
  | .one (.xs 1 (.s _) (.u8 _)) :: r => flatCs r
  | cs => flatCs cs
noncomputable def drMeth (E : Env) (f : FuncId) (args : List V) (ts : List TypeId) (own : List Blk) (k : Nat) : RU :=
  match E.M f with
  | none => none
  | some g => match args, ts with
    | .w (.s (.ptr b o)) :: r, _ :: rt => match getO own b with
      | none => none
      | some cs => match rokCs (viewCs cs), allV (offB b) r, purL E.P own rt r with
        | true, true, some (ps, r') => match allV flatY r', g (viewCs cs) o (wkL r') with
          | true, some (qs, res, cs') => match flatCs cs', imp res k with
            | true, some (v, u) => some (ps ++ qs, v, (b, some (hdCs cs ++ cs')) :: u)
            | _, _ => none
          | _, _ => none
        | _, _, _ => none
    | _, _ => none
noncomputable def vcCall (E : Env) (ih : VC) (f : FuncId) (args : List V) (ts : List TypeId) (own : List Blk) (K : V → List Blk → Prop) : Prop :=
  match E.P.funcs[f]? with
  | none => False
  | some fn => match fn.body with
    | none => False
    | some body => match E.G f with
      | some g => match purL E.P own ts args with
        | none => False
        | some (ps, args') => match g args' with
          | none => False
          | some (qs, res) => match imp res own.length with
            | none => False
            | some (v, u) => conj ps (conj qs (gen2 E.gen v u fun v u => frcU u fun u => frcL (applyU own u) fun own => K v own))
      | none => match E.H f with
       | some g => match purL E.P own ts args with
        | none => False
        | some (ps, args') => match g args' with
          | none => False
          | some (qs, H) => conj ps (conj qs (∀ a, H.ok a → match imp (H.res a) own.length with
            | none => False
            | some (v, u) => gen2 E.gen v u fun v u => frcU u fun u => frcL (applyU own u) fun own => K v own))
       | none => match E.M f with
        | some _ => match drMeth E f args ts own own.length with
          | none => False
          | some (p, v, u) => conj p (gen2 E.gen v u fun v u => frcU u fun u => frcL (applyU own u) fun own => K v own)
        | none => ih body ⟨args ++ anys (fn.ntmps - args.length) [], own⟩ fun e σ => match e with
          | .normal => match resOf E.P fn σ with
            | some v => K v σ.own
            | none => False
          | .ret => match resOf E.P fn σ with
            | some v => K v σ.own
            | none => False
          | _ => False
noncomputable def calleeOf (fr : List V) : Callee → Option FuncId
  | .value x => match ev fr x with
    | .w (.s (.cst (.func (.func f) a b))) => match a.toList, b.toList with
      | [], [] => some f
      | _, _ => none
    | _ => none
  | _ => none
noncomputable def cloOf (fr : List V) : Callee → Option (FuncId × Nat × Nat)
  | .value x => match ev fr x with
    | .w (.s (.clo f k o)) => some (f, k, o)
    | _ => none
  | _ => none
noncomputable def evs (fr : List V) : List Operand → List V
  | [] => []
  | x :: r => ev fr x :: evs fr r
noncomputable def hasBody (P : Program) (f : FuncId) : Bool :=
  match P.funcs[f]? with
  | none => false
  | some fn => match fn.body with
    | none => false
    | some _ => true
noncomputable def drExt (E : Env) (f : FuncId) (args : List V) (ts : List TypeId) (own : List Blk) : RU :=
  match E.X f with
  | none => none
  | some g => match purL E.P own ts args with
    | none => none
    | some (ps, args') => match g args' with
      | none => none
      | some (qs, res) => some (ps ++ qs, res, [])
noncomputable def mpOf (own : List Blk) (b : Nat) : Option (List UInt64) :=
  match getO own b with
  | some [.one (.mpc l)] => some l
  | _ => none
noncomputable def zeroF (P : Program) (T : TypeId) : Bool :=
  match P.info? T with
  | some i => match i.zero with
    | some (.bool false) => true
    | _ => false
  | none => false
noncomputable def mop (P : Program) (o : Op) (fr : List V) (own : List Blk) (f : Nat) : Option RU :=
  match o with
  | .makeMap _ none => some (some ([], .s (.mref f), [(f, some [.one (.mpc [])])]))
  | .lookup T m k false => match P.underlying T with
    | some (.map kt et) => match P.underlying kt, zeroF P et, evS fr m, evS fr k with
      | some (.int .u64), true, .mref b, .u64 x => match mpOf own b with
        | some l => some (some ([], .s (.b (l.contains x)), []))
        | none => some none
      | _, _, _, _ => some none
    | _ => some none
  | .mapUpdate T m k y => match P.underlying T with
    | some (.map kt _) => match P.underlying kt, evS fr m, evS fr k, evS fr y with
      | some (.int .u64), .mref b, .u64 x, .lb true => match mpOf own b with
        | some l => some (some ([], V.any, [(b, some [.one (.mpc (bif l.contains x then l else l ++ [x]))])]))
        | none => some none
      | _, _, _, _ => some none
    | _ => some none
  | .call c => match c.callee with
    | .builtin b => match b, c.args.toList, c.argTypes[0]? with
      | .len, [x], some T => match evS fr x with
        | .mref b => match P.underlying T, mpOf own b with
          | some (.map _ _), some l => some (some ([], .s (.i64 l.length), []))
          | _, _ => some none
        | _ => none
      | _, _, _ => none
    | _ => none
  | _ => none
noncomputable def aopM (P : Program) (o : Op) (fr : List V) (own : List Blk) (f : Nat) : RU :=
  match mop P o fr own f with
  | some r => r
  | none => aop P o fr own f
noncomputable def vcOp (E : Env) (ih : VC) (ops : List Oper) (i : Nat) (o : Oper) (σ : St) (K : St → Prop) : Prop :=
  match want ops σ.fr o with
  | none => False
  | some false => put σ.fr o.dst (.tup []) fun fr => K ⟨fr, σ.own⟩
  | some true => match o.op with
    | .call c => match calleeOf σ.fr c.callee with
      | some f => match hasBody E.P f with
        | true => vcCall E ih f (evs σ.fr c.args.toList) c.argTypes.toList σ.own fun v own => aft (isGuard ops i) σ.fr own o.dst v K
        | false => match drExt E f (evs σ.fr c.args.toList) c.argTypes.toList σ.own with
          | none => False
          | some (p, v, _) => conj p (gen2 E.gen v [] fun v _ => aft (isGuard ops i) σ.fr σ.own o.dst v K)
      | none => match cloOf σ.fr c.callee with
        | some (f, k, m) => match hasBody E.P f with
          | true => vcCall E ih f (evs σ.fr c.args.toList ++ [.s (.ptr k m)]) c.argTypes.toList σ.own fun v own => aft (isGuard ops i) σ.fr own o.dst v K
          | false => False
        | none => match aopM E.P o.op σ.fr σ.own σ.own.length with
        | none => False
        | some (p, v, u) => conj p (gen E.gen o.op v u fun v u => frcU u fun u => frcL (applyU σ.own u) fun own => aft (isGuard ops i) σ.fr own o.dst v K)
    | op => match aopM E.P op σ.fr σ.own σ.own.length with
      | none => False
      | some (p, v, u) => conj p (gen E.gen op v u fun v u => frcU u fun u => frcL (applyU σ.own u) fun own => aft (isGuard ops i) σ.fr own o.dst v K)
noncomputable def vcOps (E : Env) (ih : VC) (ops : List Oper) : List Oper → Nat → St → (St → Prop) → Prop
  | [], _, σ, K => K σ
  | o :: r, i, σ, K => vcOp E ih ops i o σ fun σ => vcOps E ih ops r (i + 1) σ K
structure Ent where
  v : V
  u : U
  r : Option (List Nat)
noncomputable def rdB (x : S) : List Nat :=
  match x with
  | .ptr k _ => [k]
  | .pti k _ _ => [k]
  | .sl k _ _ _ _ => [k]
  | _ => []
noncomputable def rdOf (o : Op) (fr : List V) : Option (List Nat) :=
  match o with
  | .load _ x => some (rdB (evS fr x))
  | .store _ x _ => some (rdB (evS fr x))
  | .slice _ x _ _ _ => some (rdB (evS fr x))
  | .convert _ _ x => some (rdB (evS fr x))
  | .alloc _ => some []
  | .box _ _ => some []
  | .buildSlice _ _ _ => some []
  | .makeSlice _ _ _ => some []
  | .call c => match c.callee with
    | .builtin b => match b, c.args.toList with
      | .append, [x, y] => some (rdB (evS fr x) ++ rdB (evS fr y))
      | .copy, [x, y] => some (rdB (evS fr x) ++ rdB (evS fr y))
      | _, _ => none
    | _ => none
  | _ => none
noncomputable def frcR {β : Type} (x : Option (List Nat)) (k : Option (List Nat) → β) : β :=
  match x with
  | none => k none
  | some [] => k (some [])
  | some [a] => frcN a fun a => k (some [a])
  | some [a, b] => frcN a fun a => frcN b fun b => k (some [a, b])
  | x => k x
theorem frcR_eq {β : Type} (x : Option (List Nat)) (k : Option (List Nat) → β) : frcR x k = k x := by
  unfold frcR; split <;> simp [frcN_eq]
noncomputable def entV (es : List Ent) (j : Nat) : V :=
  match es[j]? with
  | some e => e.v
  | none => V.any
noncomputable def setBy (φ : Nat → Option V) (j : Nat) (l : List Oper) : List V → List V :=
  List.rec (motive := fun _ => Nat → List V → List V) (fun _ fr => fr) (fun o _ ih j fr => ih (j + 1) (match o.dst with
    | none => fr
    | some d => match φ j with
      | some v => setF fr d v
      | none => fr)) l j
theorem setBy_cons (φ : Nat → Option V) (j : Nat) (o : Oper) (r : List Oper) (fr : List V) : setBy φ j (o :: r) fr = setBy φ (j + 1) r (match o.dst with
    | none => fr
    | some d => match φ j with
      | some v => setF fr d v
      | none => fr) := rfl
noncomputable def foldU (S : Nat → Bool) : Nat → List Ent → List Blk → List Blk
  | _, [], own => own
  | j, e :: r, own => foldU S (j + 1) r (match S j with
    | true => applyU own e.u
    | false => own)
noncomputable def maskOf (ms : List Nat) : List Edge → Nat
  | [] => 0
  | e :: r => match Region.binds .any e with
    | true => Nat.lor (Nat.lor (Nat.pow 2 e.on) (ms.getD e.on 0)) (maskOf ms r)
    | false => maskOf ms r
noncomputable def masks : List Oper → List Nat → List Nat
  | [], ms => ms
  | o :: r, ms => masks r (ms ++ [maskOf ms o.after.toList])
noncomputable def has (ms : List Nat) (i j : Nat) : Bool := Nat.testBit (ms.getD i 0) j
noncomputable def phi (ms : List Nat) (es : List Ent) (i j : Nat) : Option V :=
  match has ms i j with
  | true => some (entV es j)
  | false => match has ms j i, Nat.beq j i with
    | false, false => some V.any
    | _, _ => none
noncomputable def nones : Nat → List Blk
  | 0 => []
  | n + 1 => none :: nones n
noncomputable def drCall (E : Env) (f : FuncId) (args : List V) (ts : List TypeId) (own : List Blk) (k : Nat) : RU :=
  match E.G f with
  | none => none
  | some g => match purL E.P own ts args with
    | none => none
    | some (ps, args') => match g args' with
      | none => none
      | some (qs, res) => match imp res k with
        | none => none
        | some (v, u) => some (ps ++ qs, v, u)
noncomputable def opFn (fr : List V) (o : Op) : Bool :=
  match o with
  | .call c => match calleeOf fr c.callee with
    | some _ => true
    | none => false
  | _ => false
noncomputable def putD (fr : List V) (d : Option Tmp) (v : V) : List V :=
  match d with
  | none => fr
  | some d => setF fr d v
noncomputable def evOps (P : Program) (own : List Blk) (z : Nat) (l : List Oper) : List V → Option (List Prop × List V) :=
  List.rec (motive := fun _ => List V → Option (List Prop × List V)) (fun fr => some ([], fr)) (fun o _ ih fr => match o.guard, opFn fr o.op with
    | none, false => match aop P o.op fr own z with
      | some (p, v, []) => frcV v fun v => frcL (putD fr o.dst v) fun fr => match ih fr with
        | some (q, fr) => some (p ++ q, fr)
        | none => none
      | _ => none
    | _, _ => none) l
noncomputable def evCode (P : Program) (own : List Blk) (z : Nat) (n : Nat) : Code → List V → Option (List Prop × List V × Bool) :=
  Nat.rec (motive := fun _ => Code → List V → Option (List Prop × List V × Bool)) (fun _ _ => none) (fun _ ih c fr => match c with
    | .skip => some ([], fr, false)
    | .ret => some ([], fr, true)
    | .region _ ops false => match evOps P own z ops.toList fr with
      | some (p, fr) => some (p, fr, false)
      | none => none
    | .seq a b => match ih a fr with
      | some (p, fr, true) => some (p, fr, true)
      | some (p, fr, false) => match ih b fr with
        | some (q, fr, r) => some (p ++ q, fr, r)
        | none => none
      | none => none
    | _ => none) n
noncomputable def drInl (P : Program) (f : FuncId) (args : List V) (own : List Blk) : Option (List Prop × V) :=
  match P.funcs[f]? with
  | none => none
  | some fn => match fn.body with
    | none => none
    | some c => match evCode P own own.length 40 c (args ++ anys (fn.ntmps - args.length) []) with
      | some (p, fr, _) => match resOf P fn ⟨fr, own⟩ with
        | some v => some (p, v)
        | none => none
      | none => none
noncomputable def drOp (E : Env) (o : Oper) (fr : List V) (own : List Blk) (k : Nat) : RU :=
  match o.op with
  | .call c => match calleeOf fr c.callee with
    | some f => match hasBody E.P f with
      | true => match E.G f with
        | some _ => drCall E f (evs fr c.args.toList) c.argTypes.toList own k
        | none => match E.M f with
         | some _ => drMeth E f (evs fr c.args.toList) c.argTypes.toList own k
         | none => match drInl E.P f (evs fr c.args.toList) own with
          | some (p, v) => some (p, v, [])
          | none => none
      | false => drExt E f (evs fr c.args.toList) c.argTypes.toList own
    | none => aop E.P o.op fr own k
  | op => aop E.P op fr own k
noncomputable def aftD0 (g : Bool) (v : V) (k : V → Prop) : Prop :=
  match g, v with
  | true, .w (.s (.b x)) => (x = true → k (.s (.lb true))) ∧ (x = false → k (.s (.lb false)))
  | _, v => k v
noncomputable def memFree (o : Op) : Bool :=
  match o with
  | .move _ | .assign _ | .pick .. | .build .. | .nilCheck _ | .binOp .. | .unOp .. | .sliceToArrayPointer .. | .fieldAddr .. | .field .. | .indexAddr .. | .index .. | .extract .. => true
  | .call c => match c.callee with
    | .builtin .len | .builtin .min | .builtin .max => true
    | _ => false
  | _ => false
noncomputable def aftD (g : Bool) (own : List Blk) (v : V) (k : V → Prop) : Prop := spl own v fun v => aftD0 g v k
noncomputable def frAt (ms : List Nat) (i : Nat) (so : List V) : List V → List V → List V :=
  List.rec (motive := fun _ => List V → List V → List V) (fun _ fr => fr) (fun m _ ih cur fr => List.rec (motive := fun _ => List V) fr (fun c cur _ => List.rec (motive := fun _ => List V) [] (fun f fr _ => (match m with
    | .w (.s (.ptr j _)) => match has ms i j with
      | true => c
      | false => match has ms j i, Nat.beq j i with
        | false, false => V.any
        | _, _ => f
    | _ => f) :: ih cur fr) fr) cur) so
theorem frAt_cons (ms : List Nat) (i : Nat) (m c f : V) (so cur fr : List V) : frAt ms i (m :: so) (c :: cur) (f :: fr) = (match m with
    | .w (.s (.ptr j _)) => match has ms i j with
      | true => c
      | false => match has ms j i, Nat.beq j i with
        | false, false => V.any
        | _, _ => f
    | _ => f) :: frAt ms i so cur fr := rfl
noncomputable def ownAt (o : Op) (ms : List Nat) (i : Nat) (es : List Ent) (own0 : List Blk) : List Blk :=
  match memFree o with
  | true => own0
  | false => foldU (has ms i) 0 es own0
noncomputable def drGo (E : Env) (ops : List Oper) (ms : List Nat) (so fr0 : List V) (own0 : List Blk) (base : Nat) (K : List Ent → Prop) : List Oper → Nat → List V → List Ent → Prop
  | [], _, _, es => K es
  | o :: r, i, cur, es => frcL (frAt ms i so cur fr0) fun fr => frcL (ownAt o.op ms i es own0) fun own =>
    match want ops fr o with
    | none => False
    | some false => frcL (putD cur o.dst (.tup [])) fun cur => drGo E ops ms so fr0 own0 base K r (i + 1) cur (es ++ [⟨.tup [], [], some []⟩])
    | some true => match drOp E o fr own (base + i) with
      | none => False
      | some (p, v, u) => conj p (gen E.gen o.op v u fun v u => aftD (isGuard ops i) (foldU (has ms i) 0 es own0) v fun v => frcV v fun v => frcU u fun u => frcR (rdOf o.op fr) fun rd => frcL (es ++ [⟨v, u, rd⟩]) fun es => frcL (putD cur o.dst v) fun cur => drGo E ops ms so fr0 own0 base K r (i + 1) cur es)
noncomputable def touchesOnly (u : U) (k : Nat) : Bool :=
  match u with
  | [] => true
  | (j, _) :: r => match Nat.beq j k with
    | true => touchesOnly r k
    | false => false
noncomputable def mS (ok : Nat → Bool) (s : S) : Bool :=
  match s with
  | .ptr k _ => ok k
  | .pti k _ _ => ok k
  | .clo _ k _ => ok k
  | .mref k => ok k
  | .sl k _ _ _ _ => ok k
  | _ => true
noncomputable def mCs (ok : Nat → Bool) : List Ch → Bool
  | [] => true
  | .one s :: r => match mS ok s with
    | true => mCs ok r
    | false => false
  | .vec _ _ :: r => mCs ok r
noncomputable def mW (ok : Nat → Bool) (x : W) : Bool :=
  match x with
  | .s s => mS ok s
  | .agg cs => mCs ok cs
noncomputable def mWs (ok : Nat → Bool) : List W → Bool
  | [] => true
  | x :: r => match mW ok x with
    | true => mWs ok r
    | false => false
noncomputable def mV (ok : Nat → Bool) (x : V) : Bool :=
  match x with
  | .w x => mW ok x
  | .tup l => mWs ok l
noncomputable def mB (ok : Nat → Bool) (b : Blk) : Bool :=
  match b with
  | none => true
  | some cs => mCs ok cs
noncomputable def mU (ok : Nat → Bool) : U → Bool
  | [] => true
  | (k, b) :: r => match ok k, mB ok b with
    | true, true => mU ok r
    | _, _ => false
noncomputable def allow (ms : List Nat) (base i k : Nat) : Bool :=
  match Nat.blt k base with
  | true => true
  | false => match Nat.blt (k - base) i with
    | true => has ms i (k - base)
    | false => Nat.beq (k - base) i
noncomputable def allL {α : Type} (p : α → Bool) (l : List α) : Bool :=
  List.rec (motive := fun _ => Bool) true (fun x _ ih => match p x with
    | true => ih
    | false => false) l
theorem allL_cons {α : Type} (p : α → Bool) (x : α) (r : List α) : allL p (x :: r) = match p x with
    | true => allL p r
    | false => false := rfl
noncomputable def allI {α : Type} (p : Nat → α → Bool) : Nat → List α → Bool
  | _, [] => true
  | i, x :: r => match p i x with
    | true => allI p (i + 1) r
    | false => false
noncomputable def dstNot (d : Option Tmp) (o : Oper) : Bool :=
  match d, o.dst with
  | some x, some y => !Nat.beq x y
  | _, _ => true
noncomputable def distinct : List Oper → Bool
  | [] => true
  | o :: r => match allL (dstNot o.dst) r with
    | true => distinct r
    | false => false
noncomputable def edgeOk (ms : List Nat) (i : Nat) (e : Edge) : Bool :=
  match Region.binds .any e with
  | false => true
  | true => match Nat.blt e.on i with
    | true => has ms i e.on
    | false => false
noncomputable def statOk (ms : List Nat) (ops : List Oper) : Bool :=
  distinct ops && Nat.beq ms.length ops.length && allI (fun i o => allL (edgeOk ms i) o.after.toList) 0 ops
noncomputable def memU (u : U) (k : Nat) : Bool :=
  match u with
  | [] => false
  | (j, _) :: r => match Nat.beq j k with
    | true => true
    | false => memU r k
noncomputable def memR (l : List Nat) (k : Nat) : Bool :=
  match l with
  | [] => false
  | j :: r => match Nat.beq j k with
    | true => true
    | false => memR r k
noncomputable def clearU (l : List Nat) (f : U) : U → Bool
  | [] => true
  | (k, _) :: r => match memR l k, memU f k with
    | false, false => clearU l f r
    | _, _ => false
noncomputable def clearB (e f : Ent) : Bool :=
  match f.r with
  | some l => clearU l f.u e.u
  | none => false
noncomputable def apartB (ms : List Nat) (base : Nat) (x y : Nat × Oper × Ent) : Bool :=
  match has ms x.1 y.1, has ms y.1 x.1 with
  | false, false => (touchesOnly x.2.2.u (base + x.1) || clearB x.2.2 y.2.2) && (touchesOnly y.2.2.u (base + y.1) || clearB y.2.2 x.2.2)
  | _, _ => true
noncomputable def memOps : Nat → List Oper → List Ent → List (Nat × Oper × Ent)
  | i, o :: ops, e :: es => match memFree o.op with
    | true => memOps (i + 1) ops es
    | false => (i, o, e) :: memOps (i + 1) ops es
  | _, _, _ => []
noncomputable def pairsOk (ms : List Nat) (base : Nat) : List (Nat × Oper × Ent) → Bool
  | [] => true
  | x :: r => match allL (apartB ms base x) r with
    | true => pairsOk ms base r
    | false => false
noncomputable def namesOk (ms : List Nat) (base : Nat) : Nat → List Oper → List Ent → Bool
  | i, o :: ops, e :: es => match (match memFree o.op, e.u with
      | true, _ :: _ => false
      | _, _ => true), mV (allow ms base i) e.v, mU (allow ms base i) e.u with
    | true, true, true => namesOk ms base (i + 1) ops es
    | _, _, _ => false
  | _, [], [] => true
  | _, _, _ => false
noncomputable def dynOk (ms : List Nat) (ops : List Oper) (es : List Ent) (base : Nat) : Bool :=
  namesOk ms base 0 ops es && frcL (memOps 0 ops es) (pairsOk ms base)
noncomputable def lastLive : List Blk → Nat
  | [] => 0
  | some _ :: r => lastLive r + 1
  | none :: r => match lastLive r with
    | 0 => 0
    | n + 1 => n + 2
noncomputable def trimK (n0 : Nat) (fr : List V) (own : List Blk) (K : St → Prop) : Prop :=
  frcN (Nat.max n0 (lastLive own)) fun k => match allL (mV fun j => Nat.blt j k) fr, allL (mB fun j => Nat.blt j k) own with
    | true, true => frcL (own.take k) fun own => K ⟨fr, own⟩
    | _, _ => K ⟨fr, own⟩
noncomputable def soOf (ops : List Oper) (fr : List V) : List V := setBy (fun j => some (.s (.ptr j 0))) 0 ops (anys fr.length [])
noncomputable def cat2 (x y : Option (List Prop)) : Option (List Prop) :=
  match x with
  | none => none
  | some p => match y with
    | none => none
    | some q => some (p ++ q)
noncomputable def leI (x y : I) : Option (List Prop) :=
  match x, y with
  | .n x, .n y => match Nat.beq x y with
    | true => some []
    | false => none
  | x, y => some [x.val = y.val]
noncomputable def leVec (x y : Vec) : Option (List Prop) :=
  match x, y with
  | .u8 x, .u8 y => some [x = y]
  | .u16 x, .u16 y => some [x = y]
  | .u32 x, .u32 y => some [x = y]
  | .u64 x, .u64 y => some [x = y]
  | .i64 x, .i64 y => some [x = y]
  | .bo x, .bo y => some [x = y]
  | .sl x, .sl y => some [x = y]
  | .va x, .va y => some [x = y]
  | _, _ => none
noncomputable def isFn (v : Value) (f : Nat) : Bool :=
  match v with
  | .func (.func g) a b => match a.toList, b.toList with
    | [], [] => Nat.beq g f
    | _, _ => false
  | _ => false
noncomputable def fnOf (v : Value) : Option Nat :=
  match v with
  | .func (.func g) _ _ => some g
  | _ => none
noncomputable def leS (ρ : Nat → Option Nat) (x y : S) : Option (List Prop) :=
  match x, y with
  | _, .any => some []
  | .u8 x, .u8 y => some [x = y]
  | .u16 x, .u16 y => some [x = y]
  | .u32 x, .u32 y => some [x = y]
  | .u64 x, .u64 y => some [x = y]
  | .i64 x, .i64 y => some [x = y]
  | .i64 x, .n y => some [x = y]
  | .n x, .i64 y => some [x = y]
  | .n x, .n y => some [x = y]
  | .b x, .b y => some [x = y]
  | .lb x, .b y => some [x = y]
  | .b x, .lb y => some [x = y]
  | .lb x, .lb y => some [x = y]
  | .str x, .str y => some [x = y]
  | .nil, .nil => some []
  | .nil, .sl _ _ _ n _ => some [n.val = 0]
  | .ptr k o, .ptr k' o' => match ρ k' with
    | some j => match Nat.beq j k, Nat.beq o o' with
      | true, true => some []
      | _, _ => none
    | none => none
  | .pti k o i, .pti k' o' i' => match ρ k' with
    | some j => match Nat.beq j k, Nat.beq o o' with
      | true, true => some [i = i']
      | _, _ => none
    | none => none
  | .sl k o i n z, .sl k' o' i' n' z' => match ρ k' with
    | some j => match Nat.beq j k, Nat.beq o o', Nat.beq z z' with
      | true, true, true => cat2 (leI i i') (leI n n')
      | _, _, _ => none
    | none => none
  | .xs z n v, .xs z' n' v' => match Nat.beq z z' with
    | true => cat2 (leI n n') (leVec v v')
    | false => none
  | .xp v i, .xp v' i' => match Nat.beq i i' with
    | true => leVec v v'
    | false => none
  | .cst v, .cst v' => match fnOf v with
    | some f => match isFn v f, isFn v' f with
      | true, true => some []
      | _, _ => none
    | none => none
  | .mref k, .mref k' => match ρ k' with
    | some j => match Nat.beq j k with
      | true => some []
      | _ => none
    | none => none
  | .row u n l, .row u' n' l' => some [u = u', n = n', l = l']
  | _, _ => none
noncomputable def leNil : List Ch → Option (List Prop)
  | [] => some []
  | .vec n v :: r => cat2 (some [n.val = 0, v.len = 0]) (leNil r)
  | _ => none
noncomputable def leCs (ρ : Nat → Option Nat) : List Ch → List Ch → Option (List Prop)
  | [], r => leNil r
  | .one s :: r, .one s' :: r' => cat2 (leS ρ s s') (leCs ρ r r')
  | .vec n v :: r, .vec n' v' :: r' => cat2 (cat2 (leI n n') (leVec v v')) (leCs ρ r r')
  | _, _ => none
noncomputable def leV (ρ : Nat → Option Nat) (x y : V) : Option (List Prop) :=
  match y with
  | .w (.s .any) => some []
  | .w (.s y) => match x with
    | .w (.s x) => leS ρ x y
    | _ => none
  | .w (.agg y) => match x with
    | .w (.agg x) => leCs ρ x y
    | _ => none
  | _ => none
noncomputable def racyX (ms : List Nat) (base : Nat) (x : Nat × Oper × Ent) : List (Nat × Oper × Ent) → List (Nat × Nat)
  | [] => []
  | y :: r => match apartB ms base x y with
    | true => racyX ms base x r
    | false => match x.2.2.u with
      | [] => (x.1, y.1) :: racyX ms base x r
      | _ => (y.1, x.1) :: racyX ms base x r
noncomputable def racy (ms : List Nat) (base : Nat) : List (Nat × Oper × Ent) → List (Nat × Nat)
  | [] => []
  | x :: r => racyX ms base x r ++ racy ms base r
noncomputable def isAt (a b : Nat) (x y : Nat × Oper × Ent) : Bool := match Nat.beq x.1 a, Nat.beq y.1 b, x.2.2.u with
  | true, true, [] => true
  | _, _, _ => false
noncomputable def apartX (a b : Nat) (ms : List Nat) (base : Nat) (x y : Nat × Oper × Ent) : Bool := apartB ms base x y || (isAt a b x y || isAt a b y x)
noncomputable def pairsX (a b : Nat) (ms : List Nat) (base : Nat) : List (Nat × Oper × Ent) → Bool
  | [] => true
  | x :: r => match allL (apartX a b ms base x) r with
    | true => pairsX a b ms base r
    | false => false
noncomputable def dynX (a b : Nat) (ms : List Nat) (ops : List Oper) (es : List Ent) (base : Nat) : Bool :=
  namesOk ms base 0 ops es && frcL (memOps 0 ops es) (pairsX a b ms base)
noncomputable def upTo (ms : List Nat) (i j m : Nat) : Bool := has ms i m || (Nat.beq m j || has ms j m)
noncomputable def altOf (E : Env) (ops : List Oper) (ms : List Nat) (fr0 : List V) (own0 : List Blk) (base : Nat) (es : List Ent) (i j : Nat) : Option (List Prop) :=
  match ops[i]?, es[i]? with
  | some o, some e => match drOp E o (setBy (phi ms (es.take i) i) 0 ops fr0) (foldU (upTo ms i j) 0 es own0) (base + i) with
    | some (p, v, []) => match leV (fun b => some b) v e.v, e.u with
      | some q, [] => some (p ++ q)
      | _, _ => none
    | _ => none
  | _, _ => none
noncomputable def vcDraw0 (E : Env) (ops : List Oper) (σ : St) (K : St → Prop) : Prop :=
  frcL (masks ops []) fun ms => frcL (σ.own ++ nones ops.length) fun own0 => frcL (soOf ops σ.fr) fun so => frcL (setBy (fun _ => some V.any) 0 ops σ.fr) fun cur =>
  match statOk ms ops, allL (mV fun k => Nat.blt k σ.own.length) σ.fr, allL (mB fun k => Nat.blt k σ.own.length) σ.own with
  | true, true, true => drGo E ops ms so σ.fr own0 σ.own.length (fun es => match dynOk ms ops es σ.own.length with
    | true => frcL (setBy (fun j => some (entV es j)) 0 ops σ.fr) fun fr => frcL (foldU (fun _ => true) 0 es own0) fun own => trimK σ.own.length fr own K
    | false => match racy ms σ.own.length (memOps 0 ops es) with
      | [(i, j)] => match dynX i j ms ops es σ.own.length, altOf E ops ms σ.fr own0 σ.own.length es i j with
        | true, some ps => conj ps (frcL (setBy (fun j => some (entV es j)) 0 ops σ.fr) fun fr => frcL (foldU (fun _ => true) 0 es own0) fun own => trimK σ.own.length fr own K)
        | _, _ => False
      | _ => False) ops 0 cur []
  | _, _, _ => False
noncomputable def behindB (ms : List Nat) (o : Oper) (i : Nat) : Bool :=
  match Nat.beq (Nat.land (ms.getD i 0) (2 ^ i - 1)) (2 ^ i - 1) with
  | true => allL (fun e => match Region.binds .any e with
    | true => Nat.blt e.on i
    | false => true) o.after.toList
  | false => false
noncomputable def tailAt (ms : List Nat) (ops : List Oper) : Nat → Nat
  | 0 => 0
  | k + 1 => match ops[k]? with
    | some o => match behindB ms o k with
      | true => tailAt ms ops k
      | false => k + 1
    | none => k + 1
noncomputable def guardB (p : Nat) (o : Oper) : Bool :=
  match o.guard with
  | none => true
  | some (j, _) => Nat.blt j p
def nopO : Oper := { dst := none, op := .move (.const (.bool true)), type := 0, pos := "", after := #[], guard := none }
noncomputable def nopsL : Nat → List Oper → List Oper
  | 0, l => l
  | _ + 1, [] => []
  | n + 1, _ :: r => nopO :: nopsL n r
noncomputable def isH (E : Env) (o : Oper) : Bool :=
  match o.op with
  | .call c => match calleeOf [] c.callee with
    | some f => match E.G f, E.H f with
      | none, some _ => true
      | _, _ => false
    | none => false
  | _ => false
noncomputable def hAt (E : Env) : List Oper → Nat → Option Nat
  | [], _ => none
  | o :: r, i => match isH E o with
    | true => some i
    | false => hAt E r (i + 1)
noncomputable def overB (ms : List Nat) (c : Nat) : Nat → List Oper → Bool
  | _, [] => true
  | i, o :: r => match Nat.beq (Nat.land (ms.getD i 0) (2 ^ (c + 1) - 1)) (2 ^ (c + 1) - 1), o.guard with
    | true, none => overB ms c (i + 1) r
    | _, _ => false
noncomputable def midOf (E : Env) (ms : List Nat) (ops : List Oper) (p : Nat) : Option (Nat × Oper) :=
  match hAt E ops 0 with
  | some c => match Nat.blt c p, ops[c]? with
    | true, some o => match behindB ms o c, overB ms c (c + 1) (ops.drop (c + 1)), allL (guardB c) (ops.take c) with
      | true, true, true => some (c, o)
      | _, _, _ => none
    | _, _ => none
  | none => none
noncomputable def vcDraw (E : Env) (ih : VC) (ops : List Oper) (σ : St) (K : St → Prop) : Prop :=
  frcL (masks ops []) fun ms => frcN (tailAt ms ops ops.length) fun p => match midOf E ms ops p with
    | some (c, o) => vcDraw0 E (ops.take c) σ fun σ => vcOps E ih ops [o] c σ fun σ => vcDraw0 E (nopsL (c + 1) ops) σ K
    | none => match Nat.blt p ops.length, allL (guardB p) (ops.take p) with
      | true, true => vcDraw0 E (ops.take p) σ fun σ => vcOps E ih ops (ops.drop p) p σ K
      | _, _ => vcDraw0 E ops σ K
noncomputable def lookN {α : Type _} (l : List (Nat × α)) (i : Nat) : Option α :=
  match l with
  | [] => none
  | (j, x) :: r => match Nat.beq j i with
    | true => some x
    | false => lookN r i
noncomputable def memN (l : List Nat) (i : Nat) : Bool :=
  match l with
  | [] => false
  | j :: r => match Nat.beq j i with
    | true => true
    | false => memN r i
noncomputable def mkFr (keep : List Nat) (slots : List (Nat × V)) : Nat → List V → List V
  | _, [] => []
  | i, v :: r => (match lookN slots i with
    | some v => v
    | none => match memN keep i with
      | true => v
      | false => V.any) :: mkFr keep slots (i + 1) r
noncomputable def mkOwn (own : List (Nat × Blk)) (ext : List (Nat × List Ch)) : Nat → List Blk → List Blk
  | _, [] => ext.map fun x => some x.2
  | i, b :: r => (match lookN own i with
    | some b => b
    | none => b) :: mkOwn own ext (i + 1) r
noncomputable def Inv.st (J : Inv) (σ : St) (x : J.α) : St := ⟨mkFr J.keep (J.slots x) 0 σ.fr, mkOwn (J.own x) (J.ext x) 0 σ.own⟩
noncomputable def names (fr : List V) (t : Nat) : Option Nat :=
  match getF fr t with
  | .w (.s (.sl k _ _ _ _)) => some k
  | .w (.s (.ptr k _)) => some k
  | .w (.s (.pti k _ _)) => some k
  | _ => none
noncomputable def namesS (σ : St) (t : Nat) : Option Nat :=
  match Nat.blt t 10000 with
  | true => names σ.fr t
  | false => match names σ.fr (t / 10000 - 1) with
    | some k => match getO σ.own k with
      | some cs => match cs[t % 10000]? with
        | some (.one (.sl j _ _ _ _)) => some j
        | _ => none
      | none => none
    | none => none
noncomputable def renOf (b0 : Nat) (rs : List (Option Nat)) (b : Nat) : Option Nat :=
  match Nat.blt b b0 with
  | true => some b
  | false => match rs[b - b0]? with
    | some r => r
    | none => none
noncomputable def renOk (b0 : Nat) (own : List Blk) : List (Option Nat) → Bool
  | [] => true
  | none :: r => renOk b0 own r
  | some k :: r => (match Nat.blt k b0, getO own k with
      | true, some _ => false
      | _, _ => true) && (r.all fun x => match x with
        | some j => !Nat.beq j k
        | none => true) && renOk b0 own r
noncomputable def leFr (ρ : Nat → Option Nat) : List V → List V → Option (List Prop)
  | [], [] => some []
  | x :: xs, y :: ys => cat2 (leV ρ x y) (leFr ρ xs ys)
  | _, _ => none
noncomputable def noIm (ρ : Nat → Option Nat) (own : List Blk) (k : Nat) : Nat → Bool
  | 0 => true
  | j + 1 => match ρ j with
    | none => noIm ρ own k j
    | some k' => match Nat.beq k' k, getO own k' with
      | false, some _ => noIm ρ own k j
      | _, _ => false
noncomputable def gone (ρ : Nat → Option Nat) (n : Nat) (own : List Blk) : List Ch → Bool
  | [] => true
  | .one (.sl k _ _ _ _) :: r => match getO own k, noIm ρ own k n with
    | some _, true => gone ρ n own r
    | _, _ => false
  | .vec _ (.sl _) :: r => gone ρ n own r
  | _ => false
noncomputable def frz (ρ : Nat → Option Nat) (n : Nat) (own : List Blk) (x y : List Ch) : Option (Option (List Prop)) :=
  match y with
  | [.vec m (.sl ls')] => match x with
    | [.vec _ _] => none
    | x => match gone ρ n own x, bytesAll own x with
      | true, some (p, ls) => some (some (p ++ [ls.length = m.val, ls = ls']))
      | _, _ => some none
  | _ => none
noncomputable def fzS (ρ : Nat → Option Nat) (n : Nat) (own : List Blk) (x y : S) : Option (List Prop) :=
  match x, y with
  | .sl k o i len z, .xs z' len' v' => match getO own k, noIm ρ own k n, Nat.beq z z', Nat.blt 0 z with
    | some _, true, true, true => match srcOf (.sl k o i len z) own z with
      | some (p, m, [.vec _ v]) => match v with
        | .sl _ => none
        | v => cat2 (some (p ++ [m.val = len'.val])) (leVec v v')
      | _ => none
    | _, _, _, _ => none
  | .nil, .xs z' len' v' => match Nat.blt 0 z', v' with
    | true, .sl _ => none
    | true, v' => some [len'.val = 0, v'.len = 0]
    | false, _ => none
  | x, y => leS ρ x y
noncomputable def leCsF (ρ : Nat → Option Nat) (n : Nat) (own : List Blk) : List Ch → List Ch → Option (List Prop)
  | [], [] => some []
  | .one s :: r, .one s' :: r' => cat2 (fzS ρ n own s s') (leCsF ρ n own r r')
  | .vec n1 v :: r, .vec n' v' :: r' => cat2 (cat2 (leI n1 n') (leVec v v')) (leCsF ρ n own r r')
  | _, _ => none
noncomputable def leBk (ρ : Nat → Option Nat) (n : Nat) (own : List Blk) (x y : List Ch) : Option (List Prop) :=
  match isM x with
  | false => match frz ρ n own x y with
    | none => match leCs ρ x y with
      | some r => some r
      | none => leCsF ρ n own x y
    | some r => r
  | true => match x, y with
    | [.one (.mpc l)], [.one (.mpc l')] => some [l = l']
    | _, _ => none
noncomputable def leOwn (ρ : Nat → Option Nat) (nn : Nat) (own : List Blk) : Nat → List Blk → Option (List Prop)
  | _, [] => some []
  | i, none :: r => leOwn ρ nn own (i + 1) r
  | i, some cs :: r => cat2 (match ρ i with
    | none => leNil cs
    | some k => match getO own k with
      | some cs' => leBk ρ nn own cs' cs
      | none => none) (leOwn ρ nn own (i + 1) r)
noncomputable def leSt (b0 : Nat) (rs : List (Option Nat)) (σ τ : St) : Prop :=
  match renOk b0 τ.own rs, Nat.ble (b0 + rs.length) τ.own.length, cat2 (leFr (renOf b0 rs) σ.fr τ.fr) (leOwn (renOf b0 rs) τ.own.length σ.own 0 τ.own) with
  | true, true, some ps => conj ps True
  | _, _, _ => False
noncomputable def frcSt (σ : St) (k : St → Prop) : Prop := frcL σ.fr fun fr => frcL σ.own fun own => k ⟨fr, own⟩
noncomputable def vcLoop (ih : VC) (J : Inv) (id : Nat) (c : Code) (σ : St) (Q : Exit → St → Prop) : Prop :=
  (∃ x, J.ok x ∧ leSt σ.own.length ((J.ext x).map fun e => namesS σ e.1) σ (J.st σ x)) ∧
  ∀ x, J.ok x → frcSt (J.st σ x) fun σ1 => ih c σ1 fun e τ => match e with
    | .normal => ∃ y, J.ok y ∧ J.mu y < J.mu x ∧ leSt σ.own.length ((J.ext y).map fun e => namesS τ e.1) τ (J.st σ y)
    | .exit k => match Nat.beq k id with
      | true => Q .normal τ
      | false => Q (.exit k) τ
    | e => Q e τ
noncomputable def vcRounds (ih : VC) (c : Code) (Q : Exit → St → Prop) (n : Nat) : St → Prop :=
  Nat.rec (motive := fun _ => St → Prop) (fun _ => False) (fun _ r σ => ih c σ fun e σ => match e with
    | .normal => r σ
    | e => Q e σ) n
noncomputable def blockQ (id : Nat) (Q : Exit → St → Prop) (e : Exit) (σ : St) : Prop :=
  match e with
  | .exit k => match Nat.beq k id with
    | true => Q .normal σ
    | false => Q (.exit k) σ
  | e => Q e σ
noncomputable def joinQ (J : Inv) (σ : St) (Q : Exit → St → Prop) (e : Exit) (τ : St) : Prop :=
  match e with
  | .normal => ∃ y, J.ok y ∧ leSt σ.own.length ((J.ext y).map fun e => namesS τ e.1) τ (J.st σ y)
  | e => Q e τ
noncomputable def vcJoin (ih : VC) (J : Inv) (x : Bool) (a b : Code) (σ : St) (Q : Exit → St → Prop) : Prop :=
  (x = true → ih a σ (joinQ J σ Q)) ∧ (x = false → ih b σ (joinQ J σ Q)) ∧ ∀ y, J.ok y → frcSt (J.st σ y) fun σ1 => Q .normal σ1
noncomputable def joinOf (E : Env) (c : Operand) (σ : St) : Option Inv :=
  match c with
  | .tmp n => E.L (1000 + n) σ
  | _ => none
noncomputable def vcStep (E : Env) (ih : VC) (c : Code) (σ : St) (Q : Exit → St → Prop) : Prop :=
  match c with
  | .skip => Q .normal σ
  | .region _ ops false => vcOps E ih ops.toList ops.toList 0 σ fun σ => Q .normal σ
  | .region _ ops true => vcDraw E ih ops.toList σ fun σ => Q .normal σ
  | .seq a b => ih a σ fun e σ => match e with
    | .normal => ih b σ Q
    | e => Q e σ
  | .cond c a b => match evS σ.fr c with
    | .lb true => ih a σ Q
    | .lb false => ih b σ Q
    | .b x => match joinOf E c σ with
      | some J => vcJoin ih J x a b σ Q
      | none => (x = true → ih a σ Q) ∧ (x = false → ih b σ Q)
    | _ => False
  | .block id (.loop c) => match E.L id σ with
    | some J => match E.L (2000 + id) σ with
      | some J2 => vcLoop ih J id c σ (joinQ J2 σ Q) ∧ ∀ y, J2.ok y → frcSt (J2.st σ y) fun σ1 => Q .normal σ1
      | none => vcLoop ih J id c σ Q
    | none => vcRounds ih c (blockQ id Q) E.R σ
  | .block id c => ih c σ (blockQ id Q)
  | .exit id => Q (.exit id) σ
  | .ret => Q .ret σ
  | _ => False
noncomputable def vc (E : Env) (n : Nat) : VC := Nat.rec (motive := fun _ => VC) (fun _ _ _ => False) (fun _ ih => vcStep E ih) n
end Go.Eng
/- The conditions are enough: frames, guards, results. -/
namespace Go.Eng
open Go Go.RowKit

theorem conj_iff : ∀ {ps : List Prop} {q : Prop}, conj ps q ↔ all ps ∧ q
  | [], q => ⟨fun h => ⟨all_nil, h⟩, fun h => h.2⟩
  | p :: ps, q => by
    rw [all_cons]
    show p ∧ conj ps q ↔ _
    rw [conj_iff (ps := ps)]
    exact ⟨fun ⟨a, b, c⟩ => ⟨⟨a, b⟩, c⟩, fun ⟨⟨a, b⟩, c⟩ => ⟨a, b, c⟩⟩

theorem genS_elim {s : S} {k : S → Prop} (h : genS s k) : k s := by cases s <;> first | exact h _ rfl | exact h
theorem genVec_elim {s : Vec} {k : Vec → Prop} (h : genVec s k) : k s := by cases s <;> exact h _ rfl
theorem genCs_elim : ∀ (cs : List Ch) (k : List Ch → Prop), genCs cs k → k cs
  | [], _, h => h
  | .one s :: r, k, h => by
    have h : genS s fun s => genCs r fun r => k (.one s :: r) := h
    exact genCs_elim r (fun r => k (.one s :: r)) (genS_elim h)
  | .vec n v :: r, k, h => by
    have h : genVec v fun v => genCs r fun r => k (.vec n v :: r) := h
    exact genCs_elim r (fun r => k (.vec n v :: r)) (genVec_elim h)
theorem genU_elim : ∀ (u : U) (k : U → Prop), genU u k → k u
  | [], _, h => h
  | (j, none) :: r, k, h => genU_elim r (fun r => k ((j, none) :: r)) h
  | (j, some cs) :: r, k, h => by
    have h : genCs cs fun cs => genU r fun r => k ((j, some cs) :: r) := h
    exact genU_elim r (fun r => k ((j, some cs) :: r)) (genCs_elim cs _ h)
theorem genW_elim (x : W) (k : W → Prop) (h : genW x k) : k x := by
  cases x with
  | s s =>
    have h : genS s fun s => k (.s s) := h
    exact genS_elim h
  | agg cs =>
    have h : genCs cs fun cs => k (.agg cs) := h
    exact genCs_elim cs _ h
theorem genWs_elim : ∀ (l : List W) (k : List W → Prop), genWs l k → k l
  | [], _, h => h
  | x :: r, k, h => by
    have h : genW x fun x => genWs r fun r => k (x :: r) := h
    exact genWs_elim r (fun r => k (x :: r)) (genW_elim x _ h)
theorem genV_elim {x : V} {k : V → Prop} (h : genV x k) : k x := by
  cases x with
  | w x =>
    have h : genW x fun x => k (.w x) := h
    exact genW_elim x _ h
  | tup l =>
    have h : genWs l fun l => k (.tup l) := h
    exact genWs_elim l _ h
theorem gen2_elim {b : Bool} {v : V} {u : U} {k : V → U → Prop} (h : gen2 b v u k) : k v u := by
  cases b
  · exact h
  · have h : genV v fun v => genU u fun u => k v u := h
    exact genU_elim u _ (genV_elim h)
theorem gen_elim {b : Bool} {o : Op} {v : V} {u : U} {k : V → U → Prop} (h : gen b o v u k) : k v u := by
  unfold gen at h
  split at h
  · exact genU_elim _ _ h
  · exact genV_elim h
  · exact genU_elim _ _ (genV_elim h)
  · exact h

def VsRel (A : Ad) (w : World) : List V → List Value → Prop
  | [], l => l = []
  | x :: xs, l => ∃ v r, l = v :: r ∧ x.rel A w v ∧ VsRel A w xs r
theorem VsRel.len {A : Ad} {w : World} : ∀ {xs : List V} {l : List Value}, VsRel A w xs l → l.length = xs.length
  | [], _, h => by subst h; rfl
  | _ :: _, _, h => by
    obtain ⟨v, r, rfl, _, h2⟩ := h
    simp [h2.len]
theorem VsRel.get {A : Ad} {w : World} : ∀ {xs : List V} {l : List Value} {i : Nat} {x : V} {v : Value}, VsRel A w xs l → xs[i]? = some x → l[i]? = some v → x.rel A w v
  | [], _, _, _, _, _, h, _ => by simp at h
  | _ :: _, _, 0, _, _, h, h1, h2 => by
    obtain ⟨v, r, rfl, g1, g2⟩ := h
    simp at h1 h2
    subst h1; subst h2
    exact g1
  | _ :: _, _, i + 1, _, _, h, h1, h2 => by
    obtain ⟨v, r, rfl, g1, g2⟩ := h
    simp at h1 h2
    exact g2.get h1 h2

def Gst (pre : Ad) (L : Nat) (wb : World) (σ : St) (a : Act) (w : World) : Prop :=
  ∃ A, (∀ b x, pre b = some x → b < L) ∧ L ≤ σ.own.length ∧ Keep pre wb A w ∧ OwnOK A w σ.own ∧ FrRel A w σ.fr a.tmps ∧ a.defers = []

theorem put_ok {A : Ad} {w : World} {fr : List V} {a : Act} {d : Option Tmp} {v : V} {x : Value} {K : List V → Prop} (h : put fr d v K) (hfr : FrRel A w fr a.tmps) (hx : v.rel A w x) :
    ∃ fr', K fr' ∧ FrRel A w fr' (a.put d x).tmps ∧ (a.put d x).defers = a.defers := by
  cases d with
  | none => exact ⟨fr, h, hfr, rfl⟩
  | some d =>
    refine ⟨setF fr d v, ?_, hfr.put d hx, rfl⟩
    have h : frcV v (fun v => frcL (setF fr d v) K) := h
    rwa [frcV_eq, frcL_eq] at h
theorem splN_ok {b o i : Nat} {k : V → Prop} : ∀ {n : Nat}, splN b o i k n → i < n → k (.s (.ptr b (o + i)))
  | 0, _, h => by omega
  | n + 1, h, hi => by
    have h : (i = n → frcN (o + n) fun q => k (.s (.ptr b q))) ∧ splN b o i k n := h
    by_cases e : i = n
    · have := h.1 e
      rw [frcN_eq] at this
      rw [e]; exact this
    · exact splN_ok h.2 (by omega)
theorem spl_ok {own : List Blk} {v : V} {k : V → Prop} (h : spl own v k) : ∃ v', k v' ∧ ∀ (A : Ad) (w : World) (x : Value), v.rel A w x → v'.rel A w x := by
  unfold spl at h
  split at h
  · rename_i b o i
    split at h
    · rw [frcN_eq] at h
      exact ⟨_, splN_ok h.2 h.1, fun A w x hx => hx⟩
    · exact ⟨_, h, fun A w x hx => hx⟩
  · exact ⟨_, h, fun A w x hx => hx⟩
theorem aft_ok {A : Ad} {w : World} {fr : List V} {own : List Blk} {a : Act} {g : Bool} {d : Option Tmp} {v : V} {x : Value} {K : St → Prop} (h : aft g fr own d v K) (hfr : FrRel A w fr a.tmps) (hx : v.rel A w x) :
    ∃ fr', K ⟨fr', own⟩ ∧ FrRel A w fr' (a.put d x).tmps ∧ (a.put d x).defers = a.defers := by
  obtain ⟨v', h1, hv⟩ := spl_ok h
  have hx1 := hv A w x hx
  clear hv h hx
  unfold aft0 at h1
  split at h1
  · rename_i b
    have hx : x = .bool b := hx1
    subst hx
    cases b with
    | true => exact put_ok (h1.1 rfl) hfr rfl
    | false => exact put_ok (h1.2 rfl) hfr rfl
  · exact put_ok h1 hfr hx1
theorem getF_rel {A : Ad} {w : World} {fr : List V} {a : Act} {t : Nat} {b : Bool} (hfr : FrRel A w fr a.tmps) (h : getF fr t = .w (.s (.lb b))) : a.tmps[t]? = some (.bool b) := by
  by_cases ht : t < fr.length
  · have ht' : t < a.tmps.size := by rw [hfr.1]; exact ht
    have h2 := hfr.2 t fr[t] a.tmps[t] (List.getElem?_eq_getElem ht) (Array.getElem?_eq_getElem ht')
    rw [getF_get, List.getElem?_eq_getElem ht] at h
    simp only [Option.getD_some] at h
    rw [h] at h2
    rw [Array.getElem?_eq_getElem ht']
    exact congrArg some h2
  · rw [getF_get, List.getElem?_eq_none (by omega)] at h
    cases h
theorem want_ok {A : Ad} {w : World} {ops : Array Oper} {fr : List V} {a : Act} {o : Oper} {b : Bool} (h : want ops.toList fr o = some b) (hfr : FrRel A w fr a.tmps) : Region.wanted o (yielded ops a.tmps) = b := by
  unfold want at h
  unfold Region.wanted
  split at h
  · rename_i hg
    cases h
    rw [hg]
  · rename_i j y hg
    rw [hg]
    split at h
    · rename_i t ht
      have ht' : (ops[j]?).bind (·.dst) = some t := by
        unfold dstOf at ht
        rw [Array.getElem?_toList] at ht
        split at ht
        · rename_i o' ho'; rw [ho']; exact ht
        · cases ht
      have fin : ∀ c : Bool, getF fr t = .w (.s (.lb c)) → yielded ops a.tmps j = some c := fun c hc => by
        unfold yielded
        rw [ht']
        simp only [Option.bind_some]
        rw [getF_rel hfr hc]
      split at h
      · rename_i hc
        show (yielded ops a.tmps j == some y) = b
        rw [fin true hc]
        cases y <;> cases h <;> rfl
      · rename_i hc
        show (yielded ops a.tmps j == some y) = b
        rw [fin false hc]
        cases y <;> cases h <;> rfl
      · rename_i hc
        cases h
        show (yielded ops a.tmps j == some y) = false
        unfold yielded
        rw [ht']
        simp only [Option.bind_some]
        cases hv : a.tmps[t]? with
        | none => rfl
        | some v =>
          rw [getF_get] at hc
          cases hq : fr[t]? with
          | none => rw [hq] at hc; cases hc
          | some q =>
            rw [hq] at hc
            simp only [Option.getD_some] at hc
            have := hfr.2 t q v hq hv
            rw [hc] at this
            obtain ⟨vs, rfl, hw⟩ := this
            rfl
      · cases h
    · cases h

theorem anys_eq : ∀ (n : Nat) (acc : List V), anys n acc = List.replicate n V.any ++ acc
  | 0, acc => rfl
  | n + 1, acc => by
    show anys n (V.any :: acc) = _
    rw [anys_eq n]
    rw [List.replicate_succ', List.append_assoc]
    rfl
theorem enter_fr {A : Ad} {w : World} {args : List V} {vals : List Value} {n : Nat} (hv : VsRel A w args vals) :
    FrRel A w (args ++ anys (n - args.length) []) (vals.toArray ++ Array.replicate (n - vals.toArray.size) undef) := by
  have hl := hv.len
  refine ⟨by simp [anys_eq, hl], fun i x v h1 h2 => ?_⟩
  rw [anys_eq, List.append_nil] at h1
  by_cases hi : i < args.length
  · rw [List.getElem?_append_left hi] at h1
    rw [Array.getElem?_append_left (by simpa [hl] using hi)] at h2
    exact hv.get h1 (by simpa using h2)
  · rw [List.getElem?_append_right (by omega), List.getElem?_replicate] at h1
    split at h1
    · cases h1; trivial
    · cases h1

def LoadOk (P : Program) (A : Ad) (w : World) (m : Sem Value) (v : V) : Prop := ∃ x, m.run P w = .ok x w ∧ v.rel A w x
theorem LoadOk.mk {P : Program} {A : Ad} {w : World} {m : Sem Value} {v : V} {x : Value} (h : m.run P w = .ok x w) (hv : v.rel A w x) : LoadOk P A w m v := ⟨x, h, hv⟩
theorem aLoad0_run {P : Program} {A : Ad} {w : World} {own : List Blk} {T : TypeId} {p : List Prop} {x : S} {v : V} {u : U} {xv : Value} (h : aLoad0 P T x own = some (p, v, u)) (hp : all p) (ho : OwnOK A w own) (hx : x.rel A w xv) :
    LoadOk P A w (Instr.loadAt T xv) v := by
  unfold aLoad0 at h
  split at h
  · rename_i k o
    split at h
    · rename_i cs hg
      obtain ⟨a, ha, rfl⟩ := hx
      have hnm : isM cs = false := by
        split at h
        · obtain ⟨t, h1, _, _⟩ := retC_some h
          exact rdA_nm h1
        · obtain ⟨s, h1, _, _⟩ := retS_some h
          exact rdS_nm h1
        · cases h
      obtain ⟨arr, E, fz, cells, spare, g1, g2, g3, g4⟩ := ho.at (getO_some hg) ha hnm
      split at h
      · rename_i hT
        obtain ⟨t, h1, rfl, rfl⟩ := retC_some h
        obtain ⟨q1, q2⟩ := rdA_ok h1 hp g4
        have hs : arr.size = cells.length + spare.length := by have := congrArg List.length g3; simpa using this
        refine LoadOk.mk (run_loadVar_agg hT g1 (by omega)) ⟨_, rfl, ?_⟩
        rw [g3, List.drop_append_of_le_length (by omega), List.take_append_of_le_length (by simp; omega)]
        exact q2
      · rename_i hT
        obtain ⟨s, h1, rfl, rfl⟩ := retS_some h
        obtain ⟨y, q1, q2, q3⟩ := rdS_ok h1 hp g4
        refine LoadOk.mk (run_loadVar_one hT g1 (v := y) ?_) q2
        rw [g3, List.getElem?_append_left]
        · exact q1
        · exact (List.getElem?_eq_some_iff.1 q1).1
      · cases h
    · cases h
  · rename_i k o j
    split at h
    · rename_i cs hg
      obtain ⟨a, ha, rfl⟩ := hx
      have hnm : isM cs = false := by
        split at h
        · obtain ⟨t, h1, _, _⟩ := retC_some h
          exact rdAI_nm h1
        · obtain ⟨s, h1, _, _⟩ := retS_some h
          exact rdI_nm h1
        · cases h
      obtain ⟨arr, E, fz, cells, spare, g1, g2, g3, g4⟩ := ho.at (getO_some hg) ha hnm
      split at h
      · rename_i hT
        obtain ⟨t, h1, rfl, rfl⟩ := retC_some h
        obtain ⟨q1, q2⟩ := rdAI_ok h1 hp g4
        have hs : arr.size = cells.length + spare.length := by have := congrArg List.length g3; simpa using this
        refine LoadOk.mk (run_loadVar_agg hT g1 (by omega)) ⟨_, rfl, ?_⟩
        rw [g3, List.drop_append_of_le_length (by omega), List.take_append_of_le_length (by simp; omega)]
        exact q2
      · rename_i hT
        obtain ⟨s, h1, rfl, rfl⟩ := retS_some h
        obtain ⟨y, q1, q2, q3⟩ := rdI_ok h1 hp g4
        refine LoadOk.mk (run_loadVar_one hT g1 (v := y) ?_) q2
        rw [g3, List.getElem?_append_left]
        · exact q1
        · exact (List.getElem?_eq_some_iff.1 q1).1
      · cases h
    · cases h
  · rename_i x i
    obtain ⟨cs, blk, off, arr, E, fz, g1, rfl, g3, g4, g5⟩ := hx
    have hl := Vec.rel_len g1
    have hlen : cs.length ≤ arr.size - off := by
      have := congrArg List.length g5
      simp at this
      omega
    split at h
    · rename_i hT
      split at h <;> cases h
      rename_i hc
      have hc := Nat.le_of_ble_eq_true hc
      have h1 := (all_cons.1 hp).1
      refine LoadOk.mk (run_loadVar_agg hT g4 (by omega)) ⟨_, rfl, ?_⟩
      have e : (arr.toList.drop (off + i)).take (P.cellsOf T) = (cs.drop i).take (P.cellsOf T) := by
        rw [← g5, List.drop_take, List.take_take, List.drop_drop, Nat.min_eq_left (by omega)]
      rw [e]
      exact vec_mk (by simp [I.val]; omega) (Vec.take_ok (Vec.drop_ok g1))
    · rename_i hT
      cases h
      have h1 := (all_cons.1 hp).1
      obtain ⟨y, q1, q2, q3⟩ := Vec.get_ok (i := i) g1 (by omega)
      refine LoadOk.mk (run_loadVar_one hT g4 (v := y) ?_) q2
      rw [← q1, ← g5, List.getElem?_take, if_pos (by omega), List.getElem?_drop]
    · cases h
  · cases h
theorem tyV_run {P : Program} {A : Ad} {w : World} {T : TypeId} {r : RU} {m : Sem Value} {p : List Prop} {v : V} {u : U} (h : tyV P T r = some (p, v, u)) (hp : all p)
    (hr : ∀ p v, r = some (p, v, u) → all p → LoadOk P A w m v) : LoadOk P A w m v := by
  unfold tyV at h
  split at h
  · rename_i q x u'
    split at h
    · rename_i k hk
      simp only [Option.some.injEq, Prod.mk.injEq] at h
      obtain ⟨rfl, rfl, rfl⟩ := h
      obtain ⟨h1, h2⟩ := all_append.1 hp
      obtain ⟨y, g1, g4⟩ := hr _ _ rfl h1
      refine ⟨y, g1, ?_⟩
      have e : y = x := g4
      subst e
      exact Kd.dec_ok (all_cons.1 h2).1
    · simp only [Option.some.injEq, Prod.mk.injEq] at h
      obtain ⟨rfl, rfl, rfl⟩ := h
      exact hr _ _ rfl hp
  · rename_i q n l u'
    split at h
    · simp only [Option.some.injEq, Prod.mk.injEq] at h
      obtain ⟨rfl, rfl, rfl⟩ := h
      exact hr _ _ rfl hp
    split at h
    · rename_i ks hk
      simp only [Option.some.injEq, Prod.mk.injEq] at h
      obtain ⟨rfl, rfl, rfl⟩ := h
      obtain ⟨h1, h2⟩ := all_append.1 hp
      obtain ⟨y, g1, g4⟩ := hr _ _ rfl h1
      refine ⟨y, g1, ?_⟩
      obtain ⟨cells, rfl, k1⟩ := g4
      obtain ⟨_, k2, _⟩ := vec_rel k1
      subst k2
      exact ⟨cells, rfl, decCs_ok (o := 0) (all_cons.1 h2).1⟩
    · cases h
  · exact hr _ _ h hp
theorem tyV_some {P : Program} {T : TypeId} {r : RU} {x : List Prop × V × U} (h : tyV P T r = some x) : ∃ y, r = some y := by
  cases r with
  | none => cases h
  | some y => exact ⟨y, rfl⟩
theorem aLoad_run {P : Program} {A : Ad} {w : World} {own : List Blk} {T : TypeId} {p : List Prop} {x : S} {v : V} {u : U} {xv : Value} (h : aLoad P T x own = some (p, v, u)) (hp : all p) (ho : OwnOK A w own) (hx : x.rel A w xv) :
    LoadOk P A w (Instr.loadAt T xv) v := tyV_run h hp fun p v h1 h2 => aLoad0_run h1 h2 ho hx
theorem resW_ok {P : Program} {A : Ad} {w : World} {σ : St} {a : Act} {r : ResultVar} {x : W} (h : resW P σ r = some x) (hfr : FrRel A w σ.fr a.tmps) (ho : OwnOK A w σ.own) :
    ∃ v, (match r with | .tmp t => (pure (a.tmps.getD t undef) : Sem Value) | .cell c t => do loadVar t (← asAddr (a.tmps.getD c undef))).run P w = .ok v w ∧ x.rel A w v := by
  cases r with
  | tmp t =>
    unfold resW at h
    simp only [] at h
    have he := hfr.ev (.tmp t)
    split at h
    · rename_i y hy
      cases h
      refine ⟨_, rfl, ?_⟩
      have : ev σ.fr (.tmp t) = getF σ.fr t := rfl
      rw [this, hy] at he
      exact he
    · cases h
  | cell c T =>
    unfold resW at h
    simp only [] at h
    split at h
    · rename_i y hy
      cases h
      have he : (oS (getF σ.fr c)).rel A w (a.tmps.getD c undef) := oS_ok (hfr.ev (.tmp c))
      have hpt : ∃ ad, a.tmps.getD c undef = .pointer (some ad) := by
        obtain ⟨y2, hy⟩ := tyV_some hy
        unfold aLoad0 at hy
        split at hy
        · rename_i k o hk; rw [hk] at he; obtain ⟨b, _, e⟩ := he; exact ⟨_, e⟩
        · rename_i k o i hk; rw [hk] at he; obtain ⟨b, _, e⟩ := he; exact ⟨_, e⟩
        · rename_i v i hk; rw [hk] at he; obtain ⟨cs, blk, off, arr, T, fz, _, e, _⟩ := he; exact ⟨_, e⟩
        · cases hy
      obtain ⟨ad, had⟩ := hpt
      rw [had] at he
      obtain ⟨v, h1, h2⟩ := aLoad_run hy all_nil ho he
      refine ⟨v, ?_, h2⟩
      show (do loadVar T (← asAddr (a.tmps.getD c undef)) : Sem Value).run P w = _
      rw [had]
      exact h1
    · cases h
end Go.Eng
/- The conditions are enough: results, contracts. -/
namespace Go.Eng
open Go Go.RowKit

def resF (tmps : Array Value) : ResultVar → Sem Value
  | .tmp t => pure (tmps.getD t undef)
  | .cell c t => do loadVar t (← asAddr (tmps.getD c undef))
theorem results_eq (fn : Func) (tmps : Array Value) : results fn tmps = (do let vs ← fn.results.mapM (resF tmps); pure (if h : vs.size = 1 then vs[0] else .tuple vs)) := by
  unfold results
  refine congrArg (fun f : ResultVar → Sem Value => (do let vs ← fn.results.mapM f; pure (if h : vs.size = 1 then vs[0] else .tuple vs) : Sem Value)) (funext fun r => ?_)
  cases r <;> rfl
theorem resWs_ok {P : Program} {A : Ad} {w : World} {σ : St} {a : Act} (hfr : FrRel A w σ.fr a.tmps) (ho : OwnOK A w σ.own) : ∀ {rs : List ResultVar} {xs : List W}, resWs P σ rs = some xs →
    ∃ vs, (rs.mapM (resF a.tmps)).run P w = .ok vs w ∧ WsRel A w xs vs
  | [], xs, h => by
    cases h
    exact ⟨[], rfl, rfl⟩
  | r :: rs, xs, h => by
    unfold resWs at h
    split at h
    · cases h
    · rename_i x hx
      split at h
      · cases h
      · rename_i ys hys
        cases h
        obtain ⟨v, h1, h2⟩ := resW_ok hx hfr ho
        obtain ⟨vs, h3, h4⟩ := resWs_ok hfr ho hys
        refine ⟨v :: vs, ?_, v, vs, rfl, h2, h4⟩
        rw [List.mapM_cons, Sem.run_bind]
        have e : (resF a.tmps r).run P w = .ok v w := by cases r <;> exact h1
        rw [e]
        show ((do let y ← rs.mapM _; pure (v :: y)) : Sem (List Value)).run P w = _
        rw [Sem.run_bind, h3]
        rfl
theorem WsRel.len {A : Ad} {w : World} : ∀ {xs : List W} {l : List Value}, WsRel A w xs l → l.length = xs.length
  | [], _, h => by subst h; rfl
  | _ :: _, _, h => by
    obtain ⟨v, r, rfl, _, h2⟩ := h
    simp [h2.len]
theorem resOf_ok {P : Program} {A : Ad} {w : World} {σ : St} {a : Act} {fn : Func} {v : V} (h : resOf P fn σ = some v) (hfr : FrRel A w σ.fr a.tmps) (ho : OwnOK A w σ.own) :
    ∃ x, (results fn a.tmps).run P w = .ok x w ∧ v.rel A w x := by
  unfold resOf at h
  have run : ∀ xs, resWs P σ fn.results.toList = some xs → ∃ vs, WsRel A w xs vs ∧ (results fn a.tmps).run P w = .ok (if h : vs.toArray.size = 1 then vs.toArray[0] else .tuple vs.toArray) w := fun xs hx => by
    obtain ⟨vs, h1, h2⟩ := resWs_ok hfr ho hx
    refine ⟨vs, h2, ?_⟩
    rw [results_eq, Sem.run_bind, Array.mapM_eq_mapM_toList, Sem.run_map, h1]
    rfl
  split at h
  · rename_i x hx
    cases h
    obtain ⟨vs, h1, h2⟩ := run _ hx
    obtain ⟨y, r, rfl, h3, rfl⟩ := h1
    exact ⟨y, h2, h3⟩
  · rename_i l hl hx
    cases h
    obtain ⟨vs, h1, h2⟩ := run _ hx
    have hn : ¬ vs.toArray.size = 1 := by
      intro e
      have := h1.len
      rw [show vs.toArray.size = vs.length by simp] at e
      rw [e] at this
      match l, this with
      | [x], _ => exact hl x rfl
    rw [dif_neg hn] at h2
    exact ⟨_, h2, vs, rfl, h1⟩
  · cases h

def XNew (ok : Nat → Prop) (v : Value) : Prop := v = .slice none 0 0 ∨ ∃ blk off len cap, v = .slice (some ⟨blk, off, none⟩) len cap ∧ ok blk
def VecNew (ok : Nat → Prop) (x : Vec) (l : List Value) : Prop :=
  match x with
  | .sl _ => ∀ v ∈ l, XNew ok v
  | _ => True
def RowNew (n : Nat) (w : World) (z : Nat) (len : I) (x : Vec) (v : Value) : Prop :=
  (v = .slice none 0 0 ∧ len.val = 0 ∧ x.rel (fun _ => none) w []) ∨
  ∃ blk off cap arr T fz cells spare, v = .slice (some ⟨blk, off, none⟩) len.val cap ∧ len.val ≤ cap ∧ n ≤ blk ∧ w.heap[blk]? = some (.cells arr T fz) ∧ off + cap * z ≤ arr.size ∧ (off = 0 ∨ len.val = 0 ∧ cap = 0) ∧
    (fz.2 = fz.1 ∨ arr.size ≤ fz.1) ∧ arr.toList = cells ++ spare ∧ cells.length = len.val * z ∧ x.rel (fun _ => none) w cells ∧ VecNew (fun b => n ≤ b ∧ b ≠ blk) x cells
def ChsNew (n : Nat) : List Ch → List Value → Prop
  | [], _ => True
  | .one (.xs _ _ _) :: cs, l => ∃ v r, l = v :: r ∧ XNew (fun b => n ≤ b) v ∧ ChsNew n cs r
  | .one _ :: cs, l => ∃ v r, l = v :: r ∧ ChsNew n cs r
  | .vec m x :: cs, l => ∃ a r, l = a ++ r ∧ a.length = m.val ∧ VecNew (fun b => n ≤ b) x a ∧ ChsNew n cs r
def W.out (n : Nat) (w : World) : W → Value → Prop
  | .s (.xs z len x), v => RowNew n w z len x v
  | .s x, v => flatS x = true ∧ x.sc v
  | .agg cs, v => ∃ cells : List Value, v = .agg cells.toArray ∧ ChsRel (fun _ => none) w cs cells ∧ ChsNew n cs cells ∧ extCs cs = true
def WsOut (n : Nat) (w : World) : List W → List Value → Prop
  | [], l => l = []
  | x :: xs, l => ∃ v r, l = v :: r ∧ x.out n w v ∧ WsOut n w xs r
def V.out (n : Nat) (w : World) : V → Value → Prop
  | .w x, v => x.out n w v
  | .tup l, v => ∃ vs : List Value, v = .tuple vs.toArray ∧ WsOut n w l vs
def Con (P : Program) (f : FuncId) (g : SpecF) : Prop :=
  ∀ args ps res, g args = some (ps, res) → all ps → ∀ (w : World) (vals : List Value), VsRel (fun _ => none) w args vals →
    Calls P f vals.toArray w fun e w' => ∃ x, e = .returned x ∧ Below w.heap.size w w' ∧ res.out w.heap.size w' x
def ConH (P : Program) (f : FuncId) (g : SpecH) : Prop :=
  ∀ args ps H, g args = some (ps, H) → all ps → ∀ (w : World) (vals : List Value), VsRel (fun _ => none) w args vals →
    Calls P f vals.toArray w fun e w' => ∃ x a, e = .returned x ∧ H.ok a ∧ Below w.heap.size w w' ∧ (H.res a).out w.heap.size w' x
def AOne (a : Nat) : Ad := fun b => if b = 0 then some a else none
def ConM (P : Program) (f : FuncId) (g : SpecM) : Prop :=
  ∀ cs o args ps res cs', g cs o args = some (ps, res, cs') → all ps → rokCs cs = true → flatCs cs' = true →
    ∀ (w : World) (a : Nat) (arr : Array Value) (T : TypeId) (fz : Nat × Nat) (cells spare : List Value) (vals : List Value),
      w.heap[a]? = some (.cells arr T fz) → (fz.2 = fz.1 ∨ arr.size ≤ fz.1) → arr.toList = cells ++ spare → ChsRel (AOne a) w cs cells → VsRel (AOne a) w args vals →
      Calls P f (Value.pointer (some ⟨a, o, none⟩) :: vals).toArray w fun e w' => ∃ x arr' T' fz' cells' spare', e = .returned x ∧ arr'.size = arr.size ∧ (fz'.2 = fz'.1 ∨ arr'.size ≤ fz'.1) ∧ arr'.toList = cells.take (hdCs cs).length ++ cells' ++ spare' ∧
        ChsRel (fun _ => none) w cs' cells' ∧ Below w.heap.size (setArr w a arr' T' fz') w' ∧ res.out w.heap.size w' x
def NamesOK (P : Program) : Prop := ∀ (f : FuncId) (fn : Func), P.funcs[f]? = some fn → (fn.name == "runtime.NumGoroutine") = false
end Go.Eng
/- Arguments for a contract. -/
namespace Go.Eng
open Go Go.RowKit

abbrev A0 : Ad := fun _ => none
theorem XB.none {A : Ad} {w : World} {cs : List Value} {z : Nat} {v : Value} (h : XB A w cs z v) : XB A0 w cs z v := by
  rcases h with h | ⟨blk, off, n, cap, arr, T, fz, h1, h2, h3, h4, h5, h6⟩
  · exact .inl h
  · exact .inr ⟨blk, off, n, cap, arr, T, fz, h1, h2, h3, fun _ => by simp, h5, h6⟩
theorem Vec.none {A : Ad} {w : World} {x : Vec} {cs : List Value} (h : x.rel A w cs) : x.rel A0 w cs := by
  cases x <;> simp only [Vec.rel] at h ⊢ <;> try exact h
  exact ⟨h.1, fun i x v h1 h2 => (h.2 i x v h1 h2).none⟩
theorem src_xb {P : Program} {A : Ad} {w : World} {z n : Nat} {v : Value} {cs : List Value} (h : Src P A w z v n cs)
    (hv : Emp v ∨ ∃ a off m cap arr T fz, v = .slice (some ⟨a, off, none⟩) m cap ∧ m ≤ cap ∧ w.heap[a]? = some (.cells arr T fz) ∧ (off + m * z ≤ arr.size ∨ m * z = 0)) : XB A0 w cs z v := by
  rcases hv with ⟨a0, rfl⟩ | ⟨a, off, m, cap, arr, T, fz, rfl, h2, h3, h4⟩
  · have h1 := h.len
    have e : (Builtin.lenOf (.slice a0 0 0)).run P w = .ok 0 w := rfl
    rw [e] at h1
    cases h1
    have := h.all
    rw [Nat.zero_mul] at this
    exact .inl ⟨⟨_, rfl⟩, List.length_eq_zero_iff.1 this⟩
  · have h1 := h.len
    have e : (Builtin.lenOf (.slice (some ⟨a, off, Option.none⟩) m cap)).run P w = .ok m w := rfl
    rw [e] at h1
    have hm : m = n := by injection h1
    subst hm
    clear h1 e
    refine .inr ⟨a, off, m, cap, arr, T, fz, rfl, h2, h.all.symm, fun _ => by simp, h3, ?_⟩
    have h5 := h.first w rfl m (Nat.le_refl _)
    have h6 := h.all
    unfold Builtin.firstCells at h5
    by_cases h0 : m * z = 0
    · rw [h0] at h6 ⊢
      rw [List.length_eq_zero_iff.1 h6]
      rfl
    · rw [run_loadCells h3 (by omega)] at h5
      injection h5 with h5
      have h8 := congrArg Array.toList h5
      simp only at h8
      rw [h8, ← h6, List.take_length]
theorem sl_form {A : Ad} {w : World} {k o z : Nat} {i len : I} {v : Value} (h : (S.sl k o i len z).rel A w v) :
    Emp v ∨ ∃ a off m cap arr T fz, v = .slice (some ⟨a, off, none⟩) m cap ∧ m ≤ cap ∧ w.heap[a]? = some (.cells arr T fz) ∧ (off + m * z ≤ arr.size ∨ m * z = 0) := by
  rcases h with ⟨rfl, _⟩ | ⟨a, off, cap, arr, T, fz, _, rfl, h3, _, h5, h6⟩
  · exact .inl ⟨_, rfl⟩
  · exact .inr ⟨a, off, _, cap, arr, T, fz, rfl, h3, h5, .inl (Nat.le_trans (Nat.add_le_add_left (Nat.mul_le_mul_right z h3) off) h6)⟩
theorem kindVec_nil {k : IntKind} {v : Vec} {A : Ad} {w : World} (h : kindVec k 0 = some v) : v.rel A w [] := by
  cases k <;> cases h <;> rfl
theorem noVec_ok {P : Program} {A : Ad} {w : World} : ∀ {d : Nat} {e : TypeId} {v : Vec}, noVec P d e = some v → v.rel A w []
  | 0, _, _, h => by cases h
  | d + 1, e, v, h => by
    unfold noVec at h
    split at h
    · exact kindVec_nil h
    · cases h; rfl
    · cases h; exact ⟨rfl, fun i x v h1 h2 => by simp at h2⟩
    · cases h; exact ⟨rfl, fun v h => by cases h⟩
    · exact noVec_ok h
    · cases h
theorem pur_sl {P : Program} {A : Ad} {w : World} {own : List Blk} {k o z : Nat} {i len n : I} {p : List Prop} {new : List Ch} {v : Value} (h : srcOf (.sl k o i len z) own z = some (p, n, new)) (hp : all p) (ho : OwnOK A w own) (hx : (S.sl k o i len z).rel A w v) :
    ∃ cs, ChsRel A w new cs ∧ XB A0 w cs z v ∧ n.val * z = cs.length := by
  obtain ⟨cs, h1, h2⟩ := srcOf_ok (P := P) h hp ho hx
  exact ⟨cs, h2, src_xb h1 (sl_form hx), h1.all.symm⟩
theorem bytesOf_ok {P : Program} {A : Ad} {w : World} {own : List Blk} {x : S} {p : List Prop} {l : List UInt8} {v : Value} (h : bytesOf x own = some (p, l)) (hp : all p) (ho : OwnOK A w own) (hx : x.rel A w v) : XB A0 w (l.map eu8) 1 v := by
  unfold bytesOf at h
  cases hst : isStr x with
  | true => rw [hst] at h; cases h
  | false =>
  rw [hst] at h
  have hs : ∀ l, x ≠ .str l := fun l e => by subst e; cases hst
  have fin : ∀ n new cs, srcOf x own 1 = some (p, n, new) → Src P A w 1 v n.val cs → XB A0 w cs 1 v := fun n new cs e hsrc => by
    refine src_xb hsrc ?_
    unfold srcOf at e
    split at e
    · rename_i hz
      unfold srcOf0 at e
      split at e
      · exact .inl ⟨_, hx⟩
      · obtain ⟨_, cs, _, h2, _⟩ := hx
        rcases h2 with ⟨h2, _⟩ | ⟨blk, off, m, cap, arr, T, fz, rfl, g1, g2, g3, g4, g5⟩
        · exact .inl h2
        · have hl := congrArg List.length g5
          simp at hl
          have hz := Nat.eq_of_beq_eq_true hz
          subst hz
          refine .inr ⟨blk, off, m, cap, arr, T, fz, rfl, g1, g4, ?_⟩
          omega
      · exact absurd rfl (hs _)
      · have hz := Nat.eq_of_beq_eq_true hz
        subst hz
        exact sl_form hx
      · cases e
    · cases e
  split at h
  · rename_i q n l' hq
    cases h
    obtain ⟨cs, h1, h2⟩ := srcOf_ok (P := P) hq hp ho hx
    have := (vec_rel h2).2
    simp only [Vec.rel] at this
    subst this
    exact fin _ _ _ hq h1
  · rename_i q n hq
    cases h
    obtain ⟨cs, h1, h2⟩ := srcOf_ok (P := P) hq hp ho hx
    simp only [ChsRel] at h2
    subst h2
    exact fin _ _ _ hq h1
  · cases h
end Go.Eng
/- Arguments for a contract: values. -/
namespace Go.Eng
open Go Go.RowKit

theorem flatS_rel {A A' : Ad} {w w' : World} {x : S} {v : Value} (h : flatS x = true) (hx : x.rel A w v) : x.rel A' w' v := by
  cases x <;> first | exact hx | (cases h)
theorem flatS_sc {A : Ad} {w : World} {x : S} {v : Value} (h : flatS x = true) (hx : x.rel A w v) : x.sc v := by
  cases x <;> first | exact hx | (cases h)
theorem bytesAll_ok {P : Program} {A : Ad} {w : World} {own : List Blk} (ho : OwnOK A w own) : ∀ {cs : List Ch} {p : List Prop} {ls : List (List UInt8)} {l : List Value}, bytesAll own cs = some (p, ls) → all p → ChsRel A w cs l →
    ls.length = l.length ∧ ∀ (i : Nat) (x : List UInt8) (v : Value), ls[i]? = some x → l[i]? = some v → XB A0 w (x.map eu8) 1 v
  | [], p, ls, l, h, hp, hc => by
    cases h
    simp only [ChsRel] at hc
    subst hc
    exact ⟨rfl, fun i x v h1 h2 => by simp at h1⟩
  | .vec n v :: r, p, ls, l, h, hp, hc => by
    unfold bytesAll at h
    split at h
    · rename_i y
      split at h
      · cases h
      · rename_i q ys hq'
        cases h
        obtain ⟨a, t, rfl, h1, h2, h3⟩ := hc
        obtain ⟨g1, g2⟩ := bytesAll_ok (P := P) ho hq' hp h3
        obtain ⟨e1, e2⟩ := Vec.none h2
        refine ⟨by simp [g1, e1], fun i x u f1 f2 => ?_⟩
        by_cases hi : i < y.length
        · rw [List.getElem?_append_left hi] at f1
          rw [List.getElem?_append_left (by omega)] at f2
          exact e2 i x u f1 f2
        · rw [List.getElem?_append_right (by omega)] at f1
          rw [List.getElem?_append_right (by omega), ← e1] at f2
          exact g2 _ x u f1 f2
    · cases h
  | .one s :: r, p, ls, l, h, hp, hc => by
    unfold bytesAll at h
    split at h
    · cases h
    · rename_i q y hq
      split at h
      · cases h
      · rename_i q' ys hq'
        cases h
        obtain ⟨v, t, rfl, h1, h2, h3⟩ := hc
        have hp1 : all q := fun x hx => hp x (List.mem_append_left _ hx)
        have hp2 : all q' := fun x hx => hp x (List.mem_append_right _ hx)
        have hb := bytesOf_ok (P := P) hq hp1 ho h1
        obtain ⟨g1, g2⟩ := bytesAll_ok (P := P) ho hq' hp2 h3
        refine ⟨by simp [g1], fun i x u e1 e2 => ?_⟩
        cases i with
        | zero => simp at e1 e2; subst e1; subst e2; exact hb
        | succ i => simp at e1 e2; exact g2 i x u e1 e2
theorem purS0_ok {P : Program} {A : Ad} {w : World} {own : List Blk} {T : TypeId} {s s' : S} {p : List Prop} {v : Value} (h : purS0 P own T s = some (p, s')) (hp : all p) (ho : OwnOK A w own) (hx : s.rel A w v) : s'.rel A0 w v := by
  unfold purS0 at h
  split at h
  · cases h
  · cases h
  · cases h
  · cases h
  · cases h
  · cases h
  · simp only [S.rel] at hx
    subst hx
    split at h
    · split at h
      · rename_i u hu hz
        cases h
        exact ⟨by simpa using hz, [], noVec_ok hu, .inl ⟨⟨_, rfl⟩, rfl⟩, by simp [I.val]⟩
      · cases h
    · cases h
  · rename_i k o i len z
    split at h
    · cases h
    · rename_i hz
      have hz : 0 < z := by simpa using hz
      split at h
      · cases h
      · rename_i q n cs hq
        split at h
        · cases h
          obtain ⟨cl, g1, g2, g3⟩ := pur_sl (P := P) hq hp ho hx
          exact ⟨hz, cl, Vec.none (vec_rel g1).2, g2, g3⟩
        · split at h
          · split at h
            · rename_i u hu
              cases h
              obtain ⟨cl, g1, g2, g3⟩ := pur_sl (P := P) hq hp ho hx
              simp only [ChsRel] at g1
              subst g1
              exact ⟨hz, [], noVec_ok hu, g2, g3⟩
            · cases h
          · cases h
        · split at h
          · rename_i q' ls hz1 hq'
            cases h
            have hp1 : all q := fun x hx => hp x (List.mem_append_left _ hx)
            have hp2 : all q' := fun x hx => hp x (List.mem_append_right _ hx)
            have e1 := Nat.eq_of_beq_eq_true hz1
            subst e1
            obtain ⟨cl, g1, g2, g3⟩ := pur_sl (P := P) hq hp1 ho hx
            obtain ⟨k1, k2⟩ := bytesAll_ok (P := P) ho hq' hp2 g1
            exact ⟨hz, cl, ⟨k1, k2⟩, g2, g3⟩
          · cases h
          · split at h
            · rename_i l he
              cases h
              obtain ⟨cl, g1, g2, g3⟩ := pur_sl (P := P) hq hp ho hx
              have e := encC_ok he g1
              subst e
              exact ⟨hz, cl, ⟨rfl, g1.ones⟩, g2, g3⟩
            · cases h
  · cases h
    cases s <;> first | exact hx | skip
    case ptr => exfalso; simp_all
    case pti => exfalso; simp_all
    case sl => exfalso; rename_i hn; exact hn _ _ _ _ _ rfl
    case xp => exfalso; simp_all
    case clo => exfalso; simp_all
    case mref => exfalso; simp_all
    case xs => obtain ⟨h0, cs, h1, h2, h3⟩ := hx; exact ⟨h0, cs, Vec.none h1, h2.none, h3⟩
    case row => exact ⟨hx.1, hx.2.1.none, hx.2.2⟩
theorem normS_ok {A : Ad} {w : World} {s : S} {v : Value} (h : s.rel A w v) : (normS s).rel A w v := by
  unfold normS
  split
  · exact h
  · exact h
  · obtain ⟨h0, cs, h1, h2, h3⟩ := h
    refine ⟨h0, cs, h1, h2, ?_⟩
    have := Vec.rel_len h1
    simp only [I.val]
    omega
  · exact h
  · exact h
theorem purS_ok {P : Program} {A : Ad} {w : World} {own : List Blk} {T : TypeId} {s s' : S} {p : List Prop} {v : Value} (h : purS P own T s = some (p, s')) (hp : all p) (ho : OwnOK A w own) (hx : s.rel A w v) : s'.rel A0 w v := by
  unfold purS at h
  split at h
  · rename_i hq
    cases h
    exact normS_ok (purS0_ok hq hp ho hx)
  · cases h
theorem purC1_ok {P : Program} {A : Ad} {w : World} {own : List Blk} {T : TypeId} {o : Nat} {s s' : S} {p : List Prop} {v : Value} (ho : OwnOK A w own) (h : purC1 P own T o s = some (p, s')) (hp : all p) (h1 : s.rel A w v) : s'.rel A0 w v := by
  unfold purC1 at h
  split at h
  · cases h
  · cases h
  · cases h
  · cases h
  · cases h
  · cases h
  · rw [frcN_eq] at h
    simp only [S.rel] at h1
    subst h1
    split at h
    · rename_i hz
      have hz := Nat.le_of_ble_eq_true hz
      cases h
      exact ⟨by omega, [], ⟨rfl, fun v h => by cases h⟩, .inl ⟨⟨_, rfl⟩, rfl⟩, by simp [I.val]⟩
    · cases h
      exact ⟨by omega, [], rfl, .inl ⟨⟨_, rfl⟩, rfl⟩, by simp [I.val]⟩
  · rename_i k o i len z
    split at h
    · rename_i hz
      have e := Nat.eq_of_beq_eq_true hz
      subst e
      split at h
      · rename_i q1 n m u hs
        cases h
        obtain ⟨cl, g1, g2, g3⟩ := pur_sl (P := P) hs hp ho h1
        exact ⟨by omega, cl, Vec.none (vec_rel g1).2, g2, g3⟩
      · rename_i q1 n hs
        cases h
        obtain ⟨cl, g1, g2, g3⟩ := pur_sl (P := P) hs hp ho h1
        simp only [ChsRel] at g1
        subst g1
        exact ⟨by omega, [], rfl, g2, g3⟩
      · cases h
    · split at h
      · rename_i hz
        have hz := Nat.le_of_ble_eq_true hz
        split at h
        · rename_i q1 n m u hs
          cases h
          obtain ⟨cl, g1, g2, g3⟩ := pur_sl (P := P) hs hp ho h1
          exact ⟨by omega, cl, Vec.none (vec_rel g1).2, g2, g3⟩
        · rename_i q1 n cs _ hs
          split at h
          · rename_i l he
            cases h
            obtain ⟨cl, g1, g2, g3⟩ := pur_sl (P := P) hs hp ho h1
            have e := encC_ok he g1
            subst e
            exact ⟨by omega, cl, ⟨rfl, g1.ones⟩, g2, g3⟩
          · cases h
        · cases h
      · cases h
  · cases h
    cases s <;> first | exact h1 | skip
    case ptr => exfalso; simp_all
    case pti => exfalso; simp_all
    case sl => exfalso; rename_i hn; exact hn _ _ _ _ _ rfl
    case xp => exfalso; simp_all
    case clo => exfalso; simp_all
    case mref => exfalso; simp_all
    case xs => obtain ⟨h0, cs, h1, h2, h3⟩ := h1; exact ⟨h0, cs, Vec.none h1, h2.none, h3⟩
    case row => exact ⟨h1.1, h1.2.1.none, h1.2.2⟩
theorem purCs_ok {P : Program} {A : Ad} {w : World} {own : List Blk} {T : TypeId} (ho : OwnOK A w own) : ∀ {cs : List Ch} {o : Nat} {cs' : List Ch} {p : List Prop} {l : List Value}, purCs P own T cs o = some (p, cs') → all p → ChsRel A w cs l → ChsRel A0 w cs' l
  | [], o, cs', p, l, h, hp, hc => by cases h; exact hc
  | .vec n x :: r, o, cs', p, l, h, hp, hc => by
    unfold purCs at h
    rw [frcN_eq] at h
    split at h
    · cases h
    · rename_i q cs2 hq
      cases h
      obtain ⟨a, t, rfl, h1, h2, h3⟩ := hc
      exact ⟨a, t, rfl, h1, Vec.none h2, purCs_ok ho hq hp h3⟩
  | .one s :: r, o, cs', p, l, h, hp, hc => by
    unfold purCs at h
    split at h
    · cases h
    · rename_i q s' hq
      rw [frcN_eq] at h
      split at h
      · cases h
      · rename_i q' cs2 hq'
        cases h
        have hp1 : all q := fun x hx => hp x (List.mem_append_left _ hx)
        have hp2 : all q' := fun x hx => hp x (List.mem_append_right _ hx)
        obtain ⟨v, t, rfl, h1, h2, h3⟩ := hc
        exact ⟨v, t, rfl, normS_ok (purC1_ok ho hq hp1 h1), h2, purCs_ok ho hq' hp2 h3⟩
theorem purV_ok {P : Program} {A : Ad} {w : World} {own : List Blk} {T : TypeId} {x y : V} {p : List Prop} {v : Value} (h : purV P own T x = some (p, y)) (hp : all p) (ho : OwnOK A w own) (hx : x.rel A w v) : y.rel A0 w v := by
  unfold purV at h
  split at h
  · split at h
    · rename_i q s hq
      cases h
      exact purS_ok hq hp ho hx
    · cases h
  · split at h
    · rename_i q s hq
      cases h
      obtain ⟨cells, rfl, h2⟩ := hx
      exact ⟨cells, rfl, purCs_ok ho hq hp h2⟩
    · cases h
  · cases h
theorem purL_ok {P : Program} {A : Ad} {w : World} {own : List Blk} (ho : OwnOK A w own) : ∀ {Ts : List TypeId} {xs ys : List V} {p : List Prop} {l : List Value}, purL P own Ts xs = some (p, ys) → all p → VsRel A w xs l → VsRel A0 w ys l
  | [], [], _, _, _, h, _, hx => by cases h; exact hx
  | [], _ :: _, _, _, _, h, _, _ => by cases h
  | _ :: _, [], _, _, _, h, _, _ => by cases h
  | T :: Ts, x :: xs, ys, p, l, h, hp, hx => by
    unfold purL at h
    split at h
    · cases h
    · rename_i q y hq
      split at h
      · cases h
      · rename_i q' ys' hq'
        cases h
        have hp1 : all q := fun x hx => hp x (List.mem_append_left _ hx)
        have hp2 : all q' := fun x hx => hp x (List.mem_append_right _ hx)
        obtain ⟨v, t, rfl, h1, h2⟩ := hx
        exact ⟨v, t, rfl, purV_ok hq hp1 ho h1, purL_ok ho hq' hp2 h2⟩
end Go.Eng
/- Results of a contract. -/
namespace Go.Eng
open Go Go.RowKit

theorem XB.up {A : Ad} {w : World} {cs : List Value} {z : Nat} {v : Value} {ok : Nat → Prop} (h : XB A0 w cs z v) (hn : XNew ok v) (ha : ∀ b k, ok k → A b ≠ some k) : XB A w cs z v := by
  rcases h with h | ⟨blk, off, n, cap, arr, T, fz, h1, h2, h3, h4, h5, h6⟩
  · exact .inl h
  · rcases hn with hn | ⟨blk', off', n', cap', hn, hok⟩
    · rw [h1] at hn; cases hn
    · rw [h1] at hn
      cases hn
      exact .inr ⟨blk, off, n, cap, arr, T, fz, h1, h2, h3, fun b => ha b blk hok, h5, h6⟩
theorem Vec.up {A : Ad} {w : World} {x : Vec} {l : List Value} {ok : Nat → Prop} (h : x.rel A0 w l) (hn : VecNew ok x l) (ha : ∀ b k, ok k → A b ≠ some k) : x.rel A w l := by
  cases x <;> simp only [Vec.rel] at h ⊢ <;> try exact h
  refine ⟨h.1, fun i x v h1 h2 => (h.2 i x v h1 h2).up (hn v (List.mem_of_getElem? h2)) ha⟩
theorem Chs.up {A : Ad} {w : World} {n : Nat} (ha : ∀ b k, n ≤ k → A b ≠ some k) : ∀ {cs : List Ch} {l : List Value}, ChsRel A0 w cs l → ChsNew n cs l → extCs cs = true → ChsRel A w cs l
  | [], _, h, _, _ => h
  | .vec m x :: cs, l, h, hn, he => by
    obtain ⟨a, r, rfl, h1, h2, h3⟩ := h
    obtain ⟨a', r', e, g1, g2, g3⟩ := hn
    obtain ⟨rfl, rfl⟩ := List.append_inj e (by omega)
    exact ⟨a, r, rfl, h1, Vec.up h2 g2 ha, Chs.up ha h3 g3 he⟩
  | .one s :: cs, l, h, hn, he => by
    obtain ⟨v, r, rfl, h1, h2, h3⟩ := h
    simp only [extCs, Bool.and_eq_true] at he
    have flat : flatS s = true → ∃ v' r', v :: r = v' :: r' ∧ ChsNew n cs r' := fun hf => by
      cases s <;> first | (cases hf; done) | exact hn
    cases s with
    | xs z len x =>
      obtain ⟨v', r', e, g1, g2⟩ := hn
      cases e
      obtain ⟨h0, c, k1, k2, k3⟩ := h1
      refine ⟨v, r, rfl, ⟨h0, c, ?_, k2.up g1 ha, k3⟩, h2, Chs.up ha h3 g2 he.2⟩
      cases x <;> first | exact k1 | (cases he.1; done)
    | _ =>
      first
        | (cases he.1; done)
        | (obtain ⟨v', r', e, g2⟩ := flat rfl
           cases e
           exact ⟨v, r, rfl, h1, h2, Chs.up ha h3 g2 he.2⟩)
theorem apart_of {A : Ad} {w : World} {own : List Blk} (ho : OwnOK A w own) : ∀ b k, w.heap.size ≤ k → A b ≠ some k := fun b k hk e => by
  have := ho.inn b k e
  omega
theorem flatW_ok {A : Ad} {w : World} {n : Nat} {x : W} {v : Value} (h : flatW x = true) (hx : x.out n w v) : x.rel A w v := by
  cases x with
  | s s =>
    cases s <;> first | (cases h; done) | exact sc_rel (A := A) (w := w) hx.2
  | agg cs =>
    obtain ⟨cells, rfl, h1, _, _⟩ := hx
    refine ⟨cells, rfl, ?_⟩
    have : ∀ {cs : List Ch} {l : List Value}, flatCs cs = true → ChsRel A0 w cs l → ChsRel A w cs l := by
      intro cs
      induction cs with
      | nil => intro l _ h; exact h
      | cons c cs ih =>
        intro l hf h
        cases c with
        | one s =>
          simp only [flatCs, Bool.and_eq_true] at hf
          obtain ⟨v, r, rfl, h1, h2, h3⟩ := h
          exact ⟨v, r, rfl, flatS_rel hf.1 h1, h2, ih hf.2 h3⟩
        | vec m x =>
          obtain ⟨a, r, rfl, h1, h2, h3⟩ := h
          cases x <;> first | exact ⟨a, r, rfl, h1, h2, ih hf h3⟩ | (cases hf; done)
    exact this h h1
theorem WsOut.flat {A : Ad} {w : World} {n : Nat} : ∀ {xs : List W} {l : List Value}, xs.all flatW = true → WsOut n w xs l → WsRel A w xs l
  | [], _, _, h => h
  | x :: xs, _, hf, h => by
    simp only [List.all_cons, Bool.and_eq_true] at hf
    obtain ⟨v, r, rfl, h1, h2⟩ := h
    exact ⟨v, r, rfl, flatW_ok hf.1 h1, WsOut.flat hf.2 h2⟩
theorem row_ok {A : Ad} {w w' : World} {own : List Blk} {f z : Nat} {len : I} {x : Vec} {v : Value} (h : RowNew w.heap.size w' z len x v) (hb : Below w.heap.size w w') (ho : OwnOK A w own) (hf : A f = none) :
    ∃ A', Keep A w A' w' ∧ OwnOK A' w' (putO own f (some [.vec (len.mul z) x])) ∧ (S.sl f 0 (.n 0) len z).rel A' w' v := by
  rcases h with ⟨rfl, h1, h2⟩ | ⟨blk, off, cap, arr, T, fz, cells, spare, rfl, h1, h2, h3, h4, h45, h5, h6, h7, h8, h9⟩
  · refine ⟨A, .below hb, own_none' (ho.below hb) hf (vec_mk (by rw [I.val_mul, h1]; simp) ?_), .inl ⟨rfl, h1⟩⟩
    cases x <;> simp only [Vec.rel] at h2 ⊢ <;> try exact h2
    exact ⟨h2.1, fun i x v _ h => by simp at h⟩
  · refine ⟨A1 A f blk, own_new_keep hf hb h2, own_new_ok ho hf hb h2 (heap_lt h3) ⟨arr, T, fz, cells, spare, h3, h5, h6, vec_mk (by rw [I.val_mul]; exact h7) (Vec.up h8 h9 ?_)⟩, .inr ⟨blk, off, cap, arr, T, fz, A1_self _ _ _, rfl, h1, h45.imp (fun e => by simp [I.val, e]) id, h3, h4⟩⟩
    intro b k hk e
    by_cases eb : b = f
    · subst eb; rw [A1_self] at e; cases e; exact hk.2 rfl
    · rw [A1_other _ _ _ _ eb] at e; exact apart_of ho b k hk.1 e
theorem impTup_ok {A : Ad} {w w' : World} {own : List Blk} {f : Nat} (hb : Below w.heap.size w w') (ho : OwnOK A w own) (hf : A f = none) : ∀ {l l' : List W} {u : U} {vs : List Value}, impTup l f = some (l', u) → WsOut w.heap.size w' l vs →
    ∃ A', Keep A w A' w' ∧ OwnOK A' w' (applyU own u) ∧ WsRel A' w' l' vs
  | [], l', u, vs, h, hx => by
    cases h
    exact ⟨A, .below hb, ho.below hb, hx⟩
  | x :: r, l', u, vs, h, hx => by
    have other : (match flatW x with
        | true => match impTup r f with
          | some (r, u) => some (x :: r, u)
          | none => none
        | false => impAgg x r) = some (l', u) → ∃ A', Keep A w A' w' ∧ OwnOK A' w' (applyU own u) ∧ WsRel A' w' l' vs := fun h => by
      obtain ⟨v, t, rfl, h1, h2⟩ := hx
      split at h
      · rename_i hfx
        split at h
        · rename_i r' u' hr
          cases h
          obtain ⟨A', k1, k2, k3⟩ := impTup_ok hb ho hf hr h2
          exact ⟨A', k1, k2, v, t, rfl, flatW_ok hfx h1, k3⟩
        · cases h
      · unfold impAgg at h
        split at h
        · split at h
          · rename_i hall he
            cases h
            obtain ⟨cells, rfl, g1, g2, g3⟩ := h1
            exact ⟨A, .below hb, ho.below hb, _, t, rfl, ⟨cells, rfl, Chs.up (apart_of ho) g1 g2 he⟩, WsOut.flat hall h2⟩
          · cases h
        · cases h
    cases x with
    | agg cs => exact other h
    | s y =>
      cases y with
      | xs z len y =>
        have h : (match r.all flatW with
          | true => some (W.s (.sl f 0 (.n 0) len z) :: r, [(f, some [Ch.vec (len.mul z) y])])
          | false => none) = some (l', u) := h
        obtain ⟨v, t, rfl, h1, h2⟩ := hx
        split at h
        · rename_i hall
          cases h
          obtain ⟨A', k1, k2, k3⟩ := row_ok h1 hb ho hf
          exact ⟨A', k1, k2, v, t, rfl, k3, WsOut.flat hall h2⟩
        · cases h
      | _ => exact other h
theorem imp_ok {A : Ad} {w w' : World} {own : List Blk} {f : Nat} {x v : V} {u : U} {xv : Value} (h : imp x f = some (v, u)) (hx : x.out w.heap.size w' xv) (hb : Below w.heap.size w w') (ho : OwnOK A w own) (hf : A f = none) :
    ∃ A', Keep A w A' w' ∧ OwnOK A' w' (applyU own u) ∧ v.rel A' w' xv := by
  unfold imp at h
  split at h
  · cases h
    exact row_ok hx hb ho hf
  · split at h
    · rename_i hfl
      cases h
      exact ⟨A, .below hb, ho.below hb, flatW_ok (x := .s _) hfl hx⟩
    · cases h
  · split at h
    · rename_i he
      cases h
      obtain ⟨cells, rfl, g1, g2, g3⟩ := hx
      exact ⟨A, .below hb, ho.below hb, cells, rfl, Chs.up (apart_of ho) g1 g2 he⟩
    · cases h
  · split at h
    · rename_i l' u' hl
      cases h
      obtain ⟨vs, rfl, h2⟩ := hx
      obtain ⟨A', k1, k2, k3⟩ := impTup_ok hb ho hf hl h2
      exact ⟨A', k1, k2, vs, rfl, k3⟩
    · cases h
end Go.Eng
/- Methods by contract: the receiver's block is changed, all else stands. -/
namespace Go.Eng
open Go Go.RowKit

theorem flatVec_rel {A A' : Ad} {w w' : World} {v : Vec} {l : List Value} (h : ∀ x, v ≠ .sl x) (hv : v.rel A w l) : v.rel A' w' l := by
  cases v with
  | sl x => exact absurd rfl (h x)
  | _ => exact hv
theorem flatCs_rel {A A' : Ad} {w w' : World} : ∀ {cs : List Ch} {l : List Value}, flatCs cs = true → ChsRel A w cs l → ChsRel A' w' cs l
  | [], _, _, h => h
  | .one s :: r, _, hf, h => by
    unfold flatCs at hf
    simp only [Bool.and_eq_true] at hf
    obtain ⟨v, t, h1, h2, h3, h4⟩ := h
    exact ⟨v, t, h1, flatS_rel hf.1 h2, h3, flatCs_rel hf.2 h4⟩
  | .vec n x :: r, _, hf, h => by
    obtain ⟨a, t, h1, h2, h3, h4⟩ := h
    have hx : (∀ y, x ≠ .sl y) ∧ flatCs r = true := by
      cases x with
      | sl y => cases hf
      | _ => exact ⟨fun y e => (by cases e), hf⟩
    exact ⟨a, t, h1, h2, flatVec_rel hx.1 h3, flatCs_rel hx.2 h4⟩
theorem flatW_rel {A A' : Ad} {w w' : World} {x : W} {v : Value} (hf : flatW x = true) (h : x.rel A w v) : x.rel A' w' v := by
  cases x with
  | s x => exact flatS_rel hf h
  | agg cs =>
    obtain ⟨cells, h1, h2⟩ := h
    exact ⟨cells, h1, flatCs_rel hf h2⟩
theorem flatV_rel {A A' : Ad} {w w' : World} (x : W) {v : Value} (hf : flatW x = true) (h : (V.w x).rel A w v) : (V.w x).rel A' w' v := flatW_rel hf h
def NotAt (a : Nat) (v : Value) : Prop := ∀ blk off len cap, v = .slice (some ⟨blk, off, none⟩) len cap → blk ≠ a ∨ (len = 0 ∧ cap = 0)
theorem sc_notAt {x : S} {v : Value} {a : Nat} (h : x.sc v) : NotAt a v := by
  intro blk off len cap e
  subst e
  cases x <;> simp only [S.sc] at h <;> first | (exact h.elim) | (cases h)
theorem flatW_notAt {A : Ad} {w : World} {x : W} {v : Value} {a : Nat} (hf : flatW x = true) (h : x.rel A w v) : NotAt a v := by
  cases x with
  | s x => exact sc_notAt (flatS_sc hf h)
  | agg cs =>
    obtain ⟨cells, h1, h2⟩ := h
    intro blk off len cap e
    rw [h1] at e; cases e
theorem sl_live {P : Program} {own : List Blk} {T : TypeId} {k o z : Nat} {i len : I} {p : List Prop} {y : V} (h : purV P own T (.w (.s (.sl k o i len z))) = some (p, y)) : ∃ cs, getO own k = some cs := by
  cases hk : getO own k with
  | some cs => exact ⟨cs, rfl⟩
  | none =>
    exfalso
    have e : srcOf (.sl k o i len z) own z = none := by
      unfold srcOf
      split
      · unfold srcOf0; simp only [hk]
      · rfl
    unfold purV at h
    simp only [] at h
    unfold purS purS0 at h
    cases hz : Nat.blt 0 z <;> simp only [hz, e] at h <;> cases h
theorem offB_notAt {P : Program} {A : Ad} {w : World} {own : List Blk} {T : TypeId} {b a : Nat} {x y : V} {p : List Prop} {v : Value} {cs : List Ch} (h : offB b x = true) (hy : purV P own T x = some (p, y)) (ho : OwnOK A w own) (hb : getO own b = some cs) (ha : A b = some a) (hx : x.rel A w v) : NotAt a v := by
  have fl : ∀ z : W, flatW z = true → (V.w z).rel A w v → NotAt a v := fun z hz hr => flatW_notAt hz hr
  cases x with
  | tup l => cases h
  | w x =>
    cases x with
    | agg c =>
      obtain ⟨cells, h1, _⟩ : (W.agg c).rel A w v := hx
      intro blk off n cap e
      rw [h1] at e; cases e
    | s s =>
      cases s with
      | sl k o i len z =>
        intro blk off n cap e
        refine .inl fun hba => ?_
        subst hba
        have hx : (S.sl k o i len z).rel A w v := hx
        rcases hx with ⟨h1, _⟩ | ⟨c, off', cap', arr, T', fz, h1, h2, _⟩
        · rw [h1] at e; cases e
        · rw [h2] at e
          cases e
          obtain ⟨ck, hk⟩ := sl_live hy
          have := ho.dist k b blk ck cs (getO_some hk) (getO_some hb) h1 ha
          subst this
          have h : (!Nat.beq k k) = true := h
          rw [Nat.beq_refl] at h
          cases h
      | nil =>
        intro blk off n cap e
        have hx : v = .slice none 0 0 := hx
        rw [hx] at e; cases e
      | xs z len x =>
        intro blk off n cap e
        obtain ⟨_, cl, _, hX, _⟩ : (S.xs z len x).rel A w v := hx
        rcases hX with ⟨⟨a0, h1⟩, _⟩ | ⟨blk', off', n', cap', arr, T', fz, h1, _, _, h4, _⟩
        · rw [h1] at e; cases e; exact .inr ⟨rfl, rfl⟩
        · rw [h1] at e
          cases e
          exact .inl fun hba => h4 b (hba ▸ ha)
      | _ =>
        refine fl _ ?_ hx
        exact h
theorem wkCs_rel {A A' : Ad} {w w' : World} : ∀ {cs : List Ch} {l : List Value}, noSl cs = true → ChsRel A w cs l → ChsRel A' w' (wkCs cs) l
  | [], _, _, h => h
  | .one s :: r, _, hf, h => by
    obtain ⟨v, t, h1, h2, h3, h4⟩ := h
    refine ⟨v, t, h1, ?_, h3, wkCs_rel (cs := r) hf h4⟩
    unfold wkS
    cases hs : flatS s with
    | true => exact flatS_rel hs h2
    | false => trivial
  | .vec n x :: r, _, hf, h => by
    obtain ⟨a, t, h1, h2, h3, h4⟩ := h
    have hx : (∀ y, x ≠ .sl y) ∧ noSl r = true := by
      cases x with
      | sl y => cases hf
      | _ => exact ⟨fun y e => (by cases e), hf⟩
    exact ⟨a, t, h1, h2, flatVec_rel hx.1 h3, wkCs_rel hx.2 h4⟩
theorem offB_ok {P : Program} {A : Ad} {w : World} {own : List Blk} {T : TypeId} {b a : Nat} {x y : V} {p : List Prop} {v : Value} {cs : List Ch} (h : offB b x = true) (hy : purV P own T x = some (p, y)) (hf : flatY y = true) (hp : all p) (ho : OwnOK A w own) (hb : getO own b = some cs) (ha : A b = some a) (hx : x.rel A w v) : (wkV y).rel (AOne a) w v := by
  have hn := offB_notAt h hy ho hb ha hx
  have h0 := purV_ok hy hp ho hx
  cases y with
  | tup l => cases hf
  | w y =>
    cases y with
    | agg c =>
      obtain ⟨cells, h1, h2⟩ : (W.agg c).rel A0 w v := h0
      exact ⟨cells, h1, wkCs_rel hf h2⟩
    | s s =>
      cases s with
      | xs z len x =>
        obtain ⟨hz, cl, h1, h2, h3⟩ : (S.xs z len x).rel A0 w v := h0
        refine ⟨hz, cl, ?_, ?_, h3⟩
        · refine flatVec_rel (fun l e => ?_) h1
          subst e; cases hf
        · rcases h2 with h2 | ⟨blk, off, n, cap, arr, T', fz, g1, g2, g3, _, g5, g6⟩
          · exact .inl h2
          · rcases hn _ _ _ _ g1 with hne | ⟨e1, e2⟩
            · refine .inr ⟨blk, off, n, cap, arr, T', fz, g1, g2, g3, fun b' hb' => ?_, g5, g6⟩
              unfold AOne at hb'
              split at hb'
              · cases hb'; exact hne rfl
              · cases hb'
            · subst e1 e2
              rw [Nat.zero_mul] at g3
              exact .inl ⟨⟨_, g1⟩, List.length_eq_zero_iff.1 g3.symm⟩
      | _ =>
        refine flatV_rel _ ?_ h0
        exact hf
theorem offL_ok {P : Program} {A : Ad} {w : World} {own : List Blk} {b a : Nat} {cs : List Ch} (ho : OwnOK A w own) (hb : getO own b = some cs) (ha : A b = some a) : ∀ {Ts : List TypeId} {xs ys : List V} {p : List Prop} {l : List Value}, allV (offB b) xs = true → purL P own Ts xs = some (p, ys) → allV flatY ys = true → all p → VsRel A w xs l → VsRel (AOne a) w (wkL ys) l
  | [], [], _, _, _, _, h, _, _, hx => by cases h; exact hx
  | [], _ :: _, _, _, _, _, h, _, _, _ => by cases h
  | _ :: _, [], _, _, _, _, h, _, _, _ => by cases h
  | T :: Ts, x :: xs, ys, p, l, ho1, h, hf, hp, hx => by
    unfold purL at h
    split at h
    · cases h
    · rename_i q y hq
      split at h
      · cases h
      · rename_i q2 ys2 hq2
        cases h
        obtain ⟨v, r, rfl, g1, g2⟩ := hx
        unfold allV at ho1 hf
        split at ho1
        · rename_i o1
          split at hf
          · rename_i f1
            exact ⟨v, r, rfl, offB_ok o1 hq f1 (fun p hp' => hp p (List.mem_append_left _ hp')) ho hb ha g1, offL_ok ho hb ha ho1 hq2 hf (fun p hp' => hp p (List.mem_append_right _ hp')) g2⟩
          · cases hf
        · cases ho1
theorem rok_nm {cs : List Ch} (h : rokCs (viewCs cs) = true) : isM cs = false := by
  unfold isM
  split
  · exfalso
    simp [viewCs, rokCs, flatCs, flatS] at h
  · rfl
theorem view_rel {A : Ad} {w : World} {cs : List Ch} {l : List Value} (h : ChsRel A w cs l) : ChsRel A w (viewCs cs) l := by
  unfold viewCs
  split
  · obtain ⟨v, r, h1, h2, h3, h4⟩ := h
    exact ⟨v, r, h1, opn_rel (s := .row _ _ _) h2, h3, h4⟩
  · exact h
theorem rok_rel {A : Ad} {w : World} {b a : Nat} (ha : A b = some a) {cs : List Ch} {l : List Value} (hf : rokCs cs = true) (h : ChsRel A w cs l) : ChsRel (AOne a) w cs l := by
  unfold rokCs at hf
  split at hf
  · obtain ⟨v, r, h1, h2, h3, h4⟩ := h
    refine ⟨v, r, h1, ?_, h3, flatCs_rel hf h4⟩
    obtain ⟨hz, cl, g1, g2, g3⟩ := h2
    refine ⟨hz, cl, g1, ?_, g3⟩
    rcases g2 with g2 | ⟨blk, off, n, cap, arr, T, fz, q1, q2, q3, q4, q5⟩
    · exact .inl g2
    · refine .inr ⟨blk, off, n, cap, arr, T, fz, q1, q2, q3, fun b' hb' => ?_, q5⟩
      unfold AOne at hb'
      split at hb'
      · cases hb'; exact q4 _ ha
      · cases hb'
  · exact flatCs_rel hf h
theorem hd_rel {A : Ad} {w : World} {cs : List Ch} {l : List Value} (h : ChsRel A w cs l) : ChsRel A w (hdCs cs) (l.take (hdCs cs).length) := by
  unfold hdCs
  split
  · obtain ⟨v, r, rfl, h2, h3, h4⟩ := h
    exact ⟨v, [], rfl, h2, h3, rfl⟩
  · obtain ⟨v, r, rfl, h2, h3, h4⟩ := h
    exact ⟨v, [], rfl, h2, h3, rfl⟩
  · rfl
theorem hd_view (cs : List Ch) : (hdCs (viewCs cs)).length = (hdCs cs).length := by
  unfold viewCs
  split
  · rfl
  · rfl
theorem meth_ok {E : Env} {f : FuncId} {g0 : SpecM} (hM : E.M f = some g0) (hC : ConM E.P f g0) {args : List V} {ts : List TypeId} {own : List Blk} {k : Nat} {p : List Prop} {v : V} {u : U} (h : drMeth E f args ts own k = some (p, v, u)) (hp : all p)
    {A : Ad} {w : World} (ho : OwnOK A w own) (hF : A k = none) {vals : List Value} (hv : VsRel A w args vals) :
    Calls E.P f vals.toArray w fun e w' => ∃ x A', e = .returned x ∧ Keep A w A' w' ∧ OwnOK A' w' (applyU own u) ∧ v.rel A' w' x := by
  unfold drMeth at h
  rw [hM] at h
  simp only [] at h
  split at h
  · rename_i b o r T rt
    split at h
    · cases h
    rename_i cs hb
    split at h
    · rename_i ps r' hfl hof hpu
      split at h
      · rename_i qs res cs' hfy hg
        split at h
        · rename_i v' u' hfc himp
          cases h
          have hps : all ps := fun q hq => hp q (List.mem_append_left _ hq)
          have hqs : all qs := fun q hq => hp q (List.mem_append_right _ hq)
          obtain ⟨pv, rv, rfl, ⟨a, ha, rfl⟩, hr⟩ := hv
          obtain ⟨arr, Ty, fz, cells, spare, c1, c2, c3, c4⟩ := ho.at (getO_some hb) ha (rok_nm hfl)
          have hargs := offL_ok ho hb ha hof hpu hfy hps hr
          refine (hC (viewCs cs) o (wkL r') qs res cs' hg hqs hfl hfc w a arr Ty fz cells spare rv c1 c2 c3 (rok_rel ha hfl (view_rel c4)) hargs).mono fun e w' ⟨x, arr', T', fz', cells', spare', he, s1, s2, s3, s4, s5, s6⟩ => ?_
          have k1 : Keep A w A (setArr w a arr' T' fz') := own_set_keep ha c1 s1
          rw [hd_view] at s3
          have o1 : OwnOK A (setArr w a arr' T' fz') (putO own b (some (hdCs cs ++ cs'))) := own_set_ok ho (getO_some hb) ha c1 s1 s2 s3 ((hd_rel c4).append (flatCs_rel hfc s4))
          obtain ⟨A', q1, q2, q3⟩ := imp_ok (w := setArr w a arr' T' fz') (w' := w') himp (by rw [setArr_size]; exact s6) (by rw [setArr_size]; exact s5) o1 hF
          exact ⟨x, A', he, k1.trans q1, q2, q3⟩
        · cases h
      · cases h
    · cases h
  · cases h
end Go.Eng
/- Maps of our own: what the model does with them. -/
namespace Go.Eng
open Go Go.RowKit

theorem mpOf_some {own : List Blk} {b : Nat} {l : List UInt64} (h : mpOf own b = some l) : own[b]? = some (some [.one (.mpc l)]) := by
  unfold mpOf at h
  split at h
  · rename_i hg
    cases h
    exact getO_some hg
  · cases h
theorem run_zeroF {P : Program} {w : World} {T : TypeId} (h : zeroF P T = true) : (zeroValue T).run P w = .ok (.bool false) w := by
  unfold zeroF at h
  split at h
  · rename_i i hi
    split at h
    · rename_i hz
      unfold zeroValue
      rw [Sem.run_bind, run_typeInfo hi]
      simp only [hz]
      rfl
    · cases h
  · cases h
theorem eu64_inj {x y : UInt64} (h : eu64 x = eu64 y) : x = y := by
  unfold eu64 at h
  have : (x.toNat : Int) = (y.toNat : Int) := by injection h
  exact UInt64.toNat_inj.1 (by omega)
theorem mp_keys {es : Array MapEntry} {l : List UInt64} (h : es.toList.map (fun e => (e.key, e.val)) = l.map fun k => (eu64 k, Value.bool true)) : ∀ e ∈ es.toList, ∃ k ∈ l, e.key = eu64 k ∧ e.val = .bool true := by
  intro e he
  have : (e.key, e.val) ∈ es.toList.map (fun e => (e.key, e.val)) := List.mem_map.2 ⟨e, he, rfl⟩
  rw [h] at this
  obtain ⟨k, hk, e2⟩ := List.mem_map.1 this
  injection e2 with e3 e4
  exact ⟨k, hk, e3.symm, e4.symm⟩
theorem mp_find {es : Array MapEntry} {l : List UInt64} {x : UInt64} (h : es.toList.map (fun e => (e.key, e.val)) = l.map fun k => (eu64 k, Value.bool true)) :
    (l.contains x = false ∧ Instr.findNow (.int .u64) (eu64 x) es.toList 0 = some none) ∨ ∃ j e, l.contains x = true ∧ Instr.findNow (.int .u64) (eu64 x) es.toList 0 = some (some (j, .bool true)) ∧ es[j]? = some e ∧ e.key = eu64 x ∧ e.val = .bool true := by
  have hk := mp_keys h
  have isk : ∀ e ∈ es.toList, MapKept.IsKey (.int .u64) e.key := fun e he => by
    obtain ⟨k, _, e1, _⟩ := hk e he
    rw [e1]; rfl
  rcases MapKept.findNow_spec (d := .int .u64) (k := eu64 x) rfl es.toList 0 isk with ⟨h1, h2⟩ | ⟨j, e, h1, h2, h3⟩
  · refine .inl ⟨?_, h1⟩
    cases hc : l.contains x with
    | false => rfl
    | true =>
      exfalso
      have hm : x ∈ l := by simpa using hc
      have : (eu64 x, Value.bool true) ∈ l.map fun k => (eu64 k, Value.bool true) := List.mem_map.2 ⟨x, hm, rfl⟩
      rw [← h] at this
      obtain ⟨e, he, e2⟩ := List.mem_map.1 this
      injection e2 with e3 e4
      exact h2 e he e3
  · have he : e ∈ es.toList := List.mem_of_getElem? h2
    obtain ⟨k, hkl, e1, e2⟩ := hk e he
    have : k = x := eu64_inj (e1.symm.trans h3)
    subst this
    refine .inr ⟨j, e, by simpa using hkl, ?_, by simpa using h2, h3, e2⟩
    rw [h1, e2, Nat.zero_add]
theorem own_map_ok {A : Ad} {w : World} {own : List Blk} {b a : Nat} {l l' : List UInt64} {es es' : Array MapEntry} {clk clk' : Nat} (h : OwnOK A w own) (hb : own[b]? = some (some [.one (.mpc l)])) (hA : A b = some a) (hw : w.heap[a]? = some (.map es clk))
    (hr : es'.toList.map (fun e => (e.key, e.val)) = l'.map fun k => (eu64 k, Value.bool true)) :
    Keep A w A { w with heap := w.heap.setIfInBounds a (.map es' clk') } ∧ OwnOK A { w with heap := w.heap.setIfInBounds a (.map es' clk') } (putO own b (some [.one (.mpc l')])) := by
  obtain ⟨s1, s2⟩ := MapKept.heap_set (w := w) (r := a) (o' := .map es' clk') hw
  have hk : Keep A w A { w with heap := w.heap.setIfInBounds a (.map es' clk') } :=
    { pre := fun _ _ h => h
      new := fun b x h => .inl ⟨b, h⟩
      old := fun k hk hn => s2 k fun e => hn b (e ▸ hA)
      sz := fun k arr T fz hk => by
        have e : k ≠ a := fun e => by subst e; rw [hw] at hk; cases hk
        exact ⟨arr, T, fz, by show (w.heap.setIfInBounds a _)[k]? = _; rw [s2 k e]; exact hk, rfl⟩
      size := by show _ ≤ (w.heap.setIfInBounds a _).size; simp
      os := rfl
      tape := rfl
      output := rfl }
  refine ⟨hk, ?_⟩
  have live : ∀ (i : Nat) (ci : List Ch), (putO own b (some [.one (.mpc l')]))[i]? = some (some ci) → ∃ c, own[i]? = some (some c) := fun i ci hi => by
    by_cases e : i = b
    · exact ⟨_, e ▸ hb⟩
    · exact ⟨ci, putO_live e hi⟩
  refine ⟨fun c x hx => ?_, fun c x hx => ?_, fun i j x ci cj hi hj hx hy => ?_, fun i c hi => ?_⟩
  · show x < (w.heap.setIfInBounds a _).size
    simp only [Array.size_setIfInBounds]; exact h.inn c x hx
  · rw [putO_length]; have := h.dom c x hx; omega
  · obtain ⟨c1, h1⟩ := live i ci hi
    obtain ⟨c2, h2⟩ := live j cj hj
    exact h.dist i j x c1 c2 h1 h2 hx hy
  · by_cases e : i = b
    · subst e
      rw [putO_self] at hi
      cases hi
      exact .inl ⟨a, hA, .inr ⟨l', rfl, es', clk', s1, hr⟩⟩
    · have hi' := putO_live e hi
      rcases h.blk i c hi' with ⟨x, h1, h2⟩ | ⟨h1, h2⟩
      · refine .inl ⟨x, h1, h2.keep hk (s2 x fun e2 => e ?_)⟩
        subst e2
        exact h.dist i b x c _ hi' hb h1 hA
      · exact .inr ⟨h1, hk.chs h2⟩
theorem mop_ok {P : Program} {A : Ad} {w : World} {fr : List V} {own : List Blk} {f : Nat} {o : Oper} {a : Act} {p : List Prop} {v : V} {u : U} (h : mop P o.op fr own f = some (some (p, v, u))) (hfr : FrRel A w fr a.tmps) (ho : OwnOK A w own) (hf : A f = none) :
    ExOk P A w o a (applyU own u) v := by
  have evalS : ∀ x, (evS fr x).rel A w (a.eval x) := fun x => hfr.evS x
  obtain ⟨dst, op, type, pos, after, guard⟩ := o
  simp only [] at h
  unfold mop at h
  split at h
  · cases h
    have hb : Below w.heap.size w (w.alloc (.map #[] 0)) := (Below.refl _ _).alloc (Nat.le_refl _) _
    have hs : (w.alloc (.map #[] 0)).heap.size = w.heap.size + 1 := by show (w.heap.push _).size = _; simp
    refine ⟨A1 A f w.heap.size, w.alloc (.map #[] 0), own_new_keep hf hb (Nat.le_refl _), own_newB_ok ho hf hb (Nat.le_refl _) (by omega) (.inr ⟨[], rfl, #[], 0, (MapKept.heap_alloc w _).1, rfl⟩), .inl ⟨.map (some w.heap.size), rfl, w.heap.size, A1_self _ _ _, rfl⟩⟩
  · rename_i T m k
    split at h
    · rename_i kt et hT
      split at h
      · rename_i b x hkt hz hm hk
        split at h
        · rename_i l hl
          cases h
          have h1 := evalS m
          have h2 := evalS k
          rw [hm] at h1
          rw [hk] at h2
          obtain ⟨r, hr, e1⟩ := h1
          have e2 : a.eval k = eu64 x := h2
          obtain ⟨es, clk, g1, g2⟩ := ho.atM (mpOf_some hl) hr
          have hkey : MapKept.IsKey (.int .u64) (eu64 x) := rfl
          refine ⟨A, w, .refl _ _, ho, .inl ⟨.bool (l.contains x), ?_, rfl⟩⟩
          show (do pure (Next.value (← Instr.lookup T (a.eval m) (a.eval k) false)) : Sem Next).run P w = _
          rw [e1, e2]
          rcases mp_find (x := x) g2 with ⟨hc, hn⟩ | ⟨j, e, hc, hn, _⟩
          · rw [hc]
            simp [Instr.lookup, run_underlying hT, MapKept.run_getObj_map g1, MapKept.run_checkKey hkt hkey, MapKept.run_findKey hkt hn, run_zeroF hz, Result.andThen]
          · rw [hc]
            simp [Instr.lookup, run_underlying hT, MapKept.run_getObj_map g1, MapKept.run_checkKey hkt hkey, MapKept.run_findKey hkt hn, Result.andThen]
        · cases h
      · cases h
    · cases h
  · rename_i T m k y
    split at h
    · rename_i kt et hT
      split at h
      · rename_i b x hkt hm hk hy
        split at h
        · rename_i l hl
          cases h
          have h1 := evalS m
          have h2 := evalS k
          have h3 := evalS y
          rw [hm] at h1
          rw [hk] at h2
          rw [hy] at h3
          obtain ⟨r, hr, e1⟩ := h1
          have e2 : a.eval k = eu64 x := h2
          have e3 : a.eval y = .bool true := h3
          have hl' := mpOf_some hl
          obtain ⟨es, clk, g1, g2⟩ := ho.atM hl' hr
          have hkey : MapKept.IsKey (.int .u64) (eu64 x) := rfl
          rcases mp_find (x := x) g2 with ⟨hc, hn⟩ | ⟨j, e, hc, hn, hj, he, hv⟩
          · rw [hc]
            obtain ⟨q1, q2⟩ := own_map_ok (l' := l ++ [x]) (es' := es.push { key := eu64 x, val := .bool true, born := clk }) (clk' := clk + 1) ho hl' hr g1 (by simp [g2])
            refine ⟨A, _, q1, q2, .inr ⟨?_, rfl⟩⟩
            show (do Instr.mapUpdate T (a.eval m) (a.eval k) (a.eval y); pure Next.skip : Sem Next).run P w = _
            rw [e1, e2, e3]
            simp [Instr.mapUpdate, run_underlying hT, MapKept.run_getObj_map g1, MapKept.run_checkKey hkt hkey, MapKept.run_findKey hkt hn, MapKept.run_setObj_map _ g1, Result.andThen]
          · rw [hc]
            obtain ⟨q1, q2⟩ := own_map_ok (l' := l) (es' := es.modify j fun e => { e with key := eu64 x, val := .bool true }) (clk' := clk) ho hl' hr g1 (by
              rw [← g2]
              apply List.ext_getElem?
              intro i
              simp only [List.getElem?_map, Array.getElem?_toList, Array.getElem?_modify]
              by_cases hij : j = i
              · subst hij
                rw [hj]
                simp [he, hv]
              · simp [hij])
            refine ⟨A, _, q1, q2, .inr ⟨?_, rfl⟩⟩
            show (do Instr.mapUpdate T (a.eval m) (a.eval k) (a.eval y); pure Next.skip : Sem Next).run P w = _
            rw [e1, e2, e3]
            simp [Instr.mapUpdate, run_underlying hT, MapKept.run_getObj_map g1, MapKept.run_checkKey hkt hkey, MapKept.run_findKey hkt hn, hj, he, MapKept.run_keyThatStays hkey, MapKept.run_setObj_map _ g1, Result.andThen]
        · cases h
      · cases h
    · cases h
  · rename_i c
    obtain ⟨callee, args, argTypes⟩ := c
    simp only [] at h
    split at h
    · rename_i bi hbi
      split at h
      · rename_i x T hargs hT0
        have hargs : args = #[x] := Array.ext' (by simpa using hargs)
        subst hargs
        split at h
        · rename_i b hx
          split at h
          · rename_i l hT hl
            cases h
            have h1 := evalS x
            rw [hx] at h1
            obtain ⟨r, hr, e1⟩ := h1
            obtain ⟨es, clk, g1, g2⟩ := ho.atM (mpOf_some hl) hr
            have hsz : es.size = l.length := by
              have := congrArg List.length g2
              simpa using this
            refine ⟨A, w, .refl _ _, ho, .inl ⟨goInt es.size, ?_, ?_⟩⟩
            · show (do pure (Next.value (← Builtin.len_ argTypes type (Array.map a.eval #[x]))) : Sem Next).run P w = _
              simp [Builtin.len_, hT0, e1, run_underlying hT, MapKept.run_getObj_map g1, Result.andThen]
            · rw [hsz]; rfl
          · cases h
        · cases h
      · cases h
    · cases h
  · cases h
theorem aopM_ok {P : Program} {A : Ad} {w : World} {fr : List V} {own : List Blk} {f : Nat} {o : Oper} {a : Act} {p : List Prop} {v : V} {u : U} (h : aopM P o.op fr own f = some (p, v, u)) (hp : all p) (hfr : FrRel A w fr a.tmps) (ho : OwnOK A w own) (hf : A f = none) :
    ExOk P A w o a (applyU own u) v := by
  unfold aopM at h
  split at h
  · rename_i r hr
    subst h
    exact mop_ok hr hfr ho hf
  · exact aop_ok h hp hfr ho hf
end Go.Eng
/- The conditions are enough: calls and operations. -/
namespace Go.Eng
open Go Go.RowKit

def VcOk (E : Env) (v : VC) : Prop :=
  ∀ (c : Code) (σ : St) (Q : Exit → St → Prop) (pre : Ad) (L : Nat) (wb : World) (a : Act) (w : World), v c σ Q → Gst pre L wb σ a w → c.wp E.P (fun e a w => ∃ σ, Q e σ ∧ Gst pre L wb σ a w) a w
def ConX (P : Program) (f : FuncId) (g : SpecF) : Prop :=
  ∀ args ps res, g args = some (ps, res) → all ps → ∀ (w : World) (vals : List Value), VsRel (fun _ => none) w args vals →
    ∃ x, (callFunc f vals.toArray).run P w = .ok (.value x) w ∧ ∀ A, res.rel A w x
structure EnvOk (E : Env) : Prop where
  con : ∀ f g, E.G f = some g → Con E.P f g
  ext : ∀ f g, E.X f = some g → ConX E.P f g
  meth : ∀ f g, E.M f = some g → ConM E.P f g
  hcon : ∀ f g, E.H f = some g → ConH E.P f g
  names : NamesOK E.P
  mixed : E.P.follows .mixedOrders = true

theorem OwnOK.fresh {A : Ad} {w : World} {own : List Blk} (h : OwnOK A w own) : A own.length = none := by
  cases hA : A own.length with
  | none => rfl
  | some x => have := h.dom _ _ hA; omega

theorem applyU_len : ∀ (u : U) (own : List Blk), own.length ≤ (applyU own u).length
  | [], _ => Nat.le_refl _
  | x :: r, own => by
    have h := applyU_len r (putO own x.1 x.2)
    rw [putO_length] at h
    exact Nat.le_trans (Nat.le_max_left _ _) h
def CallPost (A : Ad) (n : Nat) (w : World) (K : V → List Blk → Prop) (e : Ending) (w' : World) : Prop :=
  ∃ x v own' A', e = .returned x ∧ K v own' ∧ n ≤ own'.length ∧ Keep A w A' w' ∧ OwnOK A' w' own' ∧ v.rel A' w' x
theorem vcCall_ok {E : Env} (hE : EnvOk E) {ih : VC} (hih : VcOk E ih) {f : FuncId} {args : List V} {ts : List TypeId} {own : List Blk} {K : V → List Blk → Prop} (h : vcCall E ih f args ts own K)
    {A : Ad} {w : World} (ho : OwnOK A w own) {vals : List Value} (hv : VsRel A w args vals) :
    (∃ fn c, E.P.funcs[f]? = some fn ∧ fn.body = some c) ∧ Calls E.P f vals.toArray w (CallPost A own.length w K) := by
  unfold vcCall at h
  split at h
  · exact h.elim
  rename_i fn hf
  split at h
  · exact h.elim
  rename_i body hb
  refine ⟨⟨fn, body, hf, hb⟩, ?_⟩
  split at h
  · rename_i g hg
    split at h
    · exact h.elim
    rename_i ps args' hpur
    split at h
    · exact h.elim
    rename_i qs res hres
    split at h
    · exact h.elim
    rename_i v u himp
    obtain ⟨hps, h⟩ := conj_iff.1 h
    obtain ⟨hqs, h⟩ := conj_iff.1 h
    have h := gen2_elim h
    rw [frcU_eq, frcL_eq] at h
    refine (hE.con f g hg args' qs res hres hqs w vals (purL_ok ho hpur hps hv)).mono fun e w' ⟨x, he, hbl, hx⟩ => ?_
    obtain ⟨A', k1, k2, k3⟩ := imp_ok himp hx hbl ho ho.fresh
    exact ⟨x, v, _, A', he, h, applyU_len _ _, k1, k2, k3⟩
  · split at h
    · rename_i g hg
      split at h
      · exact h.elim
      rename_i ps args' hpur
      split at h
      · exact h.elim
      rename_i qs H hres
      obtain ⟨hps, h⟩ := conj_iff.1 h
      obtain ⟨hqs, h⟩ := conj_iff.1 h
      refine (hE.hcon f g hg args' qs H hres hqs w vals (purL_ok ho hpur hps hv)).mono fun e w' ⟨x, a, he, ha, hbl, hx⟩ => ?_
      have h := h a ha
      split at h
      · exact h.elim
      rename_i v u himp
      have h := gen2_elim h
      rw [frcU_eq, frcL_eq] at h
      obtain ⟨A', k1, k2, k3⟩ := imp_ok himp hx hbl ho ho.fresh
      exact ⟨x, v, _, A', he, h, applyU_len _ _, k1, k2, k3⟩
    split at h
    · rename_i g0 hM
      split at h
      · exact h.elim
      · rename_i p v u hm
        obtain ⟨hp, h⟩ := conj_iff.1 h
        have h := gen2_elim h
        rw [frcU_eq, frcL_eq] at h
        refine (meth_ok hM (hE.meth f g0 hM) hm hp ho ho.fresh hv).mono fun e w' ⟨x, A', he, k1, k2, k3⟩ => ?_
        exact ⟨x, v, _, A', he, h, applyU_len _ _, k1, k2, k3⟩
    refine calls_of_wp hf hb (wp_mono (hih body _ _ A own.length w _ w h ⟨A, ho.dom, Nat.le_refl _, .refl A w, ho, ?_, rfl⟩) ?_)
    · exact enter_fr (n := fn.ntmps) hv
    · intro e a' w' ⟨σ, hQ, A', _, hL, hk, hoo, hfr, hd⟩
      cases e with
      | normal =>
        simp only [] at hQ
        split at hQ
        · rename_i v hv
          obtain ⟨x, h1, h2⟩ := resOf_ok hv hfr hoo
          exact ⟨hd, x, h1, x, v, _, A', rfl, hQ, hL, hk, hoo, h2⟩
        · exact hQ.elim
      | ret =>
        simp only [] at hQ
        split at hQ
        · rename_i v hv
          obtain ⟨x, h1, h2⟩ := resOf_ok hv hfr hoo
          exact ⟨hd, x, h1, x, v, _, A', rfl, hQ, hL, hk, hoo, h2⟩
        · exact hQ.elim
      | _ => exact hQ.elim

theorem run_callFunc {P : Program} (hN : NamesOK P) {f : FuncId} {fn : Func} {c : Code} (hf : P.funcs[f]? = some fn) (hb : fn.body = some c) (args : Array Value) (w : World) :
    (callFunc f args).run P w = .ok (.enter f args) w := by
  have h1 : ¬ fn.name = "runtime.NumGoroutine" := by simpa using hN f fn hf
  simp [callFunc, hf, h1, hb]
theorem evs_rel {A : Ad} {w : World} {fr : List V} {a : Act} (h : FrRel A w fr a.tmps) : ∀ xs : List Operand, VsRel A w (evs fr xs) (xs.map a.eval)
  | [] => rfl
  | x :: r => ⟨_, _, rfl, h.ev x, evs_rel h r⟩
theorem calleeOf_ok {A : Ad} {w : World} {fr : List V} {a : Act} {c : Callee} {f : FuncId} (h : calleeOf fr c = some f) (hfr : FrRel A w fr a.tmps) : ∃ x, c = .value x ∧ a.eval x = .func (.func f) #[] #[] := by
  unfold calleeOf at h
  split at h
  · rename_i x
    split at h
    · rename_i g p q hev
      split at h
      · rename_i h1 h2
        cases h
        have hx := hfr.ev x
        rw [hev] at hx
        have hx : a.eval x = .func (.func _) p q := hx
        refine ⟨x, rfl, ?_⟩
        rw [hx, Array.toList_eq_nil_iff.1 h1, Array.toList_eq_nil_iff.1 h2]
      · cases h
    · cases h
  · cases h

theorem cloOf_ok {A : Ad} {w : World} {fr : List V} {a : Act} {c : Callee} {f k m : Nat} (h : cloOf fr c = some (f, k, m)) (hfr : FrRel A w fr a.tmps) :
    ∃ x b, c = .value x ∧ A k = some b ∧ a.eval x = .func (.func f) #[] #[.pointer (some ⟨b, m, none⟩)] := by
  unfold cloOf at h
  split at h
  · rename_i x
    split at h
    · rename_i hev
      cases h
      have hx := hfr.ev x
      rw [hev] at hx
      obtain ⟨b, h1, h2⟩ : (S.clo f k m).rel A w (a.eval x) := hx
      exact ⟨x, b, rfl, h1, h2⟩
    · cases h
  · cases h
theorem VsRel.snoc {A : Ad} {w : World} : ∀ {xs : List V} {l : List Value} {x : V} {v : Value}, VsRel A w xs l → x.rel A w v → VsRel A w (xs ++ [x]) (l ++ [v])
  | [], _, x, v, h, hx => by subst h; exact ⟨v, [], rfl, hx, rfl⟩
  | y :: ys, _, x, v, h, hx => by
    obtain ⟨u, r, rfl, h1, h2⟩ := h
    exact ⟨u, r ++ [v], rfl, h1, h2.snoc hx⟩
theorem drExt_ok {E : Env} (hE : EnvOk E) {f : FuncId} {args : List V} {ts : List TypeId} {own : List Blk} {p : List Prop} {v : V} {u : U} (h : drExt E f args ts own = some (p, v, u)) (hp : all p)
    {A : Ad} {w : World} (ho : OwnOK A w own) {vals : List Value} (hv : VsRel A w args vals) : u = [] ∧ ∃ x, (callFunc f vals.toArray).run E.P w = .ok (.value x) w ∧ v.rel A w x := by
  unfold drExt at h
  split at h
  · cases h
  rename_i g hg
  split at h
  · cases h
  rename_i ps args' hpur
  split at h
  · cases h
  rename_i qs res hres
  cases h
  obtain ⟨hps, hqs⟩ := all_append.1 hp
  obtain ⟨x, hx, hr⟩ := hE.ext f g hg args' qs _ hres hqs w vals (purL_ok ho hpur hps hv)
  exact ⟨rfl, x, hx, hr A⟩
theorem vcOp_ok {E : Env} (hE : EnvOk E) {ih : VC} (hih : VcOk E ih) {ops : Array Oper} {i : Nat} {o : Oper} {σ : St} {K : St → Prop} (h : vcOp E ih ops.toList i o σ K)
    {pre : Ad} {L : Nat} {wb : World} {a : Act} {w : World} (hg : Gst pre L wb σ a w) {Q : Exit → Act → World → Prop} {N : Act → World → Prop} (hN : ∀ σ a w, K σ → Gst pre L wb σ a w → N a w) :
    if Region.wanted o (yielded ops a.tmps) then o.wp E.P a w N Q else N (a.put o.dst undef) w := by
  obtain ⟨A, hdom, hL, hk, ho, hfr, hd⟩ := hg
  unfold vcOp at h
  split at h
  · exact h.elim
  · rename_i hw
    rw [want_ok hw hfr]
    obtain ⟨fr', h1, h2, h3⟩ := put_ok (x := undef) h hfr ⟨[], rfl, rfl⟩
    exact hN _ _ _ h1 ⟨A, hdom, hL, hk, ho, h2, h3.trans hd⟩
  · rename_i hw
    rw [want_ok hw hfr]
    simp only [if_true]
    have plain : (match aopM E.P o.op σ.fr σ.own σ.own.length with
        | none => False
        | some (p, v, u) => conj p (gen E.gen o.op v u fun v u => frcU u fun u => frcL (applyU σ.own u) fun own => aft (isGuard ops.toList i) σ.fr own o.dst v K)) → o.wp E.P a w N Q := fun h => by
      split at h
      · exact h.elim
      · rename_i p v u hop
        obtain ⟨hp, h⟩ := conj_iff.1 h
        have h := gen_elim h
        rw [frcU_eq, frcL_eq] at h
        obtain ⟨A', w', k1, k2, k3⟩ := aopM_ok hop hp hfr ho ho.fresh
        unfold Oper.wp
        rcases k3 with ⟨x, hx, hr⟩ | ⟨hx, rfl⟩
        · rw [hx, Oper.upon_value]
          obtain ⟨fr', g1, g2, g3⟩ := aft_ok h (hfr.keep k1) hr
          exact hN _ _ _ g1 ⟨A', hdom, Nat.le_trans hL (applyU_len _ _), hk.trans k1, k2, g2, g3.trans hd⟩
        · rw [hx, Oper.upon_skip]
          obtain ⟨fr', g1, g2, g3⟩ := aft_ok (x := undef) h (hfr.keep k1) trivial
          exact hN _ _ _ g1 ⟨A', hdom, Nat.le_trans hL (applyU_len _ _), hk.trans k1, k2, g2, g3.trans hd⟩
    split at h
    · rename_i c hc
      split at h
      · rename_i f hf
        obtain ⟨x, hx, hxe⟩ := calleeOf_ok hf hfr
        split at h
        rotate_left
        · split at h
          · exact h.elim
          · rename_i p v u hop
            obtain ⟨hp, h⟩ := conj_iff.1 h
            have h := gen2_elim h
            obtain ⟨_, y, hy, hr⟩ := drExt_ok hE hop hp ho (evs_rel hfr c.args.toList)
            unfold Oper.wp
            have hrun : (execOp a.eval o).run E.P w = .ok (.value y) w := by
              have e : execOp a.eval o = (do let d ← resolve a.eval c o.type; invoke d.target d.args) := by
                unfold execOp; rw [hc]
              rw [e]
              unfold resolve
              rw [hx]
              simp only [hxe, Deferred.ofValue]
              show (callFunc f (#[] ++ c.args.map a.eval ++ #[])).run E.P w = _
              rw [← hy]
              congr 2
              apply Array.ext'
              simp
            rw [hrun, Oper.upon_value]
            obtain ⟨fr', g1, g2, g3⟩ := aft_ok h hfr hr
            exact hN _ _ _ g1 ⟨A, hdom, hL, hk, ho, g2, g3.trans hd⟩
        obtain ⟨⟨fn, cd, hfn, hbd⟩, hcalls⟩ := vcCall_ok hE hih h ho (evs_rel hfr c.args.toList)
        unfold Oper.wp
        have hrun : (execOp a.eval o).run E.P w = .ok (.enter f (c.args.toList.map a.eval).toArray) w := by
          have e : execOp a.eval o = (do let d ← resolve a.eval c o.type; invoke d.target d.args) := by
            unfold execOp; rw [hc]
          rw [e]
          unfold resolve
          rw [hx]
          simp only [hxe, Deferred.ofValue]
          show (callFunc f (#[] ++ c.args.map a.eval ++ #[])).run E.P w = _
          rw [run_callFunc hE.names hfn hbd]
          congr 2
          apply Array.ext'
          simp
        rw [hrun, Oper.upon_enter]
        refine hcalls.mono fun e w' ⟨x, v, own', A', he, hK, hLo, k1, k2, k3⟩ => ?_
        subst he
        obtain ⟨fr', g1, g2, g3⟩ := aft_ok hK (hfr.keep k1) k3
        exact hN _ _ _ g1 ⟨A', hdom, Nat.le_trans hL hLo, hk.trans k1, k2, g2, g3.trans hd⟩
      · split at h
        · rename_i f k m hf
          split at h
          rotate_left
          · exact h.elim
          obtain ⟨x, b, hx, hb, hxe⟩ := cloOf_ok hf hfr
          obtain ⟨⟨fn, cd, hfn, hbd⟩, hcalls⟩ := vcCall_ok hE hih h ho ((evs_rel hfr c.args.toList).snoc (x := .s (.ptr k m)) (v := .pointer (some ⟨b, m, none⟩)) ⟨b, hb, rfl⟩)
          unfold Oper.wp
          have hrun : (execOp a.eval o).run E.P w = .ok (.enter f (c.args.toList.map a.eval ++ [Value.pointer (some ⟨b, m, none⟩)]).toArray) w := by
            have e : execOp a.eval o = (do let d ← resolve a.eval c o.type; invoke d.target d.args) := by
              unfold execOp; rw [hc]
            rw [e]
            unfold resolve
            rw [hx]
            simp only [hxe, Deferred.ofValue]
            show (callFunc f (#[] ++ c.args.map a.eval ++ #[Value.pointer (some ⟨b, m, none⟩)])).run E.P w = _
            rw [run_callFunc hE.names hfn hbd]
            congr 2
            apply Array.ext'
            simp
          rw [hrun, Oper.upon_enter]
          refine hcalls.mono fun e w' ⟨x, v, own', A', he, hK, hLo, k1, k2, k3⟩ => ?_
          subst he
          obtain ⟨fr', g1, g2, g3⟩ := aft_ok hK (hfr.keep k1) k3
          exact hN _ _ _ g1 ⟨A', hdom, Nat.le_trans hL hLo, hk.trans k1, k2, g2, g3.trans hd⟩
        · exact plain h
    · exact plain h
theorem vcOps_ok {E : Env} (hE : EnvOk E) {ih : VC} (hih : VcOk E ih) {ops : Array Oper} {Q : Exit → Act → World → Prop} {K : St → Prop} {pre : Ad} {L : Nat} {wb : World}
    (hQ : ∀ σ a w, K σ → Gst pre L wb σ a w → Q .normal a w) : ∀ (l : List Oper) (i : Nat) (σ : St) (a : Act) (w : World), vcOps E ih ops.toList l i σ K → Gst pre L wb σ a w → wpList E.P ops Q l a w
  | [], _, σ, a, w, h, hg => hQ σ a w h hg
  | o :: r, i, σ, a, w, h, hg =>
    wpList_step fun K' hK' => vcOp_ok hE hih h hg fun σ a w h' hg' => hK' a w (vcOps_ok hE hih hQ r (i + 1) σ a w h' hg')
end Go.Eng
/- A state forgets something: loops. -/
namespace Go.Eng
open Go Go.RowKit

theorem cat2_some {x y : Option (List Prop)} {p : List Prop} (h : cat2 x y = some p) : ∃ q r, x = some q ∧ y = some r ∧ p = q ++ r := by
  unfold cat2 at h
  split at h
  · cases h
  · split at h
    · cases h
    · cases h
      exact ⟨_, _, rfl, rfl, rfl⟩
theorem all_app {p q : List Prop} : all (p ++ q) ↔ all p ∧ all q :=
  ⟨fun h => ⟨fun x hx => h x (List.mem_append_left _ hx), fun x hx => h x (List.mem_append_right _ hx)⟩, fun h x hx => (List.mem_append.1 hx).elim (h.1 x) (h.2 x)⟩
theorem leI_ok {x y : I} {p : List Prop} (h : leI x y = some p) (hp : all p) : x.val = y.val := by
  unfold leI at h
  split at h
  · split at h <;> cases h
    rename_i hb
    exact Nat.eq_of_beq_eq_true hb
  · cases h
    exact (all_cons.1 hp).1

structure RenOk (ρ : Nat → Option Nat) (A A' : Ad) : Prop where
  from_ : ∀ b x, A' b = some x → ∃ k, A k = some x
  to_ : ∀ b k, ρ b = some k → A k ≠ none → A' b = A k
theorem XB.ren {ρ : Nat → Option Nat} {A A' : Ad} {w : World} (hr : RenOk ρ A A') {cs : List Value} {z : Nat} {v : Value} (h : XB A w cs z v) : XB A' w cs z v := by
  rcases h with h | ⟨blk, off, n, cap, arr, T, fz, h1, h2, h3, h4, h5, h6⟩
  · exact .inl h
  · refine .inr ⟨blk, off, n, cap, arr, T, fz, h1, h2, h3, fun b e => ?_, h5, h6⟩
    obtain ⟨k, hk⟩ := hr.from_ b blk e
    exact h4 k hk
theorem Vec.ren {ρ : Nat → Option Nat} {A A' : Ad} {w : World} (hr : RenOk ρ A A') {x : Vec} {cs : List Value} (h : x.rel A w cs) : x.rel A' w cs := by
  cases x <;> simp only [Vec.rel] at h ⊢ <;> try exact h
  exact ⟨h.1, fun i x v h1 h2 => (h.2 i x v h1 h2).ren hr⟩
theorem leVec_ok {x y : Vec} {p : List Prop} (h : leVec x y = some p) (hp : all p) : x = y := by
  unfold leVec at h
  split at h <;> cases h <;> exact congrArg _ (all_cons.1 hp).1
theorem isFn_ok {v : Value} {f : Nat} (h : isFn v f = true) : v = .func (.func f) #[] #[] := by
  unfold isFn at h
  split at h
  · split at h
    · rename_i h1 h2
      rw [Array.toList_eq_nil_iff.1 h1, Array.toList_eq_nil_iff.1 h2, Nat.eq_of_beq_eq_true h]
    · cases h
  · cases h
theorem leS_ok {ρ : Nat → Option Nat} {A A' : Ad} {w : World} (hr : RenOk ρ A A') {x y : S} {p : List Prop} {v : Value} (h : leS ρ x y = some p) (hp : all p) (hx : x.rel A w v) : y.rel A' w v := by
  unfold leS at h
  split at h
  · trivial
  iterate 13 (cases h; have e := (all_cons.1 hp).1; subst e; exact hx)
  · exact hx
  · cases h
    exact .inl ⟨hx, (all_cons.1 hp).1⟩
  · rename_i k o k' o'
    split at h
    · rename_i j hj
      split at h <;> cases h
      rename_i h1 h2
      have h1 := Nat.eq_of_beq_eq_true h1
      have h2 := Nat.eq_of_beq_eq_true h2
      subst h1; subst h2
      obtain ⟨a, ha, e⟩ := hx
      exact ⟨a, by rw [hr.to_ _ _ hj (by rw [ha]; simp)]; exact ha, e⟩
    · cases h
  · rename_i k o i k' o' i'
    split at h
    · rename_i j hj
      split at h <;> cases h
      rename_i h1 h2
      have h1 := Nat.eq_of_beq_eq_true h1
      have h2 := Nat.eq_of_beq_eq_true h2
      subst h1; subst h2
      have e := (all_cons.1 hp).1
      subst e
      obtain ⟨a, ha, e⟩ := hx
      exact ⟨a, by rw [hr.to_ _ _ hj (by rw [ha]; simp)]; exact ha, e⟩
    · cases h
  · rename_i k o i n z k' o' i' n' z'
    split at h
    · rename_i j hj
      split at h
      · rename_i h1 h2 h3
        have h1 := Nat.eq_of_beq_eq_true h1
        have h2 := Nat.eq_of_beq_eq_true h2
        have h3 := Nat.eq_of_beq_eq_true h3
        subst h1; subst h2; subst h3
        obtain ⟨q, r, e1, e2, rfl⟩ := cat2_some h
        have e1 := leI_ok e1 (all_app.1 hp).1
        have e2 := leI_ok e2 (all_app.1 hp).2
        rcases hx with ⟨hx, h0⟩ | ⟨a, off, cap, arr, T, fz, g1, g2, g3, g4, g5, g6⟩
        · exact .inl ⟨hx, by omega⟩
        · refine .inr ⟨a, off, cap, arr, T, fz, by rw [hr.to_ _ _ hj (by rw [g1]; simp)]; exact g1, by rw [← e2]; exact g2, by omega, by omega, g5, g6⟩
      · cases h
    · cases h
  · rename_i z n x z' n' x'
    split at h
    · rename_i h1
      have h1 := Nat.eq_of_beq_eq_true h1
      subst h1
      obtain ⟨q, r, e1, e2, rfl⟩ := cat2_some h
      have e1 := leI_ok e1 (all_app.1 hp).1
      have e2 := leVec_ok e2 (all_app.1 hp).2
      subst e2
      obtain ⟨h0, cs, g1, g2, g3⟩ := hx
      exact ⟨h0, cs, Vec.ren hr g1, g2.ren hr, by rw [← e1]; exact g3⟩
    · cases h
  · rename_i x i x' i'
    split at h
    · rename_i h1
      have h1 := Nat.eq_of_beq_eq_true h1
      subst h1
      have e2 := leVec_ok h hp
      subst e2
      obtain ⟨cs, blk, off, arr, T, fz, g1, g2, g3, g4, g5⟩ := hx
      refine ⟨cs, blk, off, arr, T, fz, Vec.ren hr g1, g2, fun b e => ?_, g4, g5⟩
      obtain ⟨k, hk⟩ := hr.from_ b blk e
      exact g3 k hk
    · cases h
  · split at h
    · split at h
      · rename_i h1 h2
        have hx : v = _ := hx
        show v = _
        rw [hx, isFn_ok h1, isFn_ok h2]
      · cases h
    · cases h
  · rename_i k k'
    split at h
    · rename_i j hj
      split at h <;> cases h
      rename_i h1
      have h1 := Nat.eq_of_beq_eq_true h1
      subst h1
      obtain ⟨a, ha, e⟩ := hx
      exact ⟨a, by rw [hr.to_ _ _ hj (by rw [ha]; simp)]; exact ha, e⟩
    · cases h
  · cases h
    obtain ⟨e1, hp⟩ := all_cons.1 hp
    obtain ⟨e2, hp⟩ := all_cons.1 hp
    have e3 := (all_cons.1 hp).1
    subst e1; subst e2; subst e3
    obtain ⟨g1, g2, g3⟩ := hx
    exact ⟨g1, g2.ren hr, g3⟩
  · cases h
theorem leNil_ok {A : Ad} {w : World} : ∀ {cs : List Ch} {p : List Prop}, leNil cs = some p → all p → ChsRel A w cs []
  | [], _, _, _ => rfl
  | .vec n v :: r, p, h, hp => by
    obtain ⟨q, r, e1, e2, rfl⟩ := cat2_some h
    cases e1
    have h1 := all_app.1 hp
    have h2 := all_cons.1 h1.1
    have h3 := (all_cons.1 h2.2).1
    refine ⟨[], [], rfl, h2.1.symm, ?_, leNil_ok e2 h1.2⟩
    cases v <;> simp only [Vec.len, List.length_eq_zero_iff] at h3 <;> subst h3 <;> first | rfl | exact ⟨rfl, fun _ h => absurd h List.not_mem_nil⟩ | exact ⟨rfl, fun i x v h _ => by simp at h⟩
  | .one _ :: _, _, h, _ => by cases h
theorem leCs_ok {ρ : Nat → Option Nat} {A A' : Ad} {w : World} (hr : RenOk ρ A A') : ∀ {xs ys : List Ch} {p : List Prop} {l : List Value}, leCs ρ xs ys = some p → all p → ChsRel A w xs l → ChsRel A' w ys l
  | [], ys, p, l, h, hp, hx => by
    simp only [ChsRel] at hx
    subst hx
    have h : leNil ys = some p := by cases ys <;> exact h
    exact leNil_ok h hp
  | .one s :: r, ys, p, l, h, hp, hx => by
    unfold leCs at h
    split at h
    · rename_i heq; cases heq
    · rename_i heq
      cases heq
      obtain ⟨q, r, e1, e2, rfl⟩ := cat2_some h
      obtain ⟨v, t, rfl, g1, g2, g3⟩ := hx
      exact ⟨v, t, rfl, leS_ok hr e1 (all_app.1 hp).1 g1, g2, leCs_ok hr e2 (all_app.1 hp).2 g3⟩
    · rename_i heq; cases heq
    · cases h
  | .vec n x :: r, ys, p, l, h, hp, hx => by
    unfold leCs at h
    split at h
    · rename_i heq; cases heq
    · rename_i heq; cases heq
    · rename_i heq
      cases heq
      obtain ⟨q, r, e1, e2, rfl⟩ := cat2_some h
      obtain ⟨q1, q2, e3, e4, rfl⟩ := cat2_some e1
      obtain ⟨a, t, rfl, g1, g2, g3⟩ := hx
      have h1 := all_app.1 hp
      have h2 := all_app.1 h1.1
      have e3 := leI_ok e3 h2.1
      have e4 := leVec_ok e4 h2.2
      subst e4
      exact ⟨a, t, rfl, by omega, Vec.ren hr g2, leCs_ok hr e2 h1.2 g3⟩
    · cases h
theorem leV_ok {ρ : Nat → Option Nat} {A A' : Ad} {w : World} (hr : RenOk ρ A A') {x y : V} {p : List Prop} {v : Value} (h : leV ρ x y = some p) (hp : all p) (hx : x.rel A w v) : y.rel A' w v := by
  unfold leV at h
  split at h
  · trivial
  · split at h
    · exact leS_ok hr h hp hx
    · cases h
  · split at h
    · obtain ⟨cells, rfl, hc⟩ := hx
      exact ⟨cells, rfl, leCs_ok hr h hp hc⟩
    · cases h
  · cases h
theorem leFr_ok {ρ : Nat → Option Nat} {A A' : Ad} {w : World} (hr : RenOk ρ A A') : ∀ {xs ys : List V} {p : List Prop}, leFr ρ xs ys = some p → all p → xs.length = ys.length ∧ ∀ (i : Nat) (y : V) (v : Value), ys[i]? = some y → (∀ x, xs[i]? = some x → x.rel A w v) → y.rel A' w v
  | [], [], _, _, _ => ⟨rfl, fun i y v h => by simp at h⟩
  | [], _ :: _, _, h, _ => by cases h
  | _ :: _, [], _, h, _ => by cases h
  | x :: xs, y :: ys, p, h, hp => by
    obtain ⟨q, r, e1, e2, rfl⟩ := cat2_some h
    obtain ⟨g1, g2⟩ := leFr_ok hr e2 (all_app.1 hp).2
    refine ⟨by simp [g1], fun i u v h1 h2 => ?_⟩
    cases i with
    | zero =>
      simp at h1
      subst h1
      exact leV_ok hr e1 (all_app.1 hp).1 (h2 x (by simp))
    | succ i =>
      simp at h1
      exact g2 i u v h1 fun x hx => h2 x (by simpa using hx)
theorem noIm_ok {ρ : Nat → Option Nat} {own : List Blk} {k : Nat} : ∀ {n : Nat}, noIm ρ own k n = true → ∀ j, j < n → ∀ k', ρ j = some k' → k' ≠ k ∧ ∃ cs, own[k']? = some (some cs)
  | 0, _, j, hj, _, _ => by omega
  | n + 1, h, j, hj, k', hk => by
    unfold noIm at h
    by_cases e : j = n
    · subst e
      rw [hk] at h
      simp only [] at h
      split at h
      · rename_i cs h1 h2
        exact ⟨fun e2 => (by subst e2; rw [Nat.beq_refl] at h1; cases h1), cs, getO_some h2⟩
      · cases h
    · have hlt : j < n := by omega
      split at h
      · exact noIm_ok h j hlt k' hk
      · split at h
        · exact noIm_ok h j hlt k' hk
        · cases h
theorem frzAll_ok {ρ : Nat → Option Nat} {n : Nat} {A A' : Ad} {w : World} {own : List Blk} (hr : RenOk ρ A A') (hA' : ∀ b x, A' b = some x → b < n ∧ ∃ k, ρ b = some k ∧ A k = some x) (ho : OwnOK A w own) : ∀ {cs : List Ch} {p : List Prop} {ls : List (List UInt8)} {l : List Value},
    bytesAll own cs = some (p, ls) → gone ρ n own cs = true → all p → ChsRel A w cs l → ls.length = l.length ∧ ∀ (i : Nat) (x : List UInt8) (v : Value), ls[i]? = some x → l[i]? = some v → XB A' w (x.map eu8) 1 v
  | [], p, ls, l, h, _, hp, hc => by
    cases h
    simp only [ChsRel] at hc
    subst hc
    exact ⟨rfl, fun i x v h1 h2 => by simp at h1⟩
  | .vec m v :: r, p, ls, l, h, hg, hp, hc => by
    unfold bytesAll at h
    split at h
    · rename_i y
      split at h
      · cases h
      · rename_i q ys hq'
        cases h
        obtain ⟨a, t, rfl, h1, h2, h3⟩ := hc
        obtain ⟨g1, g2⟩ := frzAll_ok hr hA' ho hq' hg hp h3
        obtain ⟨e1, e2⟩ := Vec.ren hr h2
        refine ⟨by simp [g1, e1], fun i x u f1 f2 => ?_⟩
        by_cases hi : i < y.length
        · rw [List.getElem?_append_left hi] at f1
          rw [List.getElem?_append_left (by omega)] at f2
          exact e2 i x u f1 f2
        · rw [List.getElem?_append_right (by omega)] at f1
          rw [List.getElem?_append_right (by omega), ← e1] at f2
          exact g2 _ x u f1 f2
    · cases h
  | .one s :: r, p, ls, l, h, hg, hp, hc => by
    unfold bytesAll at h
    split at h
    · cases h
    · rename_i q y hq
      split at h
      · cases h
      · rename_i q2 ys hq'
        cases h
        obtain ⟨v, t, rfl, h1, h2, h3⟩ := hc
        obtain ⟨hp1, hp2⟩ := all_append.1 hp
        cases s with
        | sl k o i len z =>
          unfold gone at hg
          split at hg
          · rename_i ck hk hni
            obtain ⟨g1, g2⟩ := frzAll_ok hr hA' ho hq' hg hp2 h3
            refine ⟨by simp [g1], fun j x u f1 f2 => ?_⟩
            cases j with
            | zero =>
              simp at f1 f2
              subst f1 f2
              have hx := bytesOf_ok (P := default) hq hp1 ho h1
              rcases hx with hx | ⟨blk, off, m, cap, arr, T, fz, e1, e2, e3, e4, e5, e6⟩
              · exact .inl hx
              · refine .inr ⟨blk, off, m, cap, arr, T, fz, e1, e2, e3, fun b hb => ?_, e5, e6⟩
                obtain ⟨hbn, k', hk', hak⟩ := hA' b blk hb
                obtain ⟨hne, ck', hck'⟩ := noIm_ok hni b hbn k' hk'
                have h1 : (S.sl k o i len z).rel A w v := h1
                rcases h1 with ⟨h1, _⟩ | ⟨a, off', cap', arr', T', fz', ha, h1, _⟩
                · rw [h1] at e1; cases e1
                · rw [h1] at e1
                  cases e1
                  exact hne (ho.dist k' k blk ck' ck hck' (getO_some hk) hak ha)
            | succ j =>
              simp at f1 f2
              exact g2 j x u f1 f2
          · cases hg
        | _ => cases hg
theorem frz_ok {ρ : Nat → Option Nat} {n : Nat} {A A' : Ad} {w : World} {own : List Blk} (hr : RenOk ρ A A') (hA' : ∀ b x, A' b = some x → b < n ∧ ∃ k, ρ b = some k ∧ A k = some x) (ho : OwnOK A w own) {x y : List Ch} {q : List Prop} {l : List Value}
    (h : frz ρ n own x y = some (some q)) (hp : all q) (hc : ChsRel A w x l) : ChsRel A' w y l := by
  unfold frz at h
  split at h
  · rename_i m ls'
    split at h
    · cases h
    · split at h
      · rename_i p ls hg hb
        cases h
        obtain ⟨hp1, hp2⟩ := all_append.1 hp
        obtain ⟨e1, hp3⟩ := all_cons.1 hp2
        have e2 := (all_cons.1 hp3).1
        subst e2
        obtain ⟨g1, g2⟩ := frzAll_ok hr hA' ho hb hg hp1 hc
        exact ⟨l, [], by simp, by rw [← g1]; exact e1, ⟨g1, g2⟩, rfl⟩
      · cases h
  · cases h
theorem zvec_rel {A : Ad} {w : World} {v : Vec} (h : ∀ x, v ≠ .sl x) (hl : v.len = 0) : v.rel A w [] := by
  cases v with
  | sl x => exact absurd rfl (h x)
  | va x => exact ⟨(List.length_eq_zero_iff.1 hl).symm, fun u hu => by rw [List.length_eq_zero_iff.1 hl] at hu; cases hu⟩
  | _ x =>
    have : x = [] := List.length_eq_zero_iff.1 hl
    subst this
    rfl
theorem fzS_ok {ρ : Nat → Option Nat} {n : Nat} {A A' : Ad} {w : World} {own : List Blk} (hr : RenOk ρ A A') (hA' : ∀ b x, A' b = some x → b < n ∧ ∃ k, ρ b = some k ∧ A k = some x) (ho : OwnOK A w own) {x y : S} {q : List Prop} {u : Value}
    (h : fzS ρ n own x y = some q) (hp : all q) (hx : x.rel A w u) : y.rel A' w u := by
  unfold fzS at h
  split at h
  · rename_i k o i len z z' len' v'
    split at h
    · rename_i ck hk hni hz hz0
      have hz := Nat.eq_of_beq_eq_true hz
      subst hz
      have hz0 : 0 < z := by simpa using hz0
      split at h
      · rename_i p m m2 v hs
        have go : (∀ x, v ≠ .sl x) → cat2 (some (p ++ [m.val = len'.val])) (leVec v v') = some q → (S.xs z len' v').rel A' w u := fun hv h => by
          obtain ⟨q1, q2, e1, e2, rfl⟩ := cat2_some h
          cases e1
          obtain ⟨hp1, hp2⟩ := all_app.1 hp
          obtain ⟨hp3, hp4⟩ := all_app.1 hp1
          have e3 := (all_cons.1 hp4).1
          have e4 := leVec_ok e2 hp2
          subst e4
          obtain ⟨cl, g1, g2, g3⟩ := pur_sl (P := default) hs hp3 ho hx
          refine ⟨hz0, cl, flatVec_rel hv (vec_rel g1).2, ?_, by rw [← e3]; exact g3⟩
          rcases g2 with g2 | ⟨blk, off, m, cap, arr, T, fz, e1, e2, e3, e4, e5, e6⟩
          · exact .inl g2
          · refine .inr ⟨blk, off, m, cap, arr, T, fz, e1, e2, e3, fun b hb => ?_, e5, e6⟩
            obtain ⟨hbn, k', hk', hak⟩ := hA' b blk hb
            obtain ⟨hne, ck', hck'⟩ := noIm_ok hni b hbn k' hk'
            have h1 : (S.sl k o i len z).rel A w u := hx
            rcases h1 with ⟨h1, _⟩ | ⟨a, off', cap', arr', T', fz', ha, h1, _⟩
            · rw [h1] at e1; cases e1
            · rw [h1] at e1
              cases e1
              exact hne (ho.dist k' k blk ck' ck hck' (getO_some hk) hak ha)
        split at h
        · cases h
        · rename_i hv
          exact go hv h
      · cases h
    · cases h
  · rename_i z' len' v'
    have hu : u = .slice none 0 0 := hx
    have go : 0 < z' → (∀ x, v' ≠ .sl x) → some [len'.val = 0, v'.len = 0] = some q → (S.xs z' len' v').rel A' w u := fun hz hv h => by
      cases h
      obtain ⟨e1, hp2⟩ := all_cons.1 hp
      have e2 := (all_cons.1 hp2).1
      exact ⟨hz, [], zvec_rel hv e2, .inl ⟨⟨_, hu⟩, rfl⟩, by rw [e1]; simp⟩
    split at h
    · cases h
    · rename_i hz hv
      exact go (by simpa using hz) hv h
    · cases h
  · exact leS_ok hr h hp hx
theorem leCsF_ok {ρ : Nat → Option Nat} {n : Nat} {A A' : Ad} {w : World} {own : List Blk} (hr : RenOk ρ A A') (hA' : ∀ b x, A' b = some x → b < n ∧ ∃ k, ρ b = some k ∧ A k = some x) (ho : OwnOK A w own) : ∀ {xs ys : List Ch} {p : List Prop} {l : List Value}, leCsF ρ n own xs ys = some p → all p → ChsRel A w xs l → ChsRel A' w ys l
  | [], [], _, _, _, _, hx => hx
  | [], _ :: _, _, _, h, _, _ => by cases h
  | .one _ :: _, [], _, _, h, _, _ => by cases h
  | .one _ :: _, .vec _ _ :: _, _, _, h, _, _ => by cases h
  | .vec _ _ :: _, [], _, _, h, _, _ => by cases h
  | .vec _ _ :: _, .one _ :: _, _, _, h, _, _ => by cases h
  | .one s :: r, .one s' :: r', p, l, h, hp, hx => by
    obtain ⟨q, q2, e1, e2, rfl⟩ := cat2_some h
    obtain ⟨v, t, rfl, g1, g2, g3⟩ := hx
    exact ⟨v, t, rfl, fzS_ok hr hA' ho e1 (all_app.1 hp).1 g1, g2, leCsF_ok hr hA' ho e2 (all_app.1 hp).2 g3⟩
  | .vec m v :: r, .vec m' v' :: r', p, l, h, hp, hx => by
    obtain ⟨q, q2, e1, e2, rfl⟩ := cat2_some h
    obtain ⟨q3, q4, e3, e4, rfl⟩ := cat2_some e1
    obtain ⟨a, t, rfl, g1, g2, g3⟩ := hx
    have h1 := all_app.1 hp
    have h2 := all_app.1 h1.1
    have f1 := leI_ok e3 h2.1
    have f2 := leVec_ok e4 h2.2
    subst f2
    exact ⟨a, t, rfl, by omega, Vec.ren hr g2, leCsF_ok hr hA' ho e2 h1.2 g3⟩
theorem leBk_some {ρ : Nat → Option Nat} {n : Nat} {own : List Blk} {x y : List Ch} {q : List Prop} (h : leBk ρ n own x y = some q) : (isM x = false ∧ (leCs ρ x y = some q ∨ frz ρ n own x y = some (some q) ∨ leCsF ρ n own x y = some q)) ∨ ∃ l l', x = [.one (.mpc l)] ∧ y = [.one (.mpc l')] ∧ q = [l = l'] := by
  unfold leBk at h
  split at h
  · rename_i hm
    split at h
    · split at h
      · rename_i r hr
        cases h
        exact .inl ⟨hm, .inl hr⟩
      · exact .inl ⟨hm, .inr (.inr h)⟩
    · rename_i r hr
      subst h
      exact .inl ⟨hm, .inr (.inl hr)⟩
  · split at h
    · cases h
      exact .inr ⟨_, _, rfl, rfl, rfl⟩
    · cases h
theorem leOwn_ok {ρ : Nat → Option Nat} {nn : Nat} {own : List Blk} : ∀ {l : List Blk} {i : Nat} {p : List Prop}, leOwn ρ nn own i l = some p → all p → ∀ (j : Nat) (cs : List Ch), l[j]? = some (some cs) →
    (∃ q, ρ (i + j) = none ∧ leNil cs = some q ∧ all q) ∨ ∃ k cs' q, ρ (i + j) = some k ∧ own[k]? = some (some cs') ∧ leBk ρ nn own cs' cs = some q ∧ all q
  | [], _, _, _, _, j, cs, h => by simp at h
  | none :: r, i, p, h, hp, j, cs, hj => by
    cases j with
    | zero => simp at hj
    | succ j =>
      have := leOwn_ok (l := r) (i := i + 1) h hp j cs (by simpa using hj)
      rwa [show i + 1 + j = i + (j + 1) by omega] at this
  | some c :: r, i, p, h, hp, j, cs, hj => by
    obtain ⟨q, q2, e1, e2, rfl⟩ := cat2_some h
    cases j with
    | zero =>
      simp at hj
      subst hj
      split at e1
      · rename_i hn
        exact .inl ⟨q, hn, e1, (all_app.1 hp).1⟩
      · rename_i k hk
        split at e1
        · rename_i cs' hg
          exact .inr ⟨k, cs', q, hk, getO_some hg, e1, (all_app.1 hp).1⟩
        · cases e1
    | succ j =>
      have := leOwn_ok (l := r) (i := i + 1) e2 (all_app.1 hp).2 j cs (by simpa using hj)
      rwa [show i + 1 + j = i + (j + 1) by omega] at this
theorem renOk_inj {b0 : Nat} {own : List Blk} : ∀ {rs : List (Option Nat)}, renOk b0 own rs = true →
    (∀ (i j k : Nat), rs[i]? = some (some k) → rs[j]? = some (some k) → i = j) ∧ ∀ (i k : Nat), rs[i]? = some (some k) → k < b0 → ∀ cs, own[k]? ≠ some (some cs)
  | [], _ => ⟨fun i j k h => by simp at h, fun i k h => by simp at h⟩
  | none :: r, h => by
    obtain ⟨g1, g2⟩ := renOk_inj (rs := r) h
    refine ⟨fun i j k h1 h2 => ?_, fun i k h1 => ?_⟩
    · cases i with
      | zero => simp at h1
      | succ i =>
        cases j with
        | zero => simp at h2
        | succ j => simp at h1 h2; rw [g1 i j k h1 h2]
    · cases i with
      | zero => simp at h1
      | succ i => simp at h1; exact g2 i k h1
  | some m :: r, h => by
    simp only [renOk, Bool.and_eq_true, List.all_eq_true] at h
    obtain ⟨⟨h1, h2⟩, h3⟩ := h
    obtain ⟨g1, g2⟩ := renOk_inj (rs := r) h3
    have ne : ∀ j : Nat, r[j]? ≠ some (some m) := fun j hj => by
      have := h2 _ (List.mem_of_getElem? hj)
      simp at this
    refine ⟨fun i j k h1 h2 => ?_, fun i k e1 hk cs e2 => ?_⟩
    · cases i with
      | zero =>
        simp at h1
        subst h1
        cases j with
        | zero => rfl
        | succ j => exact absurd (by simpa using h2) (ne j)
      | succ i =>
        cases j with
        | zero =>
          simp at h2
          subst h2
          exact absurd (by simpa using h1) (ne i)
        | succ j => simp at h1 h2; rw [g1 i j k h1 h2]
    · cases i with
      | zero =>
        simp at e1
        subst e1
        have hlt : Nat.blt m b0 = true := by simpa using hk
        have hge : getO own m = some cs := by
          have : ∀ (own : List Blk) (m : Nat) (cs : List Ch), own[m]? = some (some cs) → getO own m = some cs := by
            intro own
            induction own with
            | nil => intro m cs h; simp at h
            | cons x r ih =>
              intro m cs h
              cases m with
              | zero => simpa [getO] using h
              | succ m => simpa [getO] using ih m cs (by simpa using h)
          exact this own m cs e2
        rw [hlt, hge] at h1
        cases h1
      | succ i => simp at e1; exact g2 i k e1 hk cs e2

theorem leSt_ok {b0 : Nat} {rs : List (Option Nat)} {σ τ : St} (h : leSt b0 rs σ τ) {pre : Ad} {L : Nat} {wb : World} {a : Act} {w : World} (hL : L ≤ b0) (hg : Gst pre L wb σ a w) : Gst pre L wb τ a w := by
  unfold leSt at h
  split at h
  · rename_i ps hren hb0 hps
    have hp := (conj_iff.1 h).1
    have hb0 : b0 + rs.length ≤ τ.own.length := Nat.le_of_ble_eq_true hb0
    obtain ⟨q, r, e1, e2, rfl⟩ := cat2_some hps
    obtain ⟨A, hdom, hLe, hk, ho, hfr, hd⟩ := hg
    obtain ⟨inj, dead⟩ := renOk_inj hren
    let A' : Ad := fun b => if b < τ.own.length then (match renOf b0 rs b with | some k => A k | none => none) else none
    have hA' : ∀ b x, A' b = some x → b < τ.own.length ∧ ∃ k, renOf b0 rs b = some k ∧ A k = some x := fun b x hx => by
      simp only [A'] at hx
      split at hx
      · rename_i hlt
        split at hx
        · rename_i k hk
          exact ⟨hlt, k, hk, hx⟩
        · cases hx
      · cases hx
    have ren0 : ∀ b, b < b0 → renOf b0 rs b = some b := fun b hb => by
      unfold renOf
      have : Nat.blt b b0 = true := by simpa using hb
      rw [this]
    have ren1 : ∀ b k, ¬ b < b0 → renOf b0 rs b = some k → rs[b - b0]? = some (some k) := fun b k hb hk => by
      unfold renOf at hk
      split at hk
      · rename_i hlt; exact absurd (by simpa using hlt) hb
      · split at hk
        · rename_i hr; rw [hr, hk]
        · cases hk
    have hlen : ∀ b k, renOf b0 rs b = some k → b < τ.own.length := fun b k hk => by
      by_cases hb : b < b0
      · omega
      · have := (List.getElem?_eq_some_iff.1 (ren1 b k hb hk)).1
        omega
    have hto : ∀ b k, renOf b0 rs b = some k → A' b = A k := fun b k hk => by
      simp only [A']
      rw [if_pos (hlen b k hk), hk]
    have hno : ∀ b, renOf b0 rs b = none → A' b = none := fun b hk => by
      simp only [A']
      split
      · rw [hk]
      · rfl
    have hr : RenOk (renOf b0 rs) A A' := ⟨fun b x hx => by obtain ⟨_, k, _, hk⟩ := hA' b x hx; exact ⟨k, hk⟩, fun b k hk _ => hto b k hk⟩
    have live : ∀ (i x : Nat) (cs : List Ch), τ.own[i]? = some (some cs) → A' i = some x → ∃ k cs', renOf b0 rs i = some k ∧ A k = some x ∧ σ.own[k]? = some (some cs') := fun i x cs hi hx => by
      obtain ⟨_, k, g1, g2⟩ := hA' i x hx
      rcases leOwn_ok e2 (all_app.1 hp).2 i cs hi with ⟨q, k1, _⟩ | ⟨k', cs', q, k1, k2, _⟩
      · rw [Nat.zero_add, g1] at k1; cases k1
      · rw [Nat.zero_add, g1] at k1; cases k1
        exact ⟨k, cs', g1, g2, k2⟩
    refine ⟨A', hdom, by omega, ⟨fun b x hb => ?_, fun b x hx => ?_, hk.old, hk.sz, hk.size, hk.os, hk.tape, hk.output⟩, ⟨fun b x hx => ?_, fun b x hx => (hA' b x hx).1, fun i j x ci cj hi hj hx hy => ?_, fun i cs hi => ?_⟩, ?_, hd⟩
    · rw [hto b b (ren0 b (Nat.lt_of_lt_of_le (hdom b x hb) hL))]
      exact hk.pre b x hb
    · obtain ⟨_, k, _, h1⟩ := hA' b x hx
      exact hk.new k x h1
    · obtain ⟨_, k, _, h1⟩ := hA' b x hx
      exact ho.inn k x h1
    · obtain ⟨k1, c1, g1, g2, g3⟩ := live i x ci hi hx
      obtain ⟨k2, c2, g4, g5, g6⟩ := live j x cj hj hy
      have := ho.dist k1 k2 x c1 c2 g3 g6 g2 g5
      subst this
      by_cases hi0 : i < b0 <;> by_cases hj0 : j < b0
      · rw [ren0 i hi0] at g1; rw [ren0 j hj0] at g4
        cases g1; cases g4; rfl
      · rw [ren0 i hi0] at g1
        cases g1
        exact absurd hi (dead _ _ (ren1 j i hj0 g4) hi0 ci)
      · rw [ren0 j hj0] at g4
        cases g4
        exact absurd hj (dead _ _ (ren1 i j hi0 g1) hj0 cj)
      · have := inj _ _ _ (ren1 i k1 hi0 g1) (ren1 j k1 hj0 g4)
        omega
    · rcases leOwn_ok e2 (all_app.1 hp).2 i cs hi with ⟨q, k1, k2, k3⟩ | ⟨k, cs', q, k1, k2, k3, k4⟩
      · rw [Nat.zero_add] at k1
        exact .inr ⟨hno i k1, leNil_ok k2 k3⟩
      · rw [Nat.zero_add] at k1
        rcases leBk_some k3 with k3 | ⟨l, l', e1, e2, e3⟩
        · have tr : ∀ cells, ChsRel A w cs' cells → ChsRel A' w cs cells := fun cells hc => by
            rcases k3.2 with k5 | k5 | k5
            · exact leCs_ok hr k5 k4 hc
            · exact frz_ok hr hA' ho k5 k4 hc
            · exact leCsF_ok hr hA' ho k5 k4 hc
          rcases ho.blk k cs' k2 with ⟨x, g1, ⟨arr, T, fz, cells, spare, g2, g3, g4, g5⟩ | ⟨l, g2, g3⟩⟩ | ⟨g1, g2⟩
          · exact .inl ⟨x, by rw [hto i k k1]; exact g1, .inl ⟨arr, T, fz, cells, spare, g2, g3, g4, tr _ g5⟩⟩
          · rw [g2] at k3; exact absurd k3.1 (fun h => by cases h)
          · exact .inr ⟨by rw [hto i k k1]; exact g1, tr _ g2⟩
        · subst e1 e2 e3
          have e4 := (all_cons.1 k4).1
          subst e4
          rcases ho.blk k _ k2 with ⟨x, g1, ⟨arr, T, fz, cells, spare, g2, g3, g4, g5⟩ | ⟨l2, g2, g3⟩⟩ | ⟨g1, g2⟩
          · obtain ⟨v, r, _, g6, _⟩ := g5
            exact g6.elim
          · cases g2
            exact .inl ⟨x, by rw [hto i k k1]; exact g1, .inr ⟨l, rfl, g3⟩⟩
          · obtain ⟨v, r, g6, _⟩ := g2
            cases g6
    · obtain ⟨g1, g2⟩ := leFr_ok hr e1 (all_app.1 hp).1
      exact ⟨hfr.1.trans g1, fun i y v h1 h2 => g2 i y v h1 fun x hx => hfr.2 i x v hx h2⟩
  · exact h.elim
theorem vcRounds_ok {E : Env} {ih : VC} (hih : VcOk E ih) {c : Code} {Q : Exit → St → Prop} {pre : Ad} {L : Nat} {wb : World} : ∀ (n : Nat) (σ : St) (a : Act) (w : World), vcRounds ih c Q n σ → Gst pre L wb σ a w →
    Code.rounds E.P c (fun e a w => ∃ σ, Q e σ ∧ Gst pre L wb σ a w) n a w
  | 0, _, _, _, h, _ => h.elim
  | n + 1, σ, a, w, h, hg => by
    refine wp_mono (hih c σ _ pre L wb a w h hg) fun e a w ⟨σ, hQ, hg⟩ => ?_
    cases e with
    | normal => exact vcRounds_ok hih n σ a w hQ hg
    | _ => exact ⟨σ, hQ, hg⟩
theorem block_ok {P : Program} {c : Code} {id : Nat} {Q : Exit → St → Prop} {pre : Ad} {L : Nat} {wb : World} {a : Act} {w : World} (h : c.wp P (fun e a w => ∃ σ, blockQ id Q e σ ∧ Gst pre L wb σ a w) a w) :
    (Code.block id c).wp P (fun e a w => ∃ σ, Q e σ ∧ Gst pre L wb σ a w) a w := by
  refine wp_block (wp_mono h fun e a w ⟨σ, hQ, hg⟩ => ?_)
  cases e with
  | exit k =>
    show if k = id then _ else _
    unfold blockQ at hQ
    simp only [] at hQ
    split at hQ
    · rename_i hb
      rw [if_pos (Nat.eq_of_beq_eq_true hb)]
      exact ⟨σ, hQ, hg⟩
    · rename_i hb
      rw [if_neg (fun e => by rw [e, Nat.beq_refl] at hb; cases hb)]
      exact ⟨σ, hQ, hg⟩
  | _ => exact ⟨σ, hQ, hg⟩
theorem vcLoop_ok {E : Env} {ih : VC} (hih : VcOk E ih) {J : Inv} {id : Nat} {c : Code} {σ : St} {Q : Exit → St → Prop} (h : vcLoop ih J id c σ Q) {pre : Ad} {L : Nat} {wb : World} {a : Act} {w : World} (hg : Gst pre L wb σ a w) :
    (Code.loop c).wp E.P (fun e a w => ∃ σ, blockQ id Q e σ ∧ Gst pre L wb σ a w) a w := by
  obtain ⟨⟨x0, h1, h2⟩, h3⟩ := h
  have hLσ : L ≤ σ.own.length := by obtain ⟨A, _, hL, _⟩ := hg; exact hL
  refine wp_loop_ghost (fun n a w => ∃ x, J.ok x ∧ J.mu x = n ∧ Gst pre L wb (J.st σ x) a w) (J.mu x0) ⟨x0, h1, rfl, leSt_ok h2 hLσ hg⟩ ?_
  rintro n a w ⟨x, hx, rfl, hgx⟩
  have h4 := h3 x hx
  unfold frcSt at h4
  rw [frcL_eq, frcL_eq] at h4
  refine wp_mono (hih c _ _ pre L wb a w h4 hgx) fun e a w ⟨τ, hQ, hg⟩ => ?_
  cases e with
  | normal =>
    obtain ⟨y, g1, g2, g3⟩ := hQ
    exact ⟨J.mu y, g2, y, g1, rfl, leSt_ok g3 hLσ hg⟩
  | _ => exact ⟨τ, hQ, hg⟩
theorem joinQ_ok {J : Inv} {σ : St} {Q : Exit → St → Prop} (h : ∀ y, J.ok y → frcSt (J.st σ y) fun σ1 => Q .normal σ1) {pre : Ad} {L : Nat} {wb : World} (hL : L ≤ σ.own.length) {e : Exit} {τ : St} {a : Act} {w : World} (hj : joinQ J σ Q e τ) (hg : Gst pre L wb τ a w) :
    ∃ σ, Q e σ ∧ Gst pre L wb σ a w := by
  cases e with
  | normal =>
    obtain ⟨y, h1, h2⟩ := hj
    have h4 := h y h1
    unfold frcSt at h4
    rw [frcL_eq, frcL_eq] at h4
    exact ⟨_, h4, leSt_ok h2 hL hg⟩
  | _ => exact ⟨τ, hj, hg⟩
end Go.Eng
/- More blocks known: the same results. -/
namespace Go.Eng
open Go Go.RowKit

def Sub (own own' : List Blk) : Prop := ∀ k cs, getO own k = some cs → getO own' k = some cs
def SubOn (l : List Nat) (own own' : List Blk) : Prop := ∀ k ∈ l, ∀ cs, getO own k = some cs → getO own' k = some cs
variable {own own' : List Blk}
theorem Sub.on (h : Sub own own') (l : List Nat) : SubOn l own own' := fun k _ cs hk => h k cs hk
theorem SubOn.left {l m : List Nat} (h : SubOn (l ++ m) own own') : SubOn l own own' := fun k hk => h k (List.mem_append_left _ hk)
theorem SubOn.right {l m : List Nat} (h : SubOn (l ++ m) own own') : SubOn m own own' := fun k hk => h k (List.mem_append_right _ hk)

theorem srcOf0_mono {x : S} {r : List Prop × I × List Ch} (hs : SubOn (rdB x) own own') (h : srcOf0 x own = some r) : srcOf0 x own' = some r := by
  unfold srcOf0 at h ⊢
  cases x with
  | sl k o i len z =>
    simp only [] at h ⊢
    cases hg : getO own k with
    | none => rw [hg] at h; cases h
    | some cs => rw [hg] at h; rw [hs k (by simp [rdB]) cs hg]; exact h
  | _ => exact h
theorem srcOf_mono {x : S} {z : Nat} {r : List Prop × I × List Ch} (hs : SubOn (rdB x) own own') (h : srcOf x own z = some r) : srcOf x own' z = some r := by
  unfold srcOf at h ⊢
  cases hz : srcZ x z with
  | false => rw [hz] at h; cases h
  | true => rw [hz] at h; exact srcOf0_mono hs h
theorem aLoad0_mono {P : Program} {T : TypeId} {x : S} {r : List Prop × V × U} (hs : SubOn (rdB x) own own') (h : aLoad0 P T x own = some r) : aLoad0 P T x own' = some r := by
  unfold aLoad0 at h ⊢
  cases x with
  | ptr k o =>
    simp only [] at h ⊢
    cases hg : getO own k with
    | none => rw [hg] at h; cases h
    | some cs => rw [hg] at h; rw [hs k (by simp [rdB]) cs hg]; exact h
  | pti k o i =>
    simp only [] at h ⊢
    cases hg : getO own k with
    | none => rw [hg] at h; cases h
    | some cs => rw [hg] at h; rw [hs k (by simp [rdB]) cs hg]; exact h
  | _ => exact h
theorem aLoad_mono {P : Program} {T : TypeId} {x : S} {r : List Prop × V × U} (hs : SubOn (rdB x) own own') (h : aLoad P T x own = some r) : aLoad P T x own' = some r := by
  unfold aLoad at h ⊢
  obtain ⟨y, hy⟩ := tyV_some h
  rw [hy] at h
  rw [aLoad0_mono hs hy]
  exact h
theorem aStore0_same {P : Program} {T : TypeId} {x : S} {v u : V} {r : List Prop × V × U} (hs : SubOn (rdB x) own own') (h : aStore0 P T x u own = some r) : aStore0 P T x v own' = aStore0 P T x v own := by
  unfold aStore0 at h ⊢
  cases hi : P.info? T with
  | none => rfl
  | some i =>
    rw [hi] at h
    simp only [] at h ⊢
    cases x with
    | ptr k o =>
      simp only [] at h ⊢
      cases hg : getO own k with
      | none => rw [hg] at h; cases h
      | some cs => rw [hs k (by simp [rdB]) cs hg]
    | pti k o i =>
      simp only [] at h ⊢
      cases hg : getO own k with
      | none => rw [hg] at h; cases h
      | some cs => rw [hs k (by simp [rdB]) cs hg]
    | _ => rfl
theorem aStore_mono {P : Program} {T : TypeId} {x : S} {v : V} {r : List Prop × V × U} (hs : SubOn (rdB x) own own') (h : aStore P T x v own = some r) : aStore P T x v own' = some r := by
  unfold aStore at h ⊢
  split at h
  · rename_i q hq
    rw [aStore0_same hs hq, hq]
    exact h
  · rename_i hq
    split at h
    · split at h
      · rename_i h1 h2
        rw [aStore0_same hs h, hq]
        simp only [h1, h2]
        rw [aStore0_same hs h]
        exact h
      · cases h
    · cases h
theorem aSlice_mono {P : Program} {T : TypeId} {x : S} {lo hi mx : Option S} {r : List Prop × V × U} (hs : SubOn (rdB x) own own') (h : aSlice P T x lo hi mx own = some r) : aSlice P T x lo hi mx own' = some r := by
  unfold aSlice at h ⊢
  split at h
  · rename_i n e hT
    cases hb : Nat.blt 0 (P.cellsOf e) with
    | false => rw [hb] at h; cases h
    | true =>
      rw [hb] at h
      simp only [] at h ⊢
      cases x with
      | ptr k o =>
        simp only [] at h ⊢
        cases hg : getO own k with
        | none => rw [hg] at h; cases h
        | some cs => rw [hg] at h; rw [hs k (by simp [rdB]) cs hg]; exact h
      | _ => exact h
  all_goals exact h
theorem aNews_mono {P : Program} {e : TypeId} {d2 : TypeDesc} {x : S} {r : List Prop × I × List Ch} (hs : SubOn (rdB x) own own') (h : aNews P e d2 x own = some r) : aNews P e d2 x own' = some r := by
  unfold aNews at h ⊢
  cases d2 <;> first | exact h | exact srcOf_mono hs h
theorem aConv_mono {P : Program} {s d : TypeId} {x : S} {f : Nat} {r : List Prop × V × U} (hs : SubOn (rdB x) own own') (h : aConv P s d x own f = some r) : aConv P s d x own' f = some r := by
  unfold aConv at h ⊢
  split at h
  · exact h
  · split at h
    · split at h
      · rename_i hsrc; rw [srcOf_mono hs hsrc]; exact h
      · rename_i hsrc; rw [srcOf_mono hs hsrc]; exact h
      · rename_i hsrc; rw [srcOf_mono hs hsrc]; exact h
      · cases h
    · cases h
  · exact h
  · exact h
  · split at h
    · split at h
      · rename_i hb hg
        simp only [hb, hs _ (by simp [rdB]) _ hg]
        exact h
      · cases h
    · cases h
  · cases h
theorem aAppend0_mono {P : Program} {ts : Array TypeId} {x y : S} {f : Nat} {r : List Prop × V × U} (hs : SubOn (rdB x ++ rdB y) own own') (h : aAppend0 P ts x y own f = some r) : aAppend0 P ts x y own' f = some r := by
  unfold aAppend0 at h ⊢
  split at h
  · split at h
    · split at h
      · split at h
        · cases h
        · rename_i hn
          rw [aNews_mono hs.right hn]
          cases x with
          | sl k o i len z =>
            simp only [] at h ⊢
            split at h
            · rename_i heq; cases heq
            · rename_i heq
              cases heq
              cases hg : getO own k with
              | none => rw [hg] at h; cases h
              | some cs => rw [hg] at h; rw [hs k (by simp [rdB]) cs hg]; exact h
            · cases h
          | _ => exact h
      · cases h
    · cases h
  · cases h
theorem getO_putO_self : ∀ (own : List Blk) (k : Nat) (b : Blk), getO (putO own k b) k = b
  | [], 0, b => rfl
  | [], k + 1, b => getO_putO_self [] k b
  | _ :: r, 0, b => rfl
  | _ :: r, k + 1, b => getO_putO_self r k b
theorem getO_putO_ne : ∀ (own : List Blk) (k j : Nat) (b : Blk), j ≠ k → getO (putO own k b) j = getO own j
  | [], 0, 0, b, h => absurd rfl h
  | [], 0, j + 1, b, h => rfl
  | [], k + 1, 0, b, h => rfl
  | [], k + 1, j + 1, b, h => getO_putO_ne [] k j b (by omega)
  | _ :: r, 0, 0, b, h => absurd rfl h
  | _ :: r, 0, j + 1, b, h => rfl
  | _ :: r, k + 1, 0, b, h => rfl
  | _ :: r, k + 1, j + 1, b, h => getO_putO_ne r k j b (by omega)
theorem SubOn.put {l : List Nat} (hs : SubOn l own own') (k : Nat) (b : Blk) : SubOn l (putO own k b) (putO own' k b) := fun j hj cs h => by
  by_cases e : j = k
  · subst e
    rw [getO_putO_self] at h ⊢
    exact h
  · rw [getO_putO_ne _ _ _ _ e] at h ⊢
    exact hs j hj cs h
theorem SubOn.putU {l : List Nat} : ∀ {u : U} {own own' : List Blk}, SubOn l own own' → SubOn l (Eng.putU own u) (Eng.putU own' u)
  | [], _, _, hs => hs
  | x :: r, _, _, hs => SubOn.putU (u := r) (hs.put x.1 x.2)
theorem vaPre_mono {l : List Nat} {k : Nat} {n : I} {r : List Prop × U} (hk : k ∈ l) (hs : SubOn l own own') (h : vaPre own k n = some r) : vaPre own' k n = some r := by
  unfold vaPre at h ⊢
  cases hg : getO own k with
  | none => rw [hg] at h; cases h
  | some cs => rw [hg] at h; rw [hs k hk cs hg]; exact h
theorem vaAll_mono {l : List Nat} {k : Nat} {u : U} (hk : k ∈ l) (hs : SubOn l own own') (h : vaAll own k = some u) : vaAll own' k = some u := by
  unfold vaAll at h ⊢
  cases hg : getO own k with
  | none => rw [hg] at h; cases h
  | some cs => rw [hg] at h; rw [hs k hk cs hg]; exact h
theorem aAppend_mono {P : Program} {ts : Array TypeId} {x y : S} {f : Nat} {r : List Prop × V × U} (hs : SubOn (rdB x ++ rdB y) own own') (h : aAppend P ts x y own f = some r) : aAppend P ts x y own' f = some r := by
  unfold aAppend at h ⊢
  split at h
  · split at h
    · split at h
      · rename_i hst
        split at h
        · rename_i q u1 hdst
          have h1 : vaDst own' x = some (q, u1) := by
            unfold vaDst at hdst ⊢
            split at hdst
            · exact vaPre_mono (by simp [rdB]) hs hdst
            · exact hdst
          rw [h1]
          simp only [hst]
          split at h
          · rename_i u3 hsrc
            have h2 : vaSrc (putU own' u1) y = some u3 := by
              unfold vaSrc at hsrc ⊢
              split at hsrc
              · exact vaAll_mono (l := rdB x ++ rdB (.sl _ _ _ _ _)) (by simp [rdB]) hs.putU hsrc
              · exact hsrc
            rw [h2]
            simp only []
            split at h
            · rename_i h0
              rw [aAppend0_mono hs.putU.putU h0]
              exact h
            · cases h
          · cases h
        · cases h
      · exact aAppend0_mono hs h
    · cases h
  · cases h
theorem aCopy_mono {P : Program} {ts : Array TypeId} {x y : S} {r : List Prop × V × U} (hs : SubOn (rdB x ++ rdB y) own own') (h : aCopy P ts x y own = some r) : aCopy P ts x y own' = some r := by
  unfold aCopy at h ⊢
  split at h
  · split at h
    · rename_i e hT
      simp only [] at h ⊢
      cases hb : Nat.blt 0 (P.cellsOf e) with
      | false => rw [hb] at h; cases h
      | true =>
        rw [hb] at h
        simp only [] at h ⊢
        cases x with
        | nil =>
          simp only [] at h ⊢
          cases hg : srcOf y own (P.cellsOf e) with
          | none => rw [hg] at h; cases h
          | some q => rw [hg] at h; rw [srcOf_mono hs.right hg]; exact h
        | sl k o i len z =>
          simp only [] at h ⊢
          cases hg : getO own k with
          | none => rw [hg] at h; cases h
          | some cs =>
            rw [hg] at h
            rw [hs k (by simp [rdB]) cs hg]
            cases hz : Nat.beq z (P.cellsOf e) with
            | false => rw [hz] at h; cases h
            | true =>
              rw [hz] at h
              simp only [] at h ⊢
              cases hg : srcOf y own z with
              | none => rw [hg] at h; cases h
              | some q => rw [hg] at h; rw [srcOf_mono hs.right hg]; exact h
        | _ => exact h
    · cases h
  · cases h
theorem aop_mono (hs : Sub own own') {P : Program} {o : Op} {fr : List V} {f : Nat} {r : List Prop × V × U} (h : aop P o fr own f = some r) : aop P o fr own' f = some r := by
  cases o with
  | load T x => exact aLoad_mono (hs.on _) h
  | store T x y => exact aStore_mono (hs.on _) h
  | convert s d x => exact aConv_mono (hs.on _) h
  | slice T x lo hi mx => exact aSlice_mono (hs.on _) h
  | call c =>
    simp only [aop] at h ⊢
    cases hc : c.callee with
    | builtin b =>
      rw [hc] at h
      simp only [] at h ⊢
      split at h
      · exact aAppend_mono (hs.on _) h
      · exact aCopy_mono (hs.on _) h
      · exact h
      · exact h
      · exact h
      · cases h
    | _ => rw [hc] at h; cases h
  | _ => exact h
theorem aop_on {P : Program} {o : Op} {fr : List V} {f : Nat} {l : List Nat} {r : List Prop × V × U} (hl : rdOf o fr = some l) (hs : SubOn l own own') (h : aop P o fr own f = some r) : aop P o fr own' f = some r := by
  cases o with
  | load T x => cases hl; exact aLoad_mono hs h
  | store T x y => cases hl; exact aStore_mono hs h
  | convert s d x => cases hl; exact aConv_mono hs h
  | slice T x lo hi mx => cases hl; exact aSlice_mono hs h
  | alloc T => exact h
  | box T x => exact h
  | buildSlice T n ps => exact h
  | makeSlice T x y => exact h
  | call c =>
    simp only [aop, rdOf] at h hl ⊢
    cases hc : c.callee with
    | builtin b =>
      rw [hc] at h hl
      simp only [] at h hl ⊢
      split at hl
      · rename_i x y hxy
        cases hl
        rw [hxy] at h
        rw [hxy]
        exact aAppend_mono hs h
      · rename_i x y hxy
        cases hl
        rw [hxy] at h
        rw [hxy]
        exact aCopy_mono hs h
      · cases hl
    | _ => rw [hc] at hl; cases hl
  | _ => cases hl
theorem aop_free {P : Program} {o : Op} {fr : List V} {f : Nat} (h : memFree o = true) (own own' : List Blk) : aop P o fr own f = aop P o fr own' f := by
  cases o <;> first | rfl | (cases h; done) | skip
  case call c =>
    simp only [aop]
    cases hc : c.callee with
    | builtin b =>
      simp only [memFree, hc] at h
      generalize c.args.toList = l
      cases b <;> first | (cases h; done) | rfl | (cases l with
        | nil => rfl
        | cons x l => cases l <;> rfl)
    | _ => rfl
theorem bytesOf_mono (hs : Sub own own') {x : S} {r : List Prop × List UInt8} (h : bytesOf x own = some r) : bytesOf x own' = some r := by
  unfold bytesOf at h ⊢
  split at h
  · rename_i h1 h2; rw [srcOf_mono (hs.on _) h2, h1]; exact h
  · rename_i h1 h2; rw [srcOf_mono (hs.on _) h2, h1]; exact h
  · cases h
theorem bytesAll_mono (hs : Sub own own') : ∀ {cs : List Ch} {r : List Prop × List (List UInt8)}, bytesAll own cs = some r → bytesAll own' cs = some r
  | [], _, h => h
  | .vec _ v :: r, _, h => by
    unfold bytesAll at h ⊢
    cases v with
    | sl l =>
      simp only [] at h ⊢
      split at h
      · cases h
      · rename_i hr
        rw [bytesAll_mono hs hr]
        exact h
    | _ => cases h
  | .one s :: r, _, h => by
    unfold bytesAll at h ⊢
    split at h
    · cases h
    · rename_i hb
      rw [bytesOf_mono hs hb]
      split at h
      · cases h
      · rename_i hr
        rw [bytesAll_mono hs hr]
        exact h
theorem purS0_mono (hs : Sub own own') {P : Program} {T : TypeId} {x : S} {r : List Prop × S} (h : purS0 P own T x = some r) : purS0 P own' T x = some r := by
  unfold purS0 at h ⊢
  cases x with
  | sl k o i len z =>
    simp only [] at h ⊢
    split at h
    · cases h
    · split at h
      · cases h
      · rename_i hsrc
        rw [srcOf_mono (hs.on _) hsrc]
        simp only [] at h ⊢
        split at h
        · exact h
        · exact h
        · split at h
          · rename_i hz hb
            rw [bytesAll_mono hs hb]
            simp only [hz]
            exact h
          · cases h
          · rename_i hz
            simp only [hz]
            exact h
  | _ => exact h
theorem purS_mono (hs : Sub own own') {P : Program} {T : TypeId} {x : S} {r : List Prop × S} (h : purS P own T x = some r) : purS P own' T x = some r := by
  unfold purS at h ⊢
  split at h
  · rename_i hq
    rw [purS0_mono hs hq]
    exact h
  · cases h
theorem purC1_mono (hs : Sub own own') {P : Program} {T : TypeId} {o : Nat} {x : S} {r : List Prop × S} (h : purC1 P own T o x = some r) : purC1 P own' T o x = some r := by
  unfold purC1 at h ⊢
  cases x with
  | sl k o i len z =>
    simp only [] at h ⊢
    split at h
    · split at h
      · rename_i hsrc; rw [srcOf_mono (hs.on _) hsrc]; exact h
      · rename_i hsrc; rw [srcOf_mono (hs.on _) hsrc]; exact h
      · cases h
    · split at h
      · split at h
        · rename_i hsrc; rw [srcOf_mono (hs.on _) hsrc]; exact h
        · rename_i hn hsrc
          rw [srcOf_mono (hs.on _) hsrc]
          split
          · rename_i e; cases e; exact absurd rfl (hn _ _)
          · rename_i e; cases e; exact h
          · rename_i e; cases e
        · cases h
      · cases h
  | _ => exact h
theorem purCs_mono (hs : Sub own own') {P : Program} {T : TypeId} : ∀ {cs : List Ch} {o : Nat} {r : List Prop × List Ch}, purCs P own T cs o = some r → purCs P own' T cs o = some r
  | [], _, _, h => h
  | .vec n v :: r, o, _, h => by
    unfold purCs at h ⊢
    rw [frcN_eq] at h ⊢
    split at h
    · cases h
    · rename_i hr
      rw [purCs_mono hs hr]
      exact h
  | .one s :: r, o, _, h => by
    unfold purCs at h ⊢
    split at h
    · cases h
    · rename_i q s' hq
      rw [purC1_mono hs hq]
      rw [frcN_eq] at h
      simp only [frcN_eq]
      split at h
      · cases h
      · rename_i hr
        rw [purCs_mono hs hr]
        exact h
theorem purV_mono (hs : Sub own own') {P : Program} {T : TypeId} {x : V} {r : List Prop × V} (h : purV P own T x = some r) : purV P own' T x = some r := by
  unfold purV at h ⊢
  cases x with
  | w x =>
    cases x with
    | s s =>
      simp only [] at h ⊢
      cases hp : purS P own T s with
      | none => rw [hp] at h; cases h
      | some q => rw [hp] at h; rw [purS_mono hs hp]; exact h
    | agg cs =>
      simp only [] at h ⊢
      cases hp : purCs P own T cs 0 with
      | none => rw [hp] at h; cases h
      | some q => rw [hp] at h; rw [purCs_mono hs hp]; exact h
  | tup l => cases h
theorem purL_mono (hs : Sub own own') {P : Program} : ∀ {Ts : List TypeId} {xs : List V} {r : List Prop × List V}, purL P own Ts xs = some r → purL P own' Ts xs = some r
  | [], [], _, h => h
  | [], _ :: _, _, h => by cases h
  | _ :: _, [], _, h => by cases h
  | T :: Ts, x :: xs, _, h => by
    unfold purL at h ⊢
    split at h
    · cases h
    · rename_i hx
      rw [purV_mono hs hx]
      split at h
      · cases h
      · rename_i hr
        rw [purL_mono hs hr]
        exact h
end Go.Eng
/- Plain functions, carried out at once. -/
namespace Go.Eng
open Go Go.RowKit

section
variable {P : Program} {own own' : List Blk}
theorem evOps_cons (own : List Blk) (z : Nat) (o : Oper) (r : List Oper) (fr : List V) : evOps P own z (o :: r) fr = match o.guard, opFn fr o.op with
    | none, false => match aop P o.op fr own z with
      | some (p, v, []) => frcV v fun v => frcL (putD fr o.dst v) fun fr => match evOps P own z r fr with
        | some (q, fr) => some (p ++ q, fr)
        | none => none
      | _ => none
    | _, _ => none := rfl
theorem evOps_inv {z : Nat} {o : Oper} {r : List Oper} {fr fr' : List V} {ps : List Prop} (h : evOps P own z (o :: r) fr = some (ps, fr')) :
    o.guard = none ∧ opFn fr o.op = false ∧ ∃ p v q, aop P o.op fr own z = some (p, v, []) ∧ evOps P own z r (putD fr o.dst v) = some (q, fr') ∧ ps = p ++ q := by
  rw [evOps_cons] at h
  split at h
  · rename_i hg hf
    split at h
    · rename_i p v ha
      rw [frcV_eq, frcL_eq] at h
      split at h
      · rename_i q fr2 hr
        cases h
        exact ⟨hg, hf, p, v, q, ha, hr, rfl⟩
      · cases h
    · cases h
  · cases h
theorem evOps_intro {z : Nat} {o : Oper} {r : List Oper} {fr fr' : List V} {p q : List Prop} {v : V} (h1 : o.guard = none) (h2 : opFn fr o.op = false) (h3 : aop P o.op fr own z = some (p, v, [])) (h4 : evOps P own z r (putD fr o.dst v) = some (q, fr')) :
    evOps P own z (o :: r) fr = some (p ++ q, fr') := by
  rw [evOps_cons, h1, h2]
  simp only []
  rw [h3]
  simp only []
  rw [frcV_eq, frcL_eq, h4]
theorem evOps_mono (hs : Sub own own') {z : Nat} : ∀ {l : List Oper} {fr : List V} {r : List Prop × List V}, evOps P own z l fr = some r → evOps P own' z l fr = some r
  | [], _, _, h => h
  | o :: l, fr, (ps, fr'), h => by
    obtain ⟨h1, h2, p, v, q, h3, h4, rfl⟩ := evOps_inv h
    exact evOps_intro h1 h2 (aop_mono hs h3) (evOps_mono hs h4)
theorem evCode_succ (own : List Blk) (z n : Nat) (c : Code) (fr : List V) : evCode P own z (n + 1) c fr = match c with
    | .skip => some ([], fr, false)
    | .ret => some ([], fr, true)
    | .region _ ops false => match evOps P own z ops.toList fr with
      | some (p, fr) => some (p, fr, false)
      | none => none
    | .seq a b => match evCode P own z n a fr with
      | some (p, fr, true) => some (p, fr, true)
      | some (p, fr, false) => match evCode P own z n b fr with
        | some (q, fr, r) => some (p ++ q, fr, r)
        | none => none
      | none => none
    | _ => none := rfl
theorem evCode_mono (hs : Sub own own') {z : Nat} : ∀ (n : Nat) {c : Code} {fr : List V} {r : List Prop × List V × Bool}, evCode P own z n c fr = some r → evCode P own' z n c fr = some r
  | 0, _, _, _, h => by cases h
  | n + 1, c, fr, r, h => by
    rw [evCode_succ] at h ⊢
    split at h
    · exact h
    · exact h
    · split at h
      · rename_i hr
        rw [evOps_mono hs hr]; exact h
      · cases h
    · split at h
      · rename_i ha
        rw [evCode_mono hs n ha]; exact h
      · rename_i ha
        rw [evCode_mono hs n ha]
        simp only []
        split at h
        · rename_i hb
          rw [evCode_mono hs n hb]; exact h
        · cases h
      · cases h
    · cases h
theorem resW_mono (hs : Sub own own') {fr : List V} {r : ResultVar} {x : W} (h : resW P ⟨fr, own⟩ r = some x) : resW P ⟨fr, own'⟩ r = some x := by
  unfold resW at h ⊢
  cases r with
  | tmp t => exact h
  | cell a T =>
    simp only [] at h ⊢
    split at h
    · rename_i hl
      rw [aLoad_mono (hs.on _) hl]; exact h
    · cases h
theorem resWs_mono (hs : Sub own own') {fr : List V} : ∀ {rs : List ResultVar} {x : List W}, resWs P ⟨fr, own⟩ rs = some x → resWs P ⟨fr, own'⟩ rs = some x
  | [], _, h => h
  | r :: rs, _, h => by
    unfold resWs at h ⊢
    split at h
    · cases h
    · rename_i hx
      rw [resW_mono hs hx]
      simp only []
      split at h
      · cases h
      · rename_i hr
        rw [resWs_mono hs hr]; exact h
theorem resOf_mono (hs : Sub own own') {fn : Func} {fr : List V} {v : V} (h : resOf P fn ⟨fr, own⟩ = some v) : resOf P fn ⟨fr, own'⟩ = some v := by
  unfold resOf at h ⊢
  split at h
  · rename_i hr; rw [resWs_mono hs hr]; exact h
  · rename_i l hne hr
    rw [resWs_mono hs hr]
    split
    · rename_i x hx; cases hx; exact absurd rfl (hne x)
    · rename_i hx; cases hx; exact h
    · rename_i hx; cases hx
  · cases h
theorem drInl_mono (hs : Sub own own') (hl : own.length = own'.length) {f : FuncId} {args : List V} {r : List Prop × V} (h : drInl P f args own = some r) : drInl P f args own' = some r := by
  unfold drInl at h ⊢
  split at h
  · cases h
  rename_i fn hf
  split at h
  · cases h
  rename_i c hb
  split at h
  · rename_i he
    split at h
    · rename_i hr
      rw [← hl, evCode_mono hs 40 he]
      simp only []
      rw [resOf_mono hs hr]
      exact h
    · cases h
  · cases h
end
section
variable {E : Env} {pre : Ad} {L : Nat} {wb : World} {own : List Blk}
theorem evOps_ok {ops : Array Oper} {Q : Exit → Act → World → Prop} {fr' : List V} (hQ : ∀ a w, Gst pre L wb ⟨fr', own⟩ a w → Q .normal a w) : ∀ (l : List Oper) (fr : List V) (ps : List Prop) (a : Act) (w : World),
    evOps E.P own own.length l fr = some (ps, fr') → all ps → Gst pre L wb ⟨fr, own⟩ a w → wpList E.P ops Q l a w
  | [], fr, ps, a, w, h, hp, hg => by cases h; exact hQ a w hg
  | o :: r, fr, ps, a, w, h, hp, hg => by
    obtain ⟨h1, h2, p, v, q, h3, h4, rfl⟩ := evOps_inv h
    obtain ⟨hp1, hp2⟩ := all_append.1 hp
    obtain ⟨A, hdom, hL, hk, ho, hfr, hd⟩ := hg
    refine wpList_step fun K' hK' => ?_
    have hw : Region.wanted o (yielded ops a.tmps) = true := by unfold Region.wanted; rw [h1]
    rw [hw]
    simp only [if_true]
    obtain ⟨A', w', k1, k2, k3⟩ := aop_ok h3 hp1 hfr ho ho.fresh
    have fin : ∀ x, v.rel A' w' x → K' (a.put o.dst x) w' := fun x hx => by
      refine hK' _ _ (evOps_ok hQ r _ q _ _ h4 hp2 ⟨A', hdom, hL, hk.trans k1, k2, ?_, ?_⟩)
      · show FrRel A' w' (putD fr o.dst v) (a.put o.dst x).tmps
        cases hdd : o.dst with
        | none => exact hfr.keep k1
        | some d => exact (hfr.keep k1).put d hx
      · cases o.dst <;> exact hd
    unfold Oper.wp
    rcases k3 with ⟨x, hx, hr⟩ | ⟨hx, rfl⟩
    · rw [hx, Oper.upon_value]
      exact fin x hr
    · rw [hx, Oper.upon_skip]
      exact fin _ trivial
def exOf (r : Bool) : Exit := if r = true then .ret else .normal
theorem evCode_ok : ∀ (n : Nat) (c : Code) (fr fr' : List V) (ps : List Prop) (r : Bool) (a : Act) (w : World), evCode E.P own own.length n c fr = some (ps, fr', r) → all ps → Gst pre L wb ⟨fr, own⟩ a w →
    c.wp E.P (fun e a w => e = exOf r ∧ Gst pre L wb ⟨fr', own⟩ a w) a w
  | 0, _, _, _, _, _, _, _, h, _, _ => by cases h
  | n + 1, c, fr, fr', ps, r, a, w, h, hp, hg => by
    rw [evCode_succ] at h
    split at h
    · cases h; exact wp_skip ⟨rfl, hg⟩
    · cases h; exact wp_ret ⟨rfl, hg⟩
    · split at h
      · rename_i he
        cases h
        exact wp_region_list (evOps_ok (fun a w hg => ⟨rfl, hg⟩) _ _ _ _ _ he hp hg)
      · cases h
    · split at h
      · rename_i ha
        cases h
        refine wp_seq (wp_mono (evCode_ok n _ _ _ _ _ a w ha hp hg) fun e a w ⟨he, hg⟩ => ?_)
        subst he
        exact ⟨rfl, hg⟩
      · rename_i ha
        split at h
        · rename_i hb
          cases h
          obtain ⟨hp1, hp2⟩ := all_append.1 hp
          refine wp_seq (wp_mono (evCode_ok n _ _ _ _ _ a w ha hp1 hg) fun e a w ⟨he, hg⟩ => ?_)
          subst he
          exact evCode_ok n _ _ _ _ _ a w hb hp2 hg
        · cases h
      · cases h
    · cases h
theorem drInl_ok (hE : EnvOk E) {f : FuncId} {args : List V} {ps : List Prop} {v : V} (h : drInl E.P f args own = some (ps, v)) (hp : all ps) {A : Ad} {w : World} (ho : OwnOK A w own) {vals : List Value} (hv : VsRel A w args vals) :
    Calls E.P f vals.toArray w fun e w' => ∃ x A', e = .returned x ∧ Keep A w A' w' ∧ OwnOK A' w' own ∧ v.rel A' w' x := by
  unfold drInl at h
  split at h
  · cases h
  rename_i fn hf
  split at h
  · cases h
  rename_i c hb
  split at h
  · rename_i p fr r he
    split at h
    · rename_i v' hr
      cases h
      refine calls_of_wp hf hb (wp_mono (evCode_ok (E := E) (pre := A) (L := own.length) (wb := w) 40 c _ _ _ _ _ w he hp ⟨A, ho.dom, Nat.le_refl _, .refl A w, ho, enter_fr (n := fn.ntmps) hv, rfl⟩) ?_)
      intro e a' w' ⟨hee, A', _, hL, hk, hoo, hfr, hd⟩
      obtain ⟨x, h1, h2⟩ := resOf_ok hr hfr hoo
      subst hee
      cases r <;> exact ⟨hd, x, h1, x, A', rfl, hk, hoo, h2⟩
    · cases h
  · cases h
end
end Go.Eng
