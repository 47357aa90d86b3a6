/- A symbolic executor over abstract states, its conditions shown to be enough for the model (part 1). -/
import Derived.WalkKit
/- The abstract domain of a verified symbolic executor, and its scalar operations. -/
namespace Go.Eng
open Go Go.RowKit

inductive I
  | n (x : Nat)
  | s (x : Nat)
def I.val : I → Nat
  | .n x => x
  | .s x => x
def I.add : I → I → I
  | .n x, .n y => .n (x + y)
  | x, y => .s (x.val + y.val)
def I.sub : I → I → I
  | .n x, .n y => .n (x - y)
  | x, y => .s (x.val - y.val)
def I.mul : I → Nat → I
  | .n x, z => .n (x * z)
  | .s x, z => bif z == 1 then .s x else .s (x * z)
theorem I.val_add (x y : I) : (x.add y).val = x.val + y.val := by cases x <;> cases y <;> rfl
theorem I.val_sub (x y : I) : (x.sub y).val = x.val - y.val := by cases x <;> cases y <;> rfl
theorem I.val_mul (x : I) (z : Nat) : (x.mul z).val = x.val * z := by
  cases x <;> simp only [I.mul, I.val]
  cases h : z == 1
  · rfl
  · have := beq_iff_eq.1 h; subst this; simp [cond]

inductive Vec
  | u8 (l : List UInt8)
  | u16 (l : List UInt16)
  | u32 (l : List UInt32)
  | u64 (l : List UInt64)
  | i64 (l : List Int)
  | bo (l : List Bool)
  | sl (l : List (List UInt8))
  | va (l : List Value)

def eu8 (x : UInt8) : Value := .int .u8 (x.toNat : Int)
def eu16 (x : UInt16) : Value := .int .u16 (x.toNat : Int)
def eu32 (x : UInt32) : Value := .int .u32 (x.toNat : Int)
def eu64 (x : UInt64) : Value := .int .u64 (x.toNat : Int)
def ei64 (x : Int) : Value := .int .i64 x
def ebo (x : Bool) : Value := .bool x

def Vec.len : Vec → Nat
  | .u8 l => l.length | .u16 l => l.length | .u32 l => l.length | .u64 l => l.length | .i64 l => l.length | .bo l => l.length | .sl l => l.length | .va l => l.length

inductive S
  | any
  | u8 (x : UInt8)
  | u16 (x : UInt16)
  | u32 (x : UInt32)
  | u64 (x : UInt64)
  | i64 (x : Int)
  | n (x : Int)
  | b (x : Bool)
  | lb (x : Bool)
  | str (l : List UInt8)
  | nil
  | ptr (b o : Nat)
  | pti (b o i : Nat)
  | sl (b o : Nat) (i len : I) (z : Nat)
  | xs (z : Nat) (len : I) (v : Vec)
  | xp (v : Vec) (i : Nat)
  | clo (f b o : Nat)
  | cst (v : Value)
  | row (v : Value) (n : Nat) (l : List UInt8)
  | mref (k : Nat)
  | mpc (l : List UInt64)

inductive Ch
  | one (s : S)
  | vec (n : I) (v : Vec)

inductive W
  | s (x : S)
  | agg (cs : List Ch)

inductive V
  | w (x : W)
  | tup (l : List W)

abbrev V.s (x : S) : V := .w (.s x)
abbrev V.agg (x : List Ch) : V := .w (.agg x)
abbrev V.any : V := .w (.s .any)

def Ch.size : Ch → I
  | .one _ => .n 1
  | .vec n _ => n

def shl8 (x : UInt8) (n : Nat) : UInt8 := UInt8.ofBitVec (x.toBitVec <<< n)
def shl16 (x : UInt16) (n : Nat) : UInt16 := UInt16.ofBitVec (x.toBitVec <<< n)
def shl32 (x : UInt32) (n : Nat) : UInt32 := UInt32.ofBitVec (x.toBitVec <<< n)
def shl64 (x : UInt64) (n : Nat) : UInt64 := UInt64.ofBitVec (x.toBitVec <<< n)
def shr8 (x : UInt8) (n : Nat) : UInt8 := UInt8.ofBitVec (x.toBitVec >>> n)
def shr16 (x : UInt16) (n : Nat) : UInt16 := UInt16.ofBitVec (x.toBitVec >>> n)
def shr32 (x : UInt32) (n : Nat) : UInt32 := UInt32.ofBitVec (x.toBitVec >>> n)
def shr64 (x : UInt64) (n : Nat) : UInt64 := UInt64.ofBitVec (x.toBitVec >>> n)
def iand (x y : Int) : Int := (BitVec.ofInt 64 x &&& BitVec.ofInt 64 y).toInt
def ior (x y : Int) : Int := (BitVec.ofInt 64 x ||| BitVec.ofInt 64 y).toInt
def ixor (x y : Int) : Int := (BitVec.ofInt 64 x ^^^ BitVec.ofInt 64 y).toInt
def iandn (x y : Int) : Int := (BitVec.ofInt 64 x &&& ~~~(BitVec.ofInt 64 y)).toInt
def InI (x : Int) : Prop := -9223372036854775808 ≤ x ∧ x < 9223372036854775808
def to8 (x : Int) : UInt8 := UInt8.ofBitVec (BitVec.ofInt 8 x)
def to16 (x : Int) : UInt16 := UInt16.ofBitVec (BitVec.ofInt 16 x)
def to32 (x : Int) : UInt32 := UInt32.ofBitVec (BitVec.ofInt 32 x)
def to64 (x : Int) : UInt64 := UInt64.ofBitVec (BitVec.ofInt 64 x)
def toI (x : UInt64) : Int := x.toBitVec.toInt

abbrev R (α : Type) := Option (List Prop × α)

def bin8 (op : BinOp) (x y : UInt8) : R S :=
  match op with
  | .add => some ([], .u8 (x + y)) | .sub => some ([], .u8 (x - y)) | .mul => some ([], .u8 (x * y))
  | .quo => some ([y ≠ 0], .u8 (x / y)) | .rem => some ([y ≠ 0], .u8 (x % y))
  | .and => some ([], .u8 (x &&& y)) | .or => some ([], .u8 (x ||| y)) | .xor => some ([], .u8 (x ^^^ y)) | .andNot => some ([], .u8 (x &&& ~~~y))
  | .eql => some ([], .b (x == y)) | .neq => some ([], .b (x != y)) | .lss => some ([], .b (decide (x < y))) | .leq => some ([], .b (decide (x ≤ y)))
  | .gtr => some ([], .b (decide (y < x))) | .geq => some ([], .b (decide (y ≤ x)))
  | _ => none
def bin16 (op : BinOp) (x y : UInt16) : R S :=
  match op with
  | .add => some ([], .u16 (x + y)) | .sub => some ([], .u16 (x - y)) | .mul => some ([], .u16 (x * y))
  | .quo => some ([y ≠ 0], .u16 (x / y)) | .rem => some ([y ≠ 0], .u16 (x % y))
  | .and => some ([], .u16 (x &&& y)) | .or => some ([], .u16 (x ||| y)) | .xor => some ([], .u16 (x ^^^ y)) | .andNot => some ([], .u16 (x &&& ~~~y))
  | .eql => some ([], .b (x == y)) | .neq => some ([], .b (x != y)) | .lss => some ([], .b (decide (x < y))) | .leq => some ([], .b (decide (x ≤ y)))
  | .gtr => some ([], .b (decide (y < x))) | .geq => some ([], .b (decide (y ≤ x)))
  | _ => none
def bin32 (op : BinOp) (x y : UInt32) : R S :=
  match op with
  | .add => some ([], .u32 (x + y)) | .sub => some ([], .u32 (x - y)) | .mul => some ([], .u32 (x * y))
  | .quo => some ([y ≠ 0], .u32 (x / y)) | .rem => some ([y ≠ 0], .u32 (x % y))
  | .and => some ([], .u32 (x &&& y)) | .or => some ([], .u32 (x ||| y)) | .xor => some ([], .u32 (x ^^^ y)) | .andNot => some ([], .u32 (x &&& ~~~y))
  | .eql => some ([], .b (x == y)) | .neq => some ([], .b (x != y)) | .lss => some ([], .b (decide (x < y))) | .leq => some ([], .b (decide (x ≤ y)))
  | .gtr => some ([], .b (decide (y < x))) | .geq => some ([], .b (decide (y ≤ x)))
  | _ => none
def bin64 (op : BinOp) (x y : UInt64) : R S :=
  match op with
  | .add => some ([], .u64 (x + y)) | .sub => some ([], .u64 (x - y)) | .mul => some ([], .u64 (x * y))
  | .quo => some ([y ≠ 0], .u64 (x / y)) | .rem => some ([y ≠ 0], .u64 (x % y))
  | .and => some ([], .u64 (x &&& y)) | .or => some ([], .u64 (x ||| y)) | .xor => some ([], .u64 (x ^^^ y)) | .andNot => some ([], .u64 (x &&& ~~~y))
  | .eql => some ([], .b (x == y)) | .neq => some ([], .b (x != y)) | .lss => some ([], .b (decide (x < y))) | .leq => some ([], .b (decide (x ≤ y)))
  | .gtr => some ([], .b (decide (y < x))) | .geq => some ([], .b (decide (y ≤ x)))
  | _ => none
def binI (op : BinOp) (x y : Int) : R S :=
  match op with
  | .add => some ([InI (x + y)], .i64 (x + y)) | .sub => some ([InI (x - y)], .i64 (x - y)) | .mul => some ([InI (x * y)], .i64 (x * y))
  | .quo => some ([y ≠ 0 ∧ InI (x.tdiv y)], .i64 (x.tdiv y)) | .rem => some ([y ≠ 0], .i64 (x.tmod y))
  | .and => some ([], .i64 (iand x y)) | .or => some ([], .i64 (ior x y)) | .xor => some ([], .i64 (ixor x y)) | .andNot => some ([], .i64 (iandn x y))
  | .eql => some ([], .b (decide (x = y))) | .neq => some ([], .b (decide (x ≠ y))) | .lss => some ([], .b (decide (x < y))) | .leq => some ([], .b (decide (x ≤ y)))
  | .gtr => some ([], .b (decide (y < x))) | .geq => some ([], .b (decide (y ≤ x)))
  | _ => none
def frcN {α : Type} (x : Nat) (k : Nat → α) : α := Nat.casesOn x (k 0) fun y => k (y + 1)
def frc {α : Type} (x : Int) (k : Int → α) : α := Int.casesOn x (fun m => frcN m fun m => k (.ofNat m)) (fun m => frcN m fun m => k (.negSucc m))
theorem frcN_eq {α : Type} (x : Nat) (k : Nat → α) : frcN x k = k x := by cases x <;> rfl
theorem frc_eq {α : Type} (x : Int) (k : Int → α) : frc x k = k x := by cases x <;> simp [frc, frcN_eq]
def litI (x : Int) : R S := frc (IntKind.i64.wrap x) fun x => some ([], .n x)
def litB (x : Bool) : R S := match x with | true => some ([], .lb true) | false => some ([], .lb false)
def binN (op : BinOp) (x y : Int) : R S :=
  match op with
  | .add => litI (x + y) | .sub => litI (x - y) | .mul => litI (x * y)
  | .quo => match y == 0 with | true => none | false => litI (x.tdiv y)
  | .rem => match y == 0 with | true => none | false => frc (x.tmod y) fun z => some ([], .n z)
  | .and => frc (iand x y) fun z => some ([], .n z) | .or => frc (ior x y) fun z => some ([], .n z) | .xor => frc (ixor x y) fun z => some ([], .n z)
  | .andNot => frc (iandn x y) fun z => some ([], .n z)
  | .eql => litB (x == y) | .neq => litB (x != y) | .lss => litB (decide (x < y)) | .leq => litB (decide (x ≤ y))
  | .gtr => litB (decide (y < x)) | .geq => litB (decide (y ≤ x))
  | _ => none
def shiftBy : S → R Nat
  | .n x => match decide (0 ≤ x) with | true => frcN x.toNat fun k => some ([], k) | false => none
  | .i64 x => some ([0 ≤ x], x.toNat)
  | .u8 x => some ([], x.toNat) | .u16 x => some ([], x.toNat) | .u32 x => some ([], x.toNat) | .u64 x => some ([], x.toNat)
  | _ => none
def shlS (x : S) (k : Nat) : R S :=
  match x with
  | .u8 x => some ([], .u8 (shl8 x k)) | .u16 x => some ([], .u16 (shl16 x k)) | .u32 x => some ([], .u32 (shl32 x k)) | .u64 x => some ([], .u64 (shl64 x k))
  | .i64 x => some ([k ≤ 64 ∧ InI (x * 2 ^ k)], .i64 (x * 2 ^ k))
  | .n x => litI (x * 2 ^ (min k 64))
  | _ => none
def shrS (x : S) (k : Nat) : R S :=
  match x with
  | .u8 x => some ([], .u8 (shr8 x k)) | .u16 x => some ([], .u16 (shr16 x k)) | .u32 x => some ([], .u32 (shr32 x k)) | .u64 x => some ([], .u64 (shr64 x k))
  | .i64 x => some ([k ≤ 64], .i64 (x / 2 ^ k))
  | .n x => frc (x / 2 ^ (min k 64)) fun z => some ([], .n z)
  | _ => none
def bindR {α β : Type} (x : R α) (f : α → R β) : R β :=
  match x with
  | none => none
  | some (p, a) => match f a with
    | none => none
    | some (q, b) => some (p ++ q, b)
def binS (tb : Bool) (op : BinOp) (x y : S) : R S :=
  match op with
  | .shl => bindR (shiftBy y) (shlS x)
  | .shr => bindR (shiftBy y) (shrS x)
  | op => match x, y with
    | .u8 x, .u8 y => bin8 op x y
    | .u16 x, .u16 y => bin16 op x y
    | .u32 x, .u32 y => bin32 op x y
    | .u64 x, .u64 y => bin64 op x y
    | .n x, .n y => binN op x y
    | .n x, .i64 y => binI op x y
    | .i64 x, .n y => binI op x y
    | .i64 x, .i64 y => binI op x y
    | .str x, .str y => match op with
      | .eql => some ([], .b (decide (x = y)))
      | .neq => some ([], .b (decide (x ≠ y)))
      | .add => some ([(x.length + y.length ≤ 4294967296)], .str (x ++ y))
      | .lss => some ([], .b (Op.bytesLess x y))
      | .leq => some ([], .b (Op.bytesLess x y || x == y))
      | .gtr => some ([], .b (!(Op.bytesLess x y || x == y)))
      | .geq => some ([], .b (!Op.bytesLess x y))
      | _ => none
    | .lb x, .lb y => match op, tb with
      | .eql, true => litB (x == y)
      | .neq, true => litB (x != y)
      | _, _ => none
    | .lb x, .b y => match op, tb with
      | .eql, true => some ([], .b (x == y))
      | .neq, true => some ([], .b (x != y))
      | _, _ => none
    | .b x, .lb y => match op, tb with
      | .eql, true => some ([], .b (x == y))
      | .neq, true => some ([], .b (x != y))
      | _, _ => none
    | .b x, .b y => match op, tb with
      | .eql, true => some ([], .b (x == y))
      | .neq, true => some ([], .b (x != y))
      | _, _ => none
    | _, _ => none
def unS (op : UnOp) (x : S) : R S :=
  match op, x with
  | .neg, .i64 x => some ([InI (-x)], .i64 (-x))
  | .neg, .n x => litI (-x)
  | .xor, .u8 x => some ([], .u8 (~~~x)) | .xor, .u16 x => some ([], .u16 (~~~x)) | .xor, .u32 x => some ([], .u32 (~~~x)) | .xor, .u64 x => some ([], .u64 (~~~x))
  | .not, .b x => some ([], .b (!x))
  | .not, .lb x => litB (!x)
  | _, _ => none
def convS (k : IntKind) (x : S) : R S :=
  match k, x with
  | .u8, .u8 x => some ([], .u8 x)
  | .u16, .u16 x => some ([], .u16 x)
  | .u32, .u32 x => some ([], .u32 x)
  | .u64, .u64 x => some ([], .u64 x)
  | .u8, .u16 x => some ([], .u8 x.toUInt8) | .u8, .u32 x => some ([], .u8 x.toUInt8) | .u8, .u64 x => some ([], .u8 x.toUInt8)
  | .u16, .u8 x => some ([], .u16 x.toUInt16) | .u16, .u32 x => some ([], .u16 x.toUInt16) | .u16, .u64 x => some ([], .u16 x.toUInt16)
  | .u32, .u8 x => some ([], .u32 x.toUInt32) | .u32, .u16 x => some ([], .u32 x.toUInt32) | .u32, .u64 x => some ([], .u32 x.toUInt32)
  | .u64, .u8 x => some ([], .u64 x.toUInt64) | .u64, .u16 x => some ([], .u64 x.toUInt64) | .u64, .u32 x => some ([], .u64 x.toUInt64)
  | .u8, .i64 x => some ([], .u8 (to8 x)) | .u16, .i64 x => some ([], .u16 (to16 x)) | .u32, .i64 x => some ([], .u32 (to32 x)) | .u64, .i64 x => some ([], .u64 (to64 x))
  | .u8, .n x => some ([], .u8 (to8 x)) | .u16, .n x => some ([], .u16 (to16 x)) | .u32, .n x => some ([], .u32 (to32 x)) | .u64, .n x => some ([], .u64 (to64 x))
  | .i64, .u8 x => some ([], .i64 x.toNat) | .i64, .u16 x => some ([], .i64 x.toNat) | .i64, .u32 x => some ([], .i64 x.toNat) | .i64, .u64 x => some ([], .i64 (toI x))
  | .i64, .i64 x => some ([InI x], .i64 x)
  | .i64, .n x => litI x
  | _, _ => none
def minS (x y : S) : R S :=
  match x, y with
  | .n x, .n y => match decide (y < x) with | true => some ([], .n y) | false => some ([], .n x)
  | .n x, .i64 y => some ([], .i64 (min x y)) | .i64 x, .n y => some ([], .i64 (min x y)) | .i64 x, .i64 y => some ([], .i64 (min x y))
  | .u64 x, .u64 y => some ([], .u64 (if y < x then y else x))
  | .u8 x, .u8 y => some ([], .u8 (if y < x then y else x))
  | _, _ => none
def maxS (x y : S) : R S :=
  match x, y with
  | .n x, .n y => match decide (x < y) with | true => some ([], .n y) | false => some ([], .n x)
  | .n x, .i64 y => some ([], .i64 (max x y)) | .i64 x, .n y => some ([], .i64 (max x y)) | .i64 x, .i64 y => some ([], .i64 (max x y))
  | .u64 x, .u64 y => some ([], .u64 (if x < y then y else x))
  | .u32 x, .u32 y => some ([], .u32 (if x < y then y else x))
  | _, _ => none
end Go.Eng
/- The scalar operations do what the model's do. -/
namespace Go.Eng
open Go Go.RowKit

def S.sc : S → Value → Prop
  | .u8 x, v => v = eu8 x
  | .u16 x, v => v = eu16 x
  | .u32 x, v => v = eu32 x
  | .u64 x, v => v = eu64 x
  | .i64 x, v => v = ei64 x
  | .n x, v => v = ei64 x
  | .b x, v => v = .bool x
  | .lb x, v => v = .bool x
  | .str l, v => v = .string ⟨l.toArray⟩
  | _, _ => False

def all (ps : List Prop) : Prop := ∀ p ∈ ps, p
theorem all_nil : all [] := fun _ h => by cases h
theorem all_cons {p : Prop} {ps : List Prop} : all (p :: ps) ↔ p ∧ all ps :=
  ⟨fun h => ⟨h p (.head _), fun q hq => h q (.tail _ hq)⟩, fun h q hq => by
    cases hq with
    | head => exact h.1
    | tail _ hq => exact h.2 q hq⟩
theorem all_append {ps qs : List Prop} : all (ps ++ qs) ↔ all ps ∧ all qs := by
  simp only [all, List.mem_append]
  exact ⟨fun h => ⟨fun p hp => h p (.inl hp), fun p hp => h p (.inr hp)⟩, fun h p hp => hp.elim (h.1 p) (h.2 p)⟩

theorem wrap_u8 (x : Int) : IntKind.u8.wrap x = x % 256 := by simp [IntKind.wrap, IntKind.bits, IntKind.signed]
theorem wrap_u16 (x : Int) : IntKind.u16.wrap x = x % 65536 := by simp [IntKind.wrap, IntKind.bits, IntKind.signed]
theorem wrap_u32 (x : Int) : IntKind.u32.wrap x = x % 4294967296 := by simp [IntKind.wrap, IntKind.bits, IntKind.signed]
theorem wrap_u64 (x : Int) : IntKind.u64.wrap x = x % 18446744073709551616 := by simp [IntKind.wrap, IntKind.bits, IntKind.signed]
theorem wrap_i64 {x : Int} (h : InI x) : IntKind.i64.wrap x = x := by
  obtain ⟨h1, h2⟩ := h
  simp [IntKind.wrap, IntKind.bits, IntKind.signed]
  split <;> omega
theorem wrap_i64_bv (b : BitVec 64) : IntKind.i64.wrap (b.toNat : Int) = b.toInt := by
  have := b.isLt
  simp [IntKind.wrap, IntKind.bits, IntKind.signed, BitVec.toInt]
  split <;> split <;> omega
theorem ofInt_nat8 (x : UInt8) : BitVec.ofInt 8 (x.toNat : Int) = x.toBitVec := by
  apply BitVec.eq_of_toNat_eq; have := x.toNat_lt; simp
theorem ofInt_nat16 (x : UInt16) : BitVec.ofInt 16 (x.toNat : Int) = x.toBitVec := by
  apply BitVec.eq_of_toNat_eq; have := x.toNat_lt; simp
theorem ofInt_nat32 (x : UInt32) : BitVec.ofInt 32 (x.toNat : Int) = x.toBitVec := by
  apply BitVec.eq_of_toNat_eq; have := x.toNat_lt; simp
theorem ofInt_nat64 (x : UInt64) : BitVec.ofInt 64 (x.toNat : Int) = x.toBitVec := by
  apply BitVec.eq_of_toNat_eq; have := x.toNat_lt; simp

theorem run_pure {α : Type} (P : Program) (w : World) (x : α) : (pure x : Sem α).run P w = .ok x w := rfl

theorem wrapbv8 (b : BitVec 8) : IntKind.u8.wrap (b.toNat : Int) = b.toNat := by rw [wrap_u8]; have := b.isLt; omega
theorem bits_u8 (op : BinOp) (x y : UInt8) (P : Program) (w : World) (h : op = .and ∨ op = .or ∨ op = .xor ∨ op = .andNot) :
    (Op.intBits op .u8 x.toNat y.toNat).run P w = .ok (eu8 (match op with | .and => x &&& y | .or => x ||| y | .xor => x ^^^ y | _ => x &&& ~~~y)) w := by
  have e1 := ofInt_nat8 x; have e2 := ofInt_nat8 y
  rcases h with rfl | rfl | rfl | rfl <;> simp only [Op.intBits, IntKind.bits, e1, e2, run_pure]
  · exact congrArg (fun z => Result.ok (Value.int .u8 z) w) (wrapbv8 (x.toBitVec &&& y.toBitVec))
  · exact congrArg (fun z => Result.ok (Value.int .u8 z) w) (wrapbv8 (x.toBitVec ||| y.toBitVec))
  · exact congrArg (fun z => Result.ok (Value.int .u8 z) w) (wrapbv8 (x.toBitVec ^^^ y.toBitVec))
  · exact congrArg (fun z => Result.ok (Value.int .u8 z) w) (wrapbv8 (x.toBitVec &&& ~~~y.toBitVec))
theorem wrapbv16 (b : BitVec 16) : IntKind.u16.wrap (b.toNat : Int) = b.toNat := by rw [wrap_u16]; have := b.isLt; omega
theorem bits_u16 (op : BinOp) (x y : UInt16) (P : Program) (w : World) (h : op = .and ∨ op = .or ∨ op = .xor ∨ op = .andNot) :
    (Op.intBits op .u16 x.toNat y.toNat).run P w = .ok (eu16 (match op with | .and => x &&& y | .or => x ||| y | .xor => x ^^^ y | _ => x &&& ~~~y)) w := by
  have e1 := ofInt_nat16 x; have e2 := ofInt_nat16 y
  rcases h with rfl | rfl | rfl | rfl <;> simp only [Op.intBits, IntKind.bits, e1, e2, run_pure]
  · exact congrArg (fun z => Result.ok (Value.int .u16 z) w) (wrapbv16 (x.toBitVec &&& y.toBitVec))
  · exact congrArg (fun z => Result.ok (Value.int .u16 z) w) (wrapbv16 (x.toBitVec ||| y.toBitVec))
  · exact congrArg (fun z => Result.ok (Value.int .u16 z) w) (wrapbv16 (x.toBitVec ^^^ y.toBitVec))
  · exact congrArg (fun z => Result.ok (Value.int .u16 z) w) (wrapbv16 (x.toBitVec &&& ~~~y.toBitVec))
theorem wrapbv32 (b : BitVec 32) : IntKind.u32.wrap (b.toNat : Int) = b.toNat := by rw [wrap_u32]; have := b.isLt; omega
theorem bits_u32 (op : BinOp) (x y : UInt32) (P : Program) (w : World) (h : op = .and ∨ op = .or ∨ op = .xor ∨ op = .andNot) :
    (Op.intBits op .u32 x.toNat y.toNat).run P w = .ok (eu32 (match op with | .and => x &&& y | .or => x ||| y | .xor => x ^^^ y | _ => x &&& ~~~y)) w := by
  have e1 := ofInt_nat32 x; have e2 := ofInt_nat32 y
  rcases h with rfl | rfl | rfl | rfl <;> simp only [Op.intBits, IntKind.bits, e1, e2, run_pure]
  · exact congrArg (fun z => Result.ok (Value.int .u32 z) w) (wrapbv32 (x.toBitVec &&& y.toBitVec))
  · exact congrArg (fun z => Result.ok (Value.int .u32 z) w) (wrapbv32 (x.toBitVec ||| y.toBitVec))
  · exact congrArg (fun z => Result.ok (Value.int .u32 z) w) (wrapbv32 (x.toBitVec ^^^ y.toBitVec))
  · exact congrArg (fun z => Result.ok (Value.int .u32 z) w) (wrapbv32 (x.toBitVec &&& ~~~y.toBitVec))
theorem wrapbv64 (b : BitVec 64) : IntKind.u64.wrap (b.toNat : Int) = b.toNat := by rw [wrap_u64]; have := b.isLt; omega
theorem bits_u64 (op : BinOp) (x y : UInt64) (P : Program) (w : World) (h : op = .and ∨ op = .or ∨ op = .xor ∨ op = .andNot) :
    (Op.intBits op .u64 x.toNat y.toNat).run P w = .ok (eu64 (match op with | .and => x &&& y | .or => x ||| y | .xor => x ^^^ y | _ => x &&& ~~~y)) w := by
  have e1 := ofInt_nat64 x; have e2 := ofInt_nat64 y
  rcases h with rfl | rfl | rfl | rfl <;> simp only [Op.intBits, IntKind.bits, e1, e2, run_pure]
  · exact congrArg (fun z => Result.ok (Value.int .u64 z) w) (wrapbv64 (x.toBitVec &&& y.toBitVec))
  · exact congrArg (fun z => Result.ok (Value.int .u64 z) w) (wrapbv64 (x.toBitVec ||| y.toBitVec))
  · exact congrArg (fun z => Result.ok (Value.int .u64 z) w) (wrapbv64 (x.toBitVec ^^^ y.toBitVec))
  · exact congrArg (fun z => Result.ok (Value.int .u64 z) w) (wrapbv64 (x.toBitVec &&& ~~~y.toBitVec))
theorem bits_i64 (op : BinOp) (x y : Int) (P : Program) (w : World) (h : op = .and ∨ op = .or ∨ op = .xor ∨ op = .andNot) :
    (Op.intBits op .i64 x y).run P w = .ok (ei64 (match op with | .and => iand x y | .or => ior x y | .xor => ixor x y | _ => iandn x y)) w := by
  rcases h with rfl | rfl | rfl | rfl <;> simp only [Op.intBits, IntKind.bits, run_pure, ei64, wrap_i64_bv] <;> rfl

def ScOk (P : Program) (w : World) (m : Sem Value) (s : S) : Prop := ∃ u, m.run P w = .ok u w ∧ s.sc u

theorem binOp_int (P : Program) (w : World) (op : BinOp) (T : TypeId) (k : IntKind) (a b : Int) (h1 : op ≠ .shl) (h2 : op ≠ .shr) :
    (binOp op T (.int k a) (.int k b)).run P w = (match op with
    | .add | .sub | .mul => Op.intArith op k a b
    | .quo | .rem => Op.intDiv op k a b
    | .and | .or | .xor | .andNot => Op.intBits op k a b
    | _ => Op.intCmp op a b).run P w := by
  cases op <;> first | (exact absurd rfl h1) | (exact absurd rfl h2) | simp [binOp]

theorem bin8_ok {P : Program} {w : World} {T : TypeId} {op : BinOp} {x y : UInt8} {p : List Prop} {s : S} (h : bin8 op x y = some (p, s)) (hp : all p) :
    ScOk P w (binOp op T (eu8 x) (eu8 y)) s := by
  have hx : x.toNat < 256 := x.toNat_lt
  have hy : y.toNat < 256 := y.toNat_lt
  cases op <;> simp only [bin8, Option.some.injEq, Prod.mk.injEq, reduceCtorEq] at h <;> obtain ⟨rfl, rfl⟩ := h
  case add =>
    refine ⟨_, rfl, ?_⟩
    show Value.int .u8 _ = Value.int .u8 _
    refine congrArg (Value.int .u8) ?_
    rw [wrap_u8, UInt8.toNat_add]; omega
  case sub =>
    refine ⟨_, rfl, ?_⟩
    simp only [S.sc, eu8]; congr 1
    rw [wrap_u8, UInt8.toNat_sub]; omega
  case mul =>
    refine ⟨_, rfl, ?_⟩
    show Value.int .u8 _ = Value.int .u8 _
    refine congrArg (Value.int .u8) ?_
    rw [wrap_u8, UInt8.toNat_mul]; rw [Int.natCast_emod, Int.natCast_mul]; rfl
  case quo =>
    have h0 : y ≠ 0 := (all_cons.1 hp).1
    have h1 : y.toNat ≠ 0 := fun e => h0 (UInt8.toNat_inj.1 (by simpa using e))
    refine ⟨_, (by unfold eu8; rw [binOp_int _ _ _ _ _ _ _ (by simp) (by simp)]; simp only [Op.intDiv]; rw [if_neg (by omega)]; rfl), ?_⟩
    simp only [S.sc, eu8]; congr 1
    rw [wrap_u8, UInt8.toNat_div, ← Int.ofNat_tdiv]
    have := Nat.div_le_self x.toNat y.toNat
    generalize x.toNat / y.toNat = q at *
    omega
  case rem =>
    have h0 : y ≠ 0 := (all_cons.1 hp).1
    have h1 : y.toNat ≠ 0 := fun e => h0 (UInt8.toNat_inj.1 (by simpa using e))
    refine ⟨_, (by unfold eu8; rw [binOp_int _ _ _ _ _ _ _ (by simp) (by simp)]; simp only [Op.intDiv]; rw [if_neg (by omega)]; rfl), ?_⟩
    simp only [S.sc, eu8]; congr 1
  case and => exact ⟨_, (by unfold eu8; rw [binOp_int _ _ _ _ _ _ _ (by simp) (by simp)]; exact bits_u8 .and x y P w (by simp)), rfl⟩
  case or => exact ⟨_, (by unfold eu8; rw [binOp_int _ _ _ _ _ _ _ (by simp) (by simp)]; exact bits_u8 .or x y P w (by simp)), rfl⟩
  case xor => exact ⟨_, (by unfold eu8; rw [binOp_int _ _ _ _ _ _ _ (by simp) (by simp)]; exact bits_u8 .xor x y P w (by simp)), rfl⟩
  case andNot => exact ⟨_, (by unfold eu8; rw [binOp_int _ _ _ _ _ _ _ (by simp) (by simp)]; exact bits_u8 .andNot x y P w (by simp)), rfl⟩
  all_goals
    refine ⟨_, rfl, ?_⟩
    simp only [S.sc]; congr 1
    rw [Bool.eq_iff_iff]
    try simp [← UInt8.toNat_inj, UInt8.lt_iff_toNat_lt, UInt8.le_iff_toNat_le] <;> omega

theorem bin16_ok {P : Program} {w : World} {T : TypeId} {op : BinOp} {x y : UInt16} {p : List Prop} {s : S} (h : bin16 op x y = some (p, s)) (hp : all p) :
    ScOk P w (binOp op T (eu16 x) (eu16 y)) s := by
  have hx : x.toNat < 65536 := x.toNat_lt
  have hy : y.toNat < 65536 := y.toNat_lt
  cases op <;> simp only [bin16, Option.some.injEq, Prod.mk.injEq, reduceCtorEq] at h <;> obtain ⟨rfl, rfl⟩ := h
  case add =>
    refine ⟨_, rfl, ?_⟩
    show Value.int .u16 _ = Value.int .u16 _
    refine congrArg (Value.int .u16) ?_
    rw [wrap_u16, UInt16.toNat_add]; omega
  case sub =>
    refine ⟨_, rfl, ?_⟩
    simp only [S.sc, eu16]; congr 1
    rw [wrap_u16, UInt16.toNat_sub]; omega
  case mul =>
    refine ⟨_, rfl, ?_⟩
    show Value.int .u16 _ = Value.int .u16 _
    refine congrArg (Value.int .u16) ?_
    rw [wrap_u16, UInt16.toNat_mul]; rw [Int.natCast_emod, Int.natCast_mul]; rfl
  case quo =>
    have h0 : y ≠ 0 := (all_cons.1 hp).1
    have h1 : y.toNat ≠ 0 := fun e => h0 (UInt16.toNat_inj.1 (by simpa using e))
    refine ⟨_, (by unfold eu16; rw [binOp_int _ _ _ _ _ _ _ (by simp) (by simp)]; simp only [Op.intDiv]; rw [if_neg (by omega)]; rfl), ?_⟩
    simp only [S.sc, eu16]; congr 1
    rw [wrap_u16, UInt16.toNat_div, ← Int.ofNat_tdiv]
    have := Nat.div_le_self x.toNat y.toNat
    generalize x.toNat / y.toNat = q at *
    omega
  case rem =>
    have h0 : y ≠ 0 := (all_cons.1 hp).1
    have h1 : y.toNat ≠ 0 := fun e => h0 (UInt16.toNat_inj.1 (by simpa using e))
    refine ⟨_, (by unfold eu16; rw [binOp_int _ _ _ _ _ _ _ (by simp) (by simp)]; simp only [Op.intDiv]; rw [if_neg (by omega)]; rfl), ?_⟩
    simp only [S.sc, eu16]; congr 1
  case and => exact ⟨_, (by unfold eu16; rw [binOp_int _ _ _ _ _ _ _ (by simp) (by simp)]; exact bits_u16 .and x y P w (by simp)), rfl⟩
  case or => exact ⟨_, (by unfold eu16; rw [binOp_int _ _ _ _ _ _ _ (by simp) (by simp)]; exact bits_u16 .or x y P w (by simp)), rfl⟩
  case xor => exact ⟨_, (by unfold eu16; rw [binOp_int _ _ _ _ _ _ _ (by simp) (by simp)]; exact bits_u16 .xor x y P w (by simp)), rfl⟩
  case andNot => exact ⟨_, (by unfold eu16; rw [binOp_int _ _ _ _ _ _ _ (by simp) (by simp)]; exact bits_u16 .andNot x y P w (by simp)), rfl⟩
  all_goals
    refine ⟨_, rfl, ?_⟩
    simp only [S.sc]; congr 1
    rw [Bool.eq_iff_iff]
    try simp [← UInt16.toNat_inj, UInt16.lt_iff_toNat_lt, UInt16.le_iff_toNat_le] <;> omega

theorem bin32_ok {P : Program} {w : World} {T : TypeId} {op : BinOp} {x y : UInt32} {p : List Prop} {s : S} (h : bin32 op x y = some (p, s)) (hp : all p) :
    ScOk P w (binOp op T (eu32 x) (eu32 y)) s := by
  have hx : x.toNat < 4294967296 := x.toNat_lt
  have hy : y.toNat < 4294967296 := y.toNat_lt
  cases op <;> simp only [bin32, Option.some.injEq, Prod.mk.injEq, reduceCtorEq] at h <;> obtain ⟨rfl, rfl⟩ := h
  case add =>
    refine ⟨_, rfl, ?_⟩
    show Value.int .u32 _ = Value.int .u32 _
    refine congrArg (Value.int .u32) ?_
    rw [wrap_u32, UInt32.toNat_add]; omega
  case sub =>
    refine ⟨_, rfl, ?_⟩
    simp only [S.sc, eu32]; congr 1
    rw [wrap_u32, UInt32.toNat_sub]; omega
  case mul =>
    refine ⟨_, rfl, ?_⟩
    show Value.int .u32 _ = Value.int .u32 _
    refine congrArg (Value.int .u32) ?_
    rw [wrap_u32, UInt32.toNat_mul]; rw [Int.natCast_emod, Int.natCast_mul]; rfl
  case quo =>
    have h0 : y ≠ 0 := (all_cons.1 hp).1
    have h1 : y.toNat ≠ 0 := fun e => h0 (UInt32.toNat_inj.1 (by simpa using e))
    refine ⟨_, (by unfold eu32; rw [binOp_int _ _ _ _ _ _ _ (by simp) (by simp)]; simp only [Op.intDiv]; rw [if_neg (by omega)]; rfl), ?_⟩
    simp only [S.sc, eu32]; congr 1
    rw [wrap_u32, UInt32.toNat_div, ← Int.ofNat_tdiv]
    have := Nat.div_le_self x.toNat y.toNat
    generalize x.toNat / y.toNat = q at *
    omega
  case rem =>
    have h0 : y ≠ 0 := (all_cons.1 hp).1
    have h1 : y.toNat ≠ 0 := fun e => h0 (UInt32.toNat_inj.1 (by simpa using e))
    refine ⟨_, (by unfold eu32; rw [binOp_int _ _ _ _ _ _ _ (by simp) (by simp)]; simp only [Op.intDiv]; rw [if_neg (by omega)]; rfl), ?_⟩
    simp only [S.sc, eu32]; congr 1
  case and => exact ⟨_, (by unfold eu32; rw [binOp_int _ _ _ _ _ _ _ (by simp) (by simp)]; exact bits_u32 .and x y P w (by simp)), rfl⟩
  case or => exact ⟨_, (by unfold eu32; rw [binOp_int _ _ _ _ _ _ _ (by simp) (by simp)]; exact bits_u32 .or x y P w (by simp)), rfl⟩
  case xor => exact ⟨_, (by unfold eu32; rw [binOp_int _ _ _ _ _ _ _ (by simp) (by simp)]; exact bits_u32 .xor x y P w (by simp)), rfl⟩
  case andNot => exact ⟨_, (by unfold eu32; rw [binOp_int _ _ _ _ _ _ _ (by simp) (by simp)]; exact bits_u32 .andNot x y P w (by simp)), rfl⟩
  all_goals
    refine ⟨_, rfl, ?_⟩
    simp only [S.sc]; congr 1
    rw [Bool.eq_iff_iff]
    try simp [← UInt32.toNat_inj, UInt32.lt_iff_toNat_lt, UInt32.le_iff_toNat_le] <;> omega

theorem bin64_ok {P : Program} {w : World} {T : TypeId} {op : BinOp} {x y : UInt64} {p : List Prop} {s : S} (h : bin64 op x y = some (p, s)) (hp : all p) :
    ScOk P w (binOp op T (eu64 x) (eu64 y)) s := by
  have hx : x.toNat < 18446744073709551616 := x.toNat_lt
  have hy : y.toNat < 18446744073709551616 := y.toNat_lt
  cases op <;> simp only [bin64, Option.some.injEq, Prod.mk.injEq, reduceCtorEq] at h <;> obtain ⟨rfl, rfl⟩ := h
  case add =>
    refine ⟨_, rfl, ?_⟩
    show Value.int .u64 _ = Value.int .u64 _
    refine congrArg (Value.int .u64) ?_
    rw [wrap_u64, UInt64.toNat_add]; omega
  case sub =>
    refine ⟨_, rfl, ?_⟩
    simp only [S.sc, eu64]; congr 1
    rw [wrap_u64, UInt64.toNat_sub]; omega
  case mul =>
    refine ⟨_, rfl, ?_⟩
    show Value.int .u64 _ = Value.int .u64 _
    refine congrArg (Value.int .u64) ?_
    rw [wrap_u64, UInt64.toNat_mul]; rw [Int.natCast_emod, Int.natCast_mul]; rfl
  case quo =>
    have h0 : y ≠ 0 := (all_cons.1 hp).1
    have h1 : y.toNat ≠ 0 := fun e => h0 (UInt64.toNat_inj.1 (by simpa using e))
    refine ⟨_, (by unfold eu64; rw [binOp_int _ _ _ _ _ _ _ (by simp) (by simp)]; simp only [Op.intDiv]; rw [if_neg (by omega)]; rfl), ?_⟩
    simp only [S.sc, eu64]; congr 1
    rw [wrap_u64, UInt64.toNat_div, ← Int.ofNat_tdiv]
    have := Nat.div_le_self x.toNat y.toNat
    generalize x.toNat / y.toNat = q at *
    omega
  case rem =>
    have h0 : y ≠ 0 := (all_cons.1 hp).1
    have h1 : y.toNat ≠ 0 := fun e => h0 (UInt64.toNat_inj.1 (by simpa using e))
    refine ⟨_, (by unfold eu64; rw [binOp_int _ _ _ _ _ _ _ (by simp) (by simp)]; simp only [Op.intDiv]; rw [if_neg (by omega)]; rfl), ?_⟩
    simp only [S.sc, eu64]; congr 1
  case and => exact ⟨_, (by unfold eu64; rw [binOp_int _ _ _ _ _ _ _ (by simp) (by simp)]; exact bits_u64 .and x y P w (by simp)), rfl⟩
  case or => exact ⟨_, (by unfold eu64; rw [binOp_int _ _ _ _ _ _ _ (by simp) (by simp)]; exact bits_u64 .or x y P w (by simp)), rfl⟩
  case xor => exact ⟨_, (by unfold eu64; rw [binOp_int _ _ _ _ _ _ _ (by simp) (by simp)]; exact bits_u64 .xor x y P w (by simp)), rfl⟩
  case andNot => exact ⟨_, (by unfold eu64; rw [binOp_int _ _ _ _ _ _ _ (by simp) (by simp)]; exact bits_u64 .andNot x y P w (by simp)), rfl⟩
  all_goals
    refine ⟨_, rfl, ?_⟩
    simp only [S.sc]; congr 1
    rw [Bool.eq_iff_iff]
    try simp [← UInt64.toNat_inj, UInt64.lt_iff_toNat_lt, UInt64.le_iff_toNat_le] <;> omega


theorem binI_ok {P : Program} {w : World} {T : TypeId} {op : BinOp} {x y : Int} {p : List Prop} {s : S} (h : binI op x y = some (p, s)) (hp : all p) :
    ScOk P w (binOp op T (ei64 x) (ei64 y)) s := by
  cases op <;> simp only [binI, Option.some.injEq, Prod.mk.injEq, reduceCtorEq] at h <;> obtain ⟨rfl, rfl⟩ := h
  case add => exact ⟨_, rfl, by simp only [S.sc, ei64]; rw [wrap_i64 (all_cons.1 hp).1]⟩
  case sub => exact ⟨_, rfl, by simp only [S.sc, ei64]; rw [wrap_i64 (all_cons.1 hp).1]⟩
  case mul => exact ⟨_, rfl, by simp only [S.sc, ei64]; rw [wrap_i64 (all_cons.1 hp).1]⟩
  case quo =>
    obtain ⟨h0, h1⟩ := (all_cons.1 hp).1
    refine ⟨_, (by unfold ei64; rw [binOp_int _ _ _ _ _ _ _ (by simp) (by simp)]; simp only [Op.intDiv]; rw [if_neg h0]; rfl), ?_⟩
    simp only [S.sc, ei64]; rw [wrap_i64 h1]
  case rem =>
    have h0 := (all_cons.1 hp).1
    exact ⟨_, (by unfold ei64; rw [binOp_int _ _ _ _ _ _ _ (by simp) (by simp)]; simp only [Op.intDiv]; rw [if_neg h0]; rfl), rfl⟩
  case and => exact ⟨_, (by unfold ei64; rw [binOp_int _ _ _ _ _ _ _ (by simp) (by simp)]; exact bits_i64 .and x y P w (by simp)), rfl⟩
  case or => exact ⟨_, (by unfold ei64; rw [binOp_int _ _ _ _ _ _ _ (by simp) (by simp)]; exact bits_i64 .or x y P w (by simp)), rfl⟩
  case xor => exact ⟨_, (by unfold ei64; rw [binOp_int _ _ _ _ _ _ _ (by simp) (by simp)]; exact bits_i64 .xor x y P w (by simp)), rfl⟩
  case andNot => exact ⟨_, (by unfold ei64; rw [binOp_int _ _ _ _ _ _ _ (by simp) (by simp)]; exact bits_i64 .andNot x y P w (by simp)), rfl⟩
  all_goals
    refine ⟨_, rfl, ?_⟩
    first
      | rfl
      | (show Value.bool _ = Value.bool _; refine congrArg Value.bool ?_; rw [Bool.eq_iff_iff]; simp)

theorem litI_eq {x : Int} {p : List Prop} {s : S} (h : litI x = some (p, s)) : s = .n (IntKind.i64.wrap x) := by
  simp only [litI, frc_eq, Option.some.injEq, Prod.mk.injEq] at h; exact h.2.symm
theorem litB_eq {x : Bool} {p : List Prop} {s : S} (h : litB x = some (p, s)) : s = .lb x := by
  cases x <;> simp only [litB, Option.some.injEq, Prod.mk.injEq] at h <;> exact h.2.symm
theorem binN_ok {P : Program} {w : World} {T : TypeId} {op : BinOp} {x y : Int} {p : List Prop} {s : S} (h : binN op x y = some (p, s)) :
    ScOk P w (binOp op T (ei64 x) (ei64 y)) s := by
  cases op <;> simp only [binN, frc_eq, Option.some.injEq, Prod.mk.injEq, reduceCtorEq] at h
  case add => exact ⟨_, rfl, by rw [litI_eq h]; rfl⟩
  case sub => exact ⟨_, rfl, by rw [litI_eq h]; rfl⟩
  case mul => exact ⟨_, rfl, by rw [litI_eq h]; rfl⟩
  case quo =>
    cases hy : (y == 0) <;> rw [hy] at h
    · simp only at h
      exact ⟨_, (by unfold ei64; rw [binOp_int _ _ _ _ _ _ _ (by simp) (by simp)]; simp only [Op.intDiv]; rw [if_neg (by simpa using hy)]; rfl), by rw [litI_eq h]; rfl⟩
    · cases h
  case rem =>
    cases hy : (y == 0) <;> rw [hy] at h
    · simp only [Option.some.injEq, Prod.mk.injEq] at h
      exact ⟨_, (by unfold ei64; rw [binOp_int _ _ _ _ _ _ _ (by simp) (by simp)]; simp only [Op.intDiv]; rw [if_neg (by simpa using hy)]; rfl), by rw [← h.2]; rfl⟩
    · cases h
  case and => exact ⟨_, (by unfold ei64; rw [binOp_int _ _ _ _ _ _ _ (by simp) (by simp)]; exact bits_i64 .and x y P w (by simp)), by rw [← h.2]; rfl⟩
  case or => exact ⟨_, (by unfold ei64; rw [binOp_int _ _ _ _ _ _ _ (by simp) (by simp)]; exact bits_i64 .or x y P w (by simp)), by rw [← h.2]; rfl⟩
  case xor => exact ⟨_, (by unfold ei64; rw [binOp_int _ _ _ _ _ _ _ (by simp) (by simp)]; exact bits_i64 .xor x y P w (by simp)), by rw [← h.2]; rfl⟩
  case andNot => exact ⟨_, (by unfold ei64; rw [binOp_int _ _ _ _ _ _ _ (by simp) (by simp)]; exact bits_i64 .andNot x y P w (by simp)), by rw [← h.2]; rfl⟩
  all_goals exact ⟨_, rfl, by rw [litB_eq h]; rfl⟩
end Go.Eng
/- The scalar operations do what the model's do: shifts, conversions, the rest. -/
namespace Go.Eng
open Go Go.RowKit

theorem shiftBy_ok {y : S} {v : Value} {p : List Prop} {k : Nat} (h : shiftBy y = some (p, k)) (hp : all p) (hv : y.sc v) : ∃ yk, v = .int yk (k : Int) := by
  cases y <;> simp only [shiftBy, Option.some.injEq, Prod.mk.injEq, reduceCtorEq] at h <;> simp only [S.sc] at hv
  case n x =>
    cases hx : decide (0 ≤ x) <;> rw [hx] at h
    · cases h
    · simp only [frcN_eq, Option.some.injEq, Prod.mk.injEq] at h
      have : 0 ≤ x := by simpa using hx
      exact ⟨.i64, by rw [hv, ← h.2]; simp only [ei64]; congr 1; omega⟩
  case i64 x =>
    obtain ⟨rfl, rfl⟩ := h
    have : 0 ≤ x := (all_cons.1 hp).1
    exact ⟨.i64, by rw [hv]; simp only [ei64]; congr 1; omega⟩
  all_goals (obtain ⟨rfl, rfl⟩ := h; exact ⟨_, hv⟩)
theorem pow_min (x k n : Nat) : x * 2 ^ (min k n) % 2 ^ n = x * 2 ^ k % 2 ^ n := by
  by_cases h : k ≤ n
  · rw [Nat.min_eq_left h]
  · rw [Nat.min_eq_right (by omega)]
    have e : k = n + (k - n) := by omega
    have : x * 2 ^ k = (x * 2 ^ (k - n)) * 2 ^ n := by rw [Nat.mul_assoc, ← Nat.pow_add]; congr 2; omega
    rw [this, Nat.mul_mod_left, Nat.mul_mod_left]
theorem div_min (x k n : Nat) (h : x < 2 ^ n) : x / 2 ^ (min k n) = x / 2 ^ k := by
  by_cases hk : k ≤ n
  · rw [Nat.min_eq_left hk]
  · rw [Nat.min_eq_right (by omega), Nat.div_eq_of_lt h, Nat.div_eq_of_lt]
    exact Nat.lt_of_lt_of_le h (Nat.pow_le_pow_right (by omega) (by omega))

theorem shl8_toNat (x : UInt8) (k : Nat) : (shl8 x k).toNat = x.toNat * 2 ^ k % 2 ^ 8 := by
  show (x.toBitVec <<< k).toNat = _
  rw [BitVec.toNat_shiftLeft, Nat.shiftLeft_eq]; rfl
theorem shr8_toNat (x : UInt8) (k : Nat) : (shr8 x k).toNat = x.toNat / 2 ^ k := by
  show (x.toBitVec >>> k).toNat = _
  rw [BitVec.toNat_ushiftRight, Nat.shiftRight_eq_div_pow]; rfl
theorem shl8_ok (P : Program) (w : World) (x : UInt8) (yk : IntKind) (k : Nat) : (Op.shift .shl .u8 x.toNat yk (k : Int)).run P w = .ok (eu8 (shl8 x k)) w := by
  simp only [Op.shift]
  rw [if_neg (by omega)]
  show Result.ok (Value.int .u8 _) w = Result.ok (Value.int .u8 _) w
  refine congrArg (fun z => Result.ok (Value.int .u8 z) w) ?_
  rw [wrap_u8, shl8_toNat, ← pow_min]
  simp only [IntKind.bits, Int.toNat_natCast]
  rw [Int.natCast_emod, Int.natCast_mul, Int.natCast_pow]
  rfl
theorem shr8_ok (P : Program) (w : World) (x : UInt8) (yk : IntKind) (k : Nat) : (Op.shift .shr .u8 x.toNat yk (k : Int)).run P w = .ok (eu8 (shr8 x k)) w := by
  simp only [Op.shift]
  rw [if_neg (by omega)]
  show Result.ok (Value.int .u8 _) w = Result.ok (Value.int .u8 _) w
  refine congrArg (fun z => Result.ok (Value.int .u8 z) w) ?_
  rw [shr8_toNat, ← div_min _ k 8 x.toNat_lt]
  simp only [IntKind.bits, Int.toNat_natCast]
  rw [Int.fdiv_eq_ediv_of_nonneg _ (by exact_mod_cast Nat.zero_le _), Int.natCast_ediv, Int.natCast_pow]
  rfl

theorem shl16_toNat (x : UInt16) (k : Nat) : (shl16 x k).toNat = x.toNat * 2 ^ k % 2 ^ 16 := by
  show (x.toBitVec <<< k).toNat = _
  rw [BitVec.toNat_shiftLeft, Nat.shiftLeft_eq]; rfl
theorem shr16_toNat (x : UInt16) (k : Nat) : (shr16 x k).toNat = x.toNat / 2 ^ k := by
  show (x.toBitVec >>> k).toNat = _
  rw [BitVec.toNat_ushiftRight, Nat.shiftRight_eq_div_pow]; rfl
theorem shl16_ok (P : Program) (w : World) (x : UInt16) (yk : IntKind) (k : Nat) : (Op.shift .shl .u16 x.toNat yk (k : Int)).run P w = .ok (eu16 (shl16 x k)) w := by
  simp only [Op.shift]
  rw [if_neg (by omega)]
  show Result.ok (Value.int .u16 _) w = Result.ok (Value.int .u16 _) w
  refine congrArg (fun z => Result.ok (Value.int .u16 z) w) ?_
  rw [wrap_u16, shl16_toNat, ← pow_min]
  simp only [IntKind.bits, Int.toNat_natCast]
  rw [Int.natCast_emod, Int.natCast_mul, Int.natCast_pow]
  rfl
theorem shr16_ok (P : Program) (w : World) (x : UInt16) (yk : IntKind) (k : Nat) : (Op.shift .shr .u16 x.toNat yk (k : Int)).run P w = .ok (eu16 (shr16 x k)) w := by
  simp only [Op.shift]
  rw [if_neg (by omega)]
  show Result.ok (Value.int .u16 _) w = Result.ok (Value.int .u16 _) w
  refine congrArg (fun z => Result.ok (Value.int .u16 z) w) ?_
  rw [shr16_toNat, ← div_min _ k 16 x.toNat_lt]
  simp only [IntKind.bits, Int.toNat_natCast]
  rw [Int.fdiv_eq_ediv_of_nonneg _ (by exact_mod_cast Nat.zero_le _), Int.natCast_ediv, Int.natCast_pow]
  rfl

theorem shl32_toNat (x : UInt32) (k : Nat) : (shl32 x k).toNat = x.toNat * 2 ^ k % 2 ^ 32 := by
  show (x.toBitVec <<< k).toNat = _
  rw [BitVec.toNat_shiftLeft, Nat.shiftLeft_eq]; rfl
theorem shr32_toNat (x : UInt32) (k : Nat) : (shr32 x k).toNat = x.toNat / 2 ^ k := by
  show (x.toBitVec >>> k).toNat = _
  rw [BitVec.toNat_ushiftRight, Nat.shiftRight_eq_div_pow]; rfl
theorem shl32_ok (P : Program) (w : World) (x : UInt32) (yk : IntKind) (k : Nat) : (Op.shift .shl .u32 x.toNat yk (k : Int)).run P w = .ok (eu32 (shl32 x k)) w := by
  simp only [Op.shift]
  rw [if_neg (by omega)]
  show Result.ok (Value.int .u32 _) w = Result.ok (Value.int .u32 _) w
  refine congrArg (fun z => Result.ok (Value.int .u32 z) w) ?_
  rw [wrap_u32, shl32_toNat, ← pow_min]
  simp only [IntKind.bits, Int.toNat_natCast]
  rw [Int.natCast_emod, Int.natCast_mul, Int.natCast_pow]
  rfl
theorem shr32_ok (P : Program) (w : World) (x : UInt32) (yk : IntKind) (k : Nat) : (Op.shift .shr .u32 x.toNat yk (k : Int)).run P w = .ok (eu32 (shr32 x k)) w := by
  simp only [Op.shift]
  rw [if_neg (by omega)]
  show Result.ok (Value.int .u32 _) w = Result.ok (Value.int .u32 _) w
  refine congrArg (fun z => Result.ok (Value.int .u32 z) w) ?_
  rw [shr32_toNat, ← div_min _ k 32 x.toNat_lt]
  simp only [IntKind.bits, Int.toNat_natCast]
  rw [Int.fdiv_eq_ediv_of_nonneg _ (by exact_mod_cast Nat.zero_le _), Int.natCast_ediv, Int.natCast_pow]
  rfl

theorem shl64_toNat (x : UInt64) (k : Nat) : (shl64 x k).toNat = x.toNat * 2 ^ k % 2 ^ 64 := by
  show (x.toBitVec <<< k).toNat = _
  rw [BitVec.toNat_shiftLeft, Nat.shiftLeft_eq]; rfl
theorem shr64_toNat (x : UInt64) (k : Nat) : (shr64 x k).toNat = x.toNat / 2 ^ k := by
  show (x.toBitVec >>> k).toNat = _
  rw [BitVec.toNat_ushiftRight, Nat.shiftRight_eq_div_pow]; rfl
theorem shl64_ok (P : Program) (w : World) (x : UInt64) (yk : IntKind) (k : Nat) : (Op.shift .shl .u64 x.toNat yk (k : Int)).run P w = .ok (eu64 (shl64 x k)) w := by
  simp only [Op.shift]
  rw [if_neg (by omega)]
  show Result.ok (Value.int .u64 _) w = Result.ok (Value.int .u64 _) w
  refine congrArg (fun z => Result.ok (Value.int .u64 z) w) ?_
  rw [wrap_u64, shl64_toNat, ← pow_min]
  simp only [IntKind.bits, Int.toNat_natCast]
  rw [Int.natCast_emod, Int.natCast_mul, Int.natCast_pow]
  rfl
theorem shr64_ok (P : Program) (w : World) (x : UInt64) (yk : IntKind) (k : Nat) : (Op.shift .shr .u64 x.toNat yk (k : Int)).run P w = .ok (eu64 (shr64 x k)) w := by
  simp only [Op.shift]
  rw [if_neg (by omega)]
  show Result.ok (Value.int .u64 _) w = Result.ok (Value.int .u64 _) w
  refine congrArg (fun z => Result.ok (Value.int .u64 z) w) ?_
  rw [shr64_toNat, ← div_min _ k 64 x.toNat_lt]
  simp only [IntKind.bits, Int.toNat_natCast]
  rw [Int.fdiv_eq_ediv_of_nonneg _ (by exact_mod_cast Nat.zero_le _), Int.natCast_ediv, Int.natCast_pow]
  rfl

theorem shlI_ok (P : Program) (w : World) (x : Int) (yk : IntKind) (k : Nat) : (Op.shift .shl .i64 x yk (k : Int)).run P w = .ok (ei64 (IntKind.i64.wrap (x * 2 ^ (min k 64)))) w := by
  simp only [Op.shift]
  rw [if_neg (by omega)]
  rfl
theorem shrI_ok (P : Program) (w : World) (x : Int) (yk : IntKind) (k : Nat) : (Op.shift .shr .i64 x yk (k : Int)).run P w = .ok (ei64 (x / 2 ^ (min k 64))) w := by
  simp only [Op.shift]
  rw [if_neg (by omega)]
  show Result.ok (Value.int .i64 _) w = Result.ok (Value.int .i64 _) w
  refine congrArg (fun z => Result.ok (Value.int .i64 z) w) ?_
  simp only [IntKind.bits, Int.toNat_natCast]
  rw [Int.fdiv_eq_ediv_of_nonneg _ (by exact_mod_cast Nat.zero_le _)]
theorem shlS_ok {P : Program} {w : World} {T : TypeId} {x : S} {v : Value} {yk : IntKind} {k : Nat} {p : List Prop} {s : S} (h : shlS x k = some (p, s)) (hp : all p) (hv : x.sc v) :
    ScOk P w (binOp .shl T v (.int yk (k : Int))) s := by
  cases x <;> simp only [shlS, Option.some.injEq, Prod.mk.injEq, reduceCtorEq] at h <;> simp only [S.sc] at hv <;> subst hv
  case u8 x => obtain ⟨rfl, rfl⟩ := h; exact ⟨_, shl8_ok P w x yk k, rfl⟩
  case u16 x => obtain ⟨rfl, rfl⟩ := h; exact ⟨_, shl16_ok P w x yk k, rfl⟩
  case u32 x => obtain ⟨rfl, rfl⟩ := h; exact ⟨_, shl32_ok P w x yk k, rfl⟩
  case u64 x => obtain ⟨rfl, rfl⟩ := h; exact ⟨_, shl64_ok P w x yk k, rfl⟩
  case i64 x =>
    obtain ⟨rfl, rfl⟩ := h
    obtain ⟨h1, h2⟩ := (all_cons.1 hp).1
    refine ⟨_, shlI_ok P w x yk k, ?_⟩
    rw [Nat.min_eq_left h1, wrap_i64 h2]; rfl
  case n x => exact ⟨_, shlI_ok P w x yk k, by rw [litI_eq h]; rfl⟩
theorem shrS_ok {P : Program} {w : World} {T : TypeId} {x : S} {v : Value} {yk : IntKind} {k : Nat} {p : List Prop} {s : S} (h : shrS x k = some (p, s)) (hp : all p) (hv : x.sc v) :
    ScOk P w (binOp .shr T v (.int yk (k : Int))) s := by
  cases x <;> simp only [shrS, frc_eq, Option.some.injEq, Prod.mk.injEq, reduceCtorEq] at h <;> simp only [S.sc] at hv <;> subst hv
  case u8 x => obtain ⟨rfl, rfl⟩ := h; exact ⟨_, shr8_ok P w x yk k, rfl⟩
  case u16 x => obtain ⟨rfl, rfl⟩ := h; exact ⟨_, shr16_ok P w x yk k, rfl⟩
  case u32 x => obtain ⟨rfl, rfl⟩ := h; exact ⟨_, shr32_ok P w x yk k, rfl⟩
  case u64 x => obtain ⟨rfl, rfl⟩ := h; exact ⟨_, shr64_ok P w x yk k, rfl⟩
  case i64 x =>
    obtain ⟨rfl, rfl⟩ := h
    have h1 := (all_cons.1 hp).1
    refine ⟨_, shrI_ok P w x yk k, ?_⟩
    rw [Nat.min_eq_left h1]; rfl
  case n x => exact ⟨_, shrI_ok P w x yk k, by rw [← h.2]; rfl⟩

theorem ba_loop (bs : ByteArray) : ∀ (n i : Nat) (r : List UInt8), bs.size - i = n → ByteArray.toList.loop bs i r = r.reverse ++ bs.data.toList.drop i := by
  intro n
  induction n with
  | zero =>
    intro i r h
    rw [ByteArray.toList.loop, if_neg (by omega), List.drop_eq_nil_of_le (by simpa using (by omega : bs.size ≤ i))]
    simp
  | succ n ih =>
    intro i r h
    rw [ByteArray.toList.loop, if_pos (by omega), ih (i + 1) _ (by omega)]
    have hlt : i < bs.data.toList.length := by simpa using (by omega : i < bs.size)
    rw [List.drop_eq_getElem_cons hlt]
    have : bs.get! i = bs.data.toList[i] := by
      show bs.data[i]! = _
      rw [getElem!_pos bs.data i (by simpa using hlt)]
      simp
    rw [this]
    simp
theorem ba_toList (s : ByteArray) : s.toList = s.data.toList := by
  unfold ByteArray.toList
  rw [ba_loop s _ 0 [] rfl]
  simp
theorem str_eq (P : Program) (w : World) (T : TypeId) (x y : List UInt8) : (binOp .eql T (.string ⟨x.toArray⟩) (.string ⟨y.toArray⟩)).run P w = .ok (.bool (decide (x = y))) w := by
  show Result.ok (Value.bool ((ByteArray.mk x.toArray).toList == (ByteArray.mk y.toArray).toList)) w = _
  rw [ba_toList, ba_toList]
  refine congrArg (fun z => Result.ok (Value.bool z) w) ?_
  rw [Bool.eq_iff_iff]
  simp
theorem str_neq (P : Program) (w : World) (T : TypeId) (x y : List UInt8) : (binOp .neq T (.string ⟨x.toArray⟩) (.string ⟨y.toArray⟩)).run P w = .ok (.bool (decide (x ≠ y))) w := by
  show Result.ok (Value.bool !((ByteArray.mk x.toArray).toList == (ByteArray.mk y.toArray).toList)) w = _
  rw [ba_toList, ba_toList]
  refine congrArg (fun z => Result.ok (Value.bool z) w) ?_
  rw [Bool.eq_iff_iff]
  simp
theorem str_add (P : Program) (w : World) (T : TypeId) (x y : List UInt8) (h : x.length + y.length ≤ 4294967296) :
    (binOp .add T (.string ⟨x.toArray⟩) (.string ⟨y.toArray⟩)).run P w = .ok (.string ⟨(x ++ y).toArray⟩) w := by
  show (Op.stringOp .add _ _).run P w = _
  unfold Op.stringOp
  simp only []
  rw [if_neg]
  · show Result.ok (Value.string _) w = _
    refine congrArg (fun z => Result.ok (Value.string z) w) ?_
    apply ByteArray.ext
    simp [ByteArray.data_append]
  · simp [IntKind.max, IntKind.signed, IntKind.bits, ByteArray.size]
    omega
theorem equal_bool {P : Program} {T : TypeId} (hT : P.underlying T = some .bool) (w : World) (x y : Bool) : (Op.equal T (.bool x) (.bool y)).run P w = .ok (x == y) w := by
  unfold Op.equal
  rw [show Op.maxDepth = 9999 + 1 from rfl]
  unfold Op.equalIn
  simp only [underlying, program, bind, Sem.bind, Sem.run, hT]
  rfl
theorem Sem.run_bind {α β : Type} (P : Program) (m : Sem α) (f : α → Sem β) (w : World) :
    (m >>= f).run P w = match m.run P w with | .ok a w' => (f a).run P w' | .halt h w' => .halt h w' := by
  show (m.bind f).run P w = _
  induction m generalizing w with
  | pure a => rfl
  | load m a k ih =>
    simp only [Sem.bind, Sem.run]
    split
    · exact ih _ _
    · split
      · exact ih _ _
      · rfl
  | store m a v k ih =>
    cases v <;> simp only [Sem.bind, Sem.run] <;> first
      | rfl
      | (split
         · split
           · rfl
           · exact ih _
         · split
           · exact ih _
           · rfl)
  | new o k ih => simp only [Sem.bind, Sem.run]; exact ih _ _
  | shape r k ih => simp only [Sem.bind, Sem.run]; exact ih _ _
  | freeze a n k ih => simp only [Sem.bind, Sem.run]; exact ih _
  | frozen a k ih => simp only [Sem.bind, Sem.run]; exact ih _ _
  | getObj r k ih =>
    simp only [Sem.bind, Sem.run]
    split
    · rfl
    · exact ih _ _
    · rfl
  | setObj r o k ih =>
    simp only [Sem.bind, Sem.run]
    split
    · rfl
    · exact ih _
    · rfl
  | choose q k ih =>
    simp only [Sem.bind, Sem.run]
    split
    · exact ih _ _
    · exact ih _ _
  | sys c k ih => simp only [Sem.bind, Sem.run]; exact ih _ _
  | program k ih => simp only [Sem.bind, Sem.run]; exact ih _ _
  | mark m k ih => simp only [Sem.bind, Sem.run]; exact ih _
  | halt h => rfl
theorem binOp_bool_eq {P : Program} {T : TypeId} (hT : P.underlying T = some .bool) (w : World) (x y : Bool) : (binOp .eql T (.bool x) (.bool y)).run P w = .ok (.bool (x == y)) w := by
  show (Op.equal T (.bool x) (.bool y) >>= fun z => (pure (Value.bool z) : Sem Value)).run P w = _
  rw [Sem.run_bind, equal_bool hT]
  rfl
theorem binOp_bool_neq {P : Program} {T : TypeId} (hT : P.underlying T = some .bool) (w : World) (x y : Bool) : (binOp .neq T (.bool x) (.bool y)).run P w = .ok (.bool (x != y)) w := by
  show (Op.equal T (.bool x) (.bool y) >>= fun z => (pure (Value.bool !z) : Sem Value)).run P w = _
  rw [Sem.run_bind, equal_bool hT]
  rfl

theorem bindR_some {α β : Type} {x : R α} {f : α → R β} {p : List Prop} {b : β} (h : bindR x f = some (p, b)) (hp : all p) :
    ∃ q a r, x = some (q, a) ∧ all q ∧ f a = some (r, b) ∧ all r := by
  unfold bindR at h
  split at h
  · cases h
  · rename_i q a
    split at h
    · cases h
    · rename_i r b' hf
      simp only [Option.some.injEq, Prod.mk.injEq] at h
      obtain ⟨rfl, rfl⟩ := h
      exact ⟨q, a, r, rfl, (all_append.1 hp).1, hf, (all_append.1 hp).2⟩

theorem str_lss (P : Program) (w : World) (T : TypeId) (x y : List UInt8) : (binOp .lss T (.string ⟨x.toArray⟩) (.string ⟨y.toArray⟩)).run P w = .ok (.bool (Op.bytesLess x y)) w := by
  have h : (binOp .lss T (.string ⟨x.toArray⟩) (.string ⟨y.toArray⟩)).run P w = .ok (.bool (Op.bytesLess (ByteArray.mk x.toArray).toList (ByteArray.mk y.toArray).toList)) w := rfl
  rw [h, ba_toList, ba_toList]
theorem str_leq (P : Program) (w : World) (T : TypeId) (x y : List UInt8) : (binOp .leq T (.string ⟨x.toArray⟩) (.string ⟨y.toArray⟩)).run P w = .ok (.bool (Op.bytesLess x y || x == y)) w := by
  have h : (binOp .leq T (.string ⟨x.toArray⟩) (.string ⟨y.toArray⟩)).run P w = .ok (.bool (Op.bytesLess (ByteArray.mk x.toArray).toList (ByteArray.mk y.toArray).toList || (ByteArray.mk x.toArray).toList == (ByteArray.mk y.toArray).toList)) w := rfl
  rw [h, ba_toList, ba_toList]
theorem str_gtr (P : Program) (w : World) (T : TypeId) (x y : List UInt8) : (binOp .gtr T (.string ⟨x.toArray⟩) (.string ⟨y.toArray⟩)).run P w = .ok (.bool (!(Op.bytesLess x y || x == y))) w := by
  have h : (binOp .gtr T (.string ⟨x.toArray⟩) (.string ⟨y.toArray⟩)).run P w = .ok (.bool (!(Op.bytesLess (ByteArray.mk x.toArray).toList (ByteArray.mk y.toArray).toList || (ByteArray.mk x.toArray).toList == (ByteArray.mk y.toArray).toList))) w := rfl
  rw [h, ba_toList, ba_toList]
theorem str_geq (P : Program) (w : World) (T : TypeId) (x y : List UInt8) : (binOp .geq T (.string ⟨x.toArray⟩) (.string ⟨y.toArray⟩)).run P w = .ok (.bool (!Op.bytesLess x y)) w := by
  have h : (binOp .geq T (.string ⟨x.toArray⟩) (.string ⟨y.toArray⟩)).run P w = .ok (.bool (!Op.bytesLess (ByteArray.mk x.toArray).toList (ByteArray.mk y.toArray).toList)) w := rfl
  rw [h, ba_toList, ba_toList]
theorem binS_ok {P : Program} {w : World} {T : TypeId} {tb : Bool} (hT : tb = true → P.underlying T = some .bool) {op : BinOp} {x y : S} {v u : Value} {p : List Prop} {s : S}
    (h : binS tb op x y = some (p, s)) (hp : all p) (hv : x.sc v) (hu : y.sc u) : ScOk P w (binOp op T v u) s := by
  unfold binS at h
  split at h
  · obtain ⟨q, k, r, h1, h2, h3, h4⟩ := bindR_some h hp
    obtain ⟨yk, rfl⟩ := shiftBy_ok h1 h2 hu
    exact shlS_ok h3 h4 hv
  · obtain ⟨q, k, r, h1, h2, h3, h4⟩ := bindR_some h hp
    obtain ⟨yk, rfl⟩ := shiftBy_ok h1 h2 hu
    exact shrS_ok h3 h4 hv
  · split at h <;> (try simp only [S.sc] at hv hu) <;> (try subst hv) <;> (try subst hu)
    · exact bin8_ok h hp
    · exact bin16_ok h hp
    · exact bin32_ok h hp
    · exact bin64_ok h hp
    · exact binN_ok h
    · exact binI_ok h hp
    · exact binI_ok h hp
    · exact binI_ok h hp
    · split at h <;> simp only [Option.some.injEq, Prod.mk.injEq, reduceCtorEq] at h
      · obtain ⟨rfl, rfl⟩ := h; exact ⟨_, str_eq P w T _ _, rfl⟩
      · obtain ⟨rfl, rfl⟩ := h; exact ⟨_, str_neq P w T _ _, rfl⟩
      · obtain ⟨rfl, rfl⟩ := h; exact ⟨_, str_add P w T _ _ (all_cons.1 hp).1, rfl⟩
      · obtain ⟨rfl, rfl⟩ := h; exact ⟨_, str_lss P w T _ _, rfl⟩
      · obtain ⟨rfl, rfl⟩ := h; exact ⟨_, str_leq P w T _ _, rfl⟩
      · obtain ⟨rfl, rfl⟩ := h; exact ⟨_, str_gtr P w T _ _, rfl⟩
      · obtain ⟨rfl, rfl⟩ := h; exact ⟨_, str_geq P w T _ _, rfl⟩
    · split at h
      · exact ⟨_, binOp_bool_eq (hT rfl) w _ _, by rw [litB_eq h]; rfl⟩
      · exact ⟨_, binOp_bool_neq (hT rfl) w _ _, by rw [litB_eq h]; rfl⟩
      · cases h
    · split at h
      · cases h; exact ⟨_, binOp_bool_eq (hT rfl) w _ _, rfl⟩
      · cases h; exact ⟨_, binOp_bool_neq (hT rfl) w _ _, rfl⟩
      · cases h
    · split at h
      · cases h; exact ⟨_, binOp_bool_eq (hT rfl) w _ _, rfl⟩
      · cases h; exact ⟨_, binOp_bool_neq (hT rfl) w _ _, rfl⟩
      · cases h
    · split at h
      · cases h; exact ⟨_, binOp_bool_eq (hT rfl) w _ _, rfl⟩
      · cases h; exact ⟨_, binOp_bool_neq (hT rfl) w _ _, rfl⟩
      · cases h
    · cases h
theorem unS_ok {P : Program} {w : World} {op : UnOp} {x : S} {v : Value} {p : List Prop} {s : S} (h : unS op x = some (p, s)) (hp : all p) (hv : x.sc v) : ScOk P w (Op.unary op v) s := by
  have hn : ∀ z : Int, IntKind.i64.wrap (0 - z) = IntKind.i64.wrap (-z) := fun z => by rw [Int.zero_sub]
  unfold unS at h
  split at h <;> (try simp only [Option.some.injEq, Prod.mk.injEq, reduceCtorEq] at h) <;> (try simp only [S.sc] at hv) <;> (try subst hv)
  · obtain ⟨rfl, rfl⟩ := h
    exact ⟨_, rfl, by rw [hn, wrap_i64 (all_cons.1 hp).1]; rfl⟩
  · exact ⟨_, rfl, by rw [litI_eq h, hn]; rfl⟩
  · obtain ⟨rfl, rfl⟩ := h
    rename_i x
    refine ⟨_, bits_u8 .xor 255 x P w (by simp), congrArg eu8 ?_⟩
    exact UInt8.toBitVec_inj.1 (by simpa using BitVec.allOnes_xor (x := x.toBitVec))
  · obtain ⟨rfl, rfl⟩ := h
    rename_i x
    refine ⟨_, bits_u16 .xor 65535 x P w (by simp), congrArg eu16 ?_⟩
    exact UInt16.toBitVec_inj.1 (by simpa using BitVec.allOnes_xor (x := x.toBitVec))
  · obtain ⟨rfl, rfl⟩ := h
    rename_i x
    refine ⟨_, bits_u32 .xor 4294967295 x P w (by simp), congrArg eu32 ?_⟩
    exact UInt32.toBitVec_inj.1 (by simpa using BitVec.allOnes_xor (x := x.toBitVec))
  · obtain ⟨rfl, rfl⟩ := h
    rename_i x
    refine ⟨_, bits_u64 .xor 18446744073709551615 x P w (by simp), congrArg eu64 ?_⟩
    exact UInt64.toBitVec_inj.1 (by simpa using BitVec.allOnes_xor (x := x.toBitVec))
  · obtain ⟨rfl, rfl⟩ := h; exact ⟨_, rfl, rfl⟩
  · exact ⟨_, rfl, by rw [litB_eq h]; rfl⟩

theorem to8_toNat (x : Int) : ((to8 x).toNat : Int) = x % 256 := by
  show ((BitVec.ofInt 8 x).toNat : Int) = _
  rw [BitVec.toNat_ofInt]; omega
theorem to16_toNat (x : Int) : ((to16 x).toNat : Int) = x % 65536 := by
  show ((BitVec.ofInt 16 x).toNat : Int) = _
  rw [BitVec.toNat_ofInt]; omega
theorem to32_toNat (x : Int) : ((to32 x).toNat : Int) = x % 4294967296 := by
  show ((BitVec.ofInt 32 x).toNat : Int) = _
  rw [BitVec.toNat_ofInt]; omega
theorem to64_toNat (x : Int) : ((to64 x).toNat : Int) = x % 18446744073709551616 := by
  show ((BitVec.ofInt 64 x).toNat : Int) = _
  rw [BitVec.toNat_ofInt]; omega
theorem convS_ok {P : Program} {w : World} {k : IntKind} {x : S} {v : Value} {p : List Prop} {s : S} (h : convS k x = some (p, s)) (hp : all p) (hv : x.sc v) :
    ∃ kk n, v = .int kk n ∧ ∃ u, (Conv.intToInt k n).run P w = .ok u w ∧ s.sc u := by
  unfold convS at h
  split at h <;> (try cases h) <;> (try simp only [S.sc] at hv) <;> (try subst hv) <;>
    refine ⟨_, _, rfl, ?_⟩
  case h_28.refl => exact ⟨_, rfl, by show Value.int .i64 _ = Value.int .i64 _; refine congrArg (Value.int .i64) ?_; exact wrap_i64_bv _⟩
  case h_29.refl => exact ⟨_, rfl, by show Value.int .i64 _ = Value.int .i64 _; refine congrArg (Value.int .i64) ?_; exact wrap_i64 (all_cons.1 hp).1⟩
  case h_30 => exact ⟨_, rfl, by rw [litI_eq h]; rfl⟩
  all_goals rename_i x
  case h_25.refl => have := x.toNat_lt; exact ⟨_, rfl, by show Value.int .i64 _ = Value.int .i64 _; refine congrArg (Value.int .i64) ?_; exact wrap_i64 ⟨by omega, by omega⟩⟩
  case h_26.refl => have := x.toNat_lt; exact ⟨_, rfl, by show Value.int .i64 _ = Value.int .i64 _; refine congrArg (Value.int .i64) ?_; exact wrap_i64 ⟨by omega, by omega⟩⟩
  case h_27.refl => have := x.toNat_lt; exact ⟨_, rfl, by show Value.int .i64 _ = Value.int .i64 _; refine congrArg (Value.int .i64) ?_; exact wrap_i64 ⟨by omega, by omega⟩⟩
  all_goals
    refine ⟨_, rfl, ?_⟩
    show Value.int _ _ = Value.int _ _
    refine congrArg (Value.int _) ?_
    first
      | (simp only [wrap_u8, wrap_u16, wrap_u32, wrap_u64, to8_toNat, to16_toNat, to32_toNat, to64_toNat]; done)
      | (have := x.toNat_lt; simp only [wrap_u8, wrap_u16, wrap_u32, wrap_u64, UInt16.toNat_toUInt8, UInt32.toNat_toUInt8, UInt64.toNat_toUInt8, UInt8.toNat_toUInt16, UInt32.toNat_toUInt16, UInt64.toNat_toUInt16, UInt8.toNat_toUInt32, UInt16.toNat_toUInt32, UInt64.toNat_toUInt32, UInt8.toNat_toUInt64, UInt16.toNat_toUInt64, UInt32.toNat_toUInt64]; omega)

theorem minS_ok {P : Program} {w : World} {x y : S} {v u : Value} {p : List Prop} {s : S} (h : minS x y = some (p, s)) (hv : x.sc v) (hu : y.sc u) : ScOk P w (Builtin.min2 v u) s := by
  unfold minS at h
  split at h <;> (try simp only [S.sc] at hv hu) <;> (try subst hv) <;> (try subst hu)
  case h_1 x y =>
    refine ⟨_, rfl, ?_⟩
    by_cases hlt : y < x
    · rw [decide_eq_true hlt] at h; cases h; simp [S.sc, ei64, hlt]
    · rw [decide_eq_false hlt] at h; cases h; simp [S.sc, ei64, hlt]
  case h_7 => cases h
  case h_5 x y =>
    cases h
    refine ⟨_, rfl, ?_⟩
    show Value.int .u64 _ = Value.int .u64 _
    refine congrArg (Value.int .u64) ?_
    by_cases hlt : y < x
    · rw [if_pos hlt, if_pos (by simpa [UInt64.lt_iff_toNat_lt] using hlt)]
    · rw [if_neg hlt, if_neg (by simpa [UInt64.lt_iff_toNat_lt, UInt64.le_iff_toNat_le] using hlt)]
  case h_6 x y =>
    cases h
    refine ⟨_, rfl, ?_⟩
    show Value.int .u8 _ = Value.int .u8 _
    refine congrArg (Value.int .u8) ?_
    by_cases hlt : y < x
    · rw [if_pos hlt, if_pos (by simpa [UInt8.lt_iff_toNat_lt] using hlt)]
    · rw [if_neg hlt, if_neg (by simpa [UInt8.lt_iff_toNat_lt, UInt8.le_iff_toNat_le] using hlt)]
  all_goals
    cases h
    refine ⟨_, rfl, ?_⟩
    show Value.int .i64 _ = Value.int .i64 _
    refine congrArg (Value.int .i64) ?_
    split <;> omega
theorem maxS_ok {P : Program} {w : World} {x y : S} {v u : Value} {p : List Prop} {s : S} (h : maxS x y = some (p, s)) (hv : x.sc v) (hu : y.sc u) : ScOk P w (Builtin.max2 v u) s := by
  unfold maxS at h
  split at h <;> (try simp only [S.sc] at hv hu) <;> (try subst hv) <;> (try subst hu)
  case h_1 x y =>
    refine ⟨_, rfl, ?_⟩
    by_cases hlt : x < y
    · rw [decide_eq_true hlt] at h; cases h; simp [S.sc, ei64, hlt]
    · rw [decide_eq_false hlt] at h; cases h; simp [S.sc, ei64, hlt]
  case h_7 => cases h
  case h_6 x y =>
    cases h
    refine ⟨_, rfl, ?_⟩
    show Value.int .u32 _ = Value.int .u32 _
    refine congrArg (Value.int .u32) ?_
    by_cases hlt : x < y
    · rw [if_pos hlt, if_pos (by simpa [UInt32.lt_iff_toNat_lt] using hlt)]
    · rw [if_neg hlt, if_neg (by simpa [UInt32.lt_iff_toNat_lt, UInt32.le_iff_toNat_le] using hlt)]
  case h_5 x y =>
    cases h
    refine ⟨_, rfl, ?_⟩
    show Value.int .u64 _ = Value.int .u64 _
    refine congrArg (Value.int .u64) ?_
    by_cases hlt : x < y
    · rw [if_pos hlt, if_pos (by simpa [UInt64.lt_iff_toNat_lt] using hlt)]
    · rw [if_neg hlt, if_neg (by simpa [UInt64.lt_iff_toNat_lt, UInt64.le_iff_toNat_le] using hlt)]
  all_goals
    cases h
    refine ⟨_, rfl, ?_⟩
    show Value.int .i64 _ = Value.int .i64 _
    refine congrArg (Value.int .i64) ?_
    split <;> omega
end Go.Eng
/- What the abstract values say of memory, and that it goes on holding. -/
namespace Go.Eng
open Go Go.RowKit

abbrev Ad := Nat → Option Nat
abbrev Blk := Option (List Ch)
def one1 : Value → Bool
  | .agg _ => false
  | .tuple _ => false
  | _ => true

def Emp (v : Value) : Prop := ∃ a, v = .slice a 0 0
def XB (A : Ad) (w : World) (cs : List Value) (z : Nat) (v : Value) : Prop :=
  (Emp v ∧ cs = []) ∨
  ∃ blk off n cap arr T fz, v = .slice (some ⟨blk, off, none⟩) n cap ∧ n ≤ cap ∧ n * z = cs.length ∧ (∀ b, A b ≠ some blk) ∧
    w.heap[blk]? = some (.cells arr T fz) ∧ (arr.toList.drop off).take (n * z) = cs

def Vec.rel (A : Ad) (w : World) : Vec → List Value → Prop
  | .u8 l, cs => cs = l.map eu8
  | .u16 l, cs => cs = l.map eu16
  | .u32 l, cs => cs = l.map eu32
  | .u64 l, cs => cs = l.map eu64
  | .i64 l, cs => cs = l.map ei64
  | .bo l, cs => cs = l.map ebo
  | .sl l, cs => l.length = cs.length ∧ ∀ (i : Nat) (x : List UInt8) (v : Value), l[i]? = some x → cs[i]? = some v → XB A w (x.map eu8) 1 v
  | .va l, cs => cs = l ∧ ∀ v ∈ l, one1 v = true

def S.rel (A : Ad) (w : World) : S → Value → Prop
  | .any, _ => True
  | .nil, v => v = .slice none 0 0
  | .ptr k o, v => ∃ a, A k = some a ∧ v = .pointer (some ⟨a, o, none⟩)
  | .pti k o i, v => ∃ a, A k = some a ∧ v = .pointer (some ⟨a, o + i, none⟩)
  | .sl k o i len z, v => (v = .slice none 0 0 ∧ len.val = 0) ∨ ∃ a off cap arr T fz, A k = some a ∧ v = .slice (some ⟨a, off, none⟩) len.val cap ∧ len.val ≤ cap ∧
      (off = o + i.val ∨ len.val = 0 ∧ cap = 0) ∧ w.heap[a]? = some (.cells arr T fz) ∧ off + cap * z ≤ arr.size
  | .xs z len x, v => 0 < z ∧ ∃ cs, x.rel A w cs ∧ XB A w cs z v ∧ len.val * z = cs.length
  | .xp x i, v => ∃ cs blk off arr T fz, x.rel A w cs ∧ v = .pointer (some ⟨blk, off + i, none⟩) ∧ (∀ b, A b ≠ some blk) ∧
      w.heap[blk]? = some (.cells arr T fz) ∧ (arr.toList.drop off).take cs.length = cs
  | .clo f k o, v => ∃ a, A k = some a ∧ v = .func (.func f) #[] #[.pointer (some ⟨a, o, none⟩)]
  | .cst v, x => x = v
  | .mref k, v => ∃ a, A k = some a ∧ v = .map (some a)
  | .mpc _, _ => False
  | .row u m l, v => v = u ∧ XB A w (l.map eu8) 1 v ∧ m = l.length
  | s, v => s.sc v

def ChsRel (A : Ad) (w : World) : List Ch → List Value → Prop
  | [], l => l = []
  | .one s :: cs, l => ∃ v r, l = v :: r ∧ s.rel A w v ∧ one1 v = true ∧ ChsRel A w cs r
  | .vec n x :: cs, l => ∃ a r, l = a ++ r ∧ a.length = n.val ∧ x.rel A w a ∧ ChsRel A w cs r

def W.rel (A : Ad) (w : World) : W → Value → Prop
  | .s x, v => x.rel A w v
  | .agg cs, v => ∃ cells : List Value, v = .agg cells.toArray ∧ ChsRel A w cs cells

def WsRel (A : Ad) (w : World) : List W → List Value → Prop
  | [], l => l = []
  | x :: xs, l => ∃ v r, l = v :: r ∧ x.rel A w v ∧ WsRel A w xs r

def V.rel (A : Ad) (w : World) : V → Value → Prop
  | .w x, v => x.rel A w v
  | .tup l, v => ∃ vs : List Value, v = .tuple vs.toArray ∧ WsRel A w l vs

structure Keep (A : Ad) (w : World) (A' : Ad) (w' : World) : Prop where
  pre : ∀ b x, A b = some x → A' b = some x
  new : ∀ b x, A' b = some x → (∃ b', A b' = some x) ∨ w.heap.size ≤ x
  old : ∀ k, k < w.heap.size → (∀ b, A b ≠ some k) → w'.heap[k]? = w.heap[k]?
  sz : ∀ (k : Nat) (arr : Array Value) (T : TypeId) (fz : Nat × Nat), w.heap[k]? = some (.cells arr T fz) → ∃ (arr' : Array Value) (T' : TypeId) (fz' : Nat × Nat), w'.heap[k]? = some (.cells arr' T' fz') ∧ arr'.size = arr.size
  size : w.heap.size ≤ w'.heap.size
  os : w'.os = w.os
  tape : w'.tape = w.tape
  output : w'.output = w.output

theorem heap_lt {w : World} {k : Nat} {o : Obj} (h : w.heap[k]? = some o) : k < w.heap.size := by
  rcases Nat.lt_or_ge k w.heap.size with h1 | h1
  · exact h1
  · rw [Array.getElem?_eq_none h1] at h; cases h

theorem Keep.refl (A : Ad) (w : World) : Keep A w A w :=
  ⟨fun _ _ h => h, fun b x h => .inl ⟨b, h⟩, fun _ _ _ => rfl, fun _ arr T fz h => ⟨arr, T, fz, h, rfl⟩, Nat.le_refl _, rfl, rfl, rfl⟩
theorem Keep.trans {A B C : Ad} {a b c : World} (h : Keep A a B b) (k : Keep B b C c) : Keep A a C c where
  pre := fun i x hi => k.pre i x (h.pre i x hi)
  new := fun i x hi => by
    rcases k.new i x hi with ⟨j, hj⟩ | hj
    · exact h.new j x hj
    · exact .inr (Nat.le_trans h.size hj)
  old := fun i hi hn => by
    rw [k.old i (Nat.lt_of_lt_of_le hi h.size), h.old i hi hn]
    intro j hj
    rcases h.new j i hj with ⟨j', hj'⟩ | hj'
    · exact hn j' hj'
    · omega
  sz := fun i arr T fz hi => by
    obtain ⟨arr1, T1, fz1, h1, e1⟩ := h.sz i arr T fz hi
    obtain ⟨arr2, T2, fz2, h2, e2⟩ := k.sz i arr1 T1 fz1 h1
    exact ⟨arr2, T2, fz2, h2, e2.trans e1⟩
  size := Nat.le_trans h.size k.size
  os := k.os.trans h.os
  tape := k.tape.trans h.tape
  output := k.output.trans h.output

theorem Keep.apart {A A' : Ad} {w w' : World} (h : Keep A w A' w') {blk : Nat} (hb : ∀ b, A b ≠ some blk) (hlt : blk < w.heap.size) : ∀ b, A' b ≠ some blk := by
  intro b hb'
  rcases h.new b blk hb' with ⟨j, hj⟩ | hj
  · exact hb j hj
  · omega
theorem Keep.xb {A A' : Ad} {w w' : World} (h : Keep A w A' w') {cs : List Value} {z : Nat} {v : Value} (hx : XB A w cs z v) : XB A' w' cs z v := by
  rcases hx with hx | ⟨blk, off, n, cap, arr, T, fz, h1, h2, h3, h4, h5, h6⟩
  · exact .inl hx
  · have hlt := heap_lt h5
    exact .inr ⟨blk, off, n, cap, arr, T, fz, h1, h2, h3, h.apart h4 hlt, by rw [h.old blk hlt h4]; exact h5, h6⟩
theorem Keep.vec {A A' : Ad} {w w' : World} (h : Keep A w A' w') {x : Vec} {cs : List Value} (hx : x.rel A w cs) : x.rel A' w' cs := by
  cases x <;> simp only [Vec.rel] at hx ⊢ <;> try exact hx
  exact ⟨hx.1, fun i x v h1 h2 => h.xb (hx.2 i x v h1 h2)⟩
theorem Keep.s {A A' : Ad} {w w' : World} (h : Keep A w A' w') {x : S} {v : Value} (hx : x.rel A w v) : x.rel A' w' v := by
  cases x <;> simp only [S.rel] at hx ⊢ <;> try exact hx
  case ptr b o => obtain ⟨a, h1, h2⟩ := hx; exact ⟨a, h.pre _ _ h1, h2⟩
  case mref b => obtain ⟨a, h1, h2⟩ := hx; exact ⟨a, h.pre _ _ h1, h2⟩
  case pti b o i => obtain ⟨a, h1, h2⟩ := hx; exact ⟨a, h.pre _ _ h1, h2⟩
  case clo f b o => obtain ⟨a, h1, h2⟩ := hx; exact ⟨a, h.pre _ _ h1, h2⟩
  case sl b o i len z =>
    rcases hx with hx | ⟨a, off, cap, arr, T, fz, h1, h2, h3, h4, h5, h6⟩
    · exact .inl hx
    · obtain ⟨arr', T', fz', h7, h8⟩ := h.sz _ _ _ _ h5
      exact .inr ⟨a, off, cap, arr', T', fz', h.pre _ _ h1, h2, h3, h4, h7, by omega⟩
  case xs z len x => obtain ⟨h0, cs, h1, h2, h3⟩ := hx; exact ⟨h0, cs, h.vec h1, h.xb h2, h3⟩
  case row u m l => exact ⟨hx.1, h.xb hx.2.1, hx.2.2⟩
  case xp x i =>
    obtain ⟨cs, blk, off, arr, T, fz, h1, h2, h3, h4, h5⟩ := hx
    have hlt := heap_lt h4
    exact ⟨cs, blk, off, arr, T, fz, h.vec h1, h2, h.apart h3 hlt, by rw [h.old blk hlt h3]; exact h4, h5⟩
theorem Keep.chs {A A' : Ad} {w w' : World} (h : Keep A w A' w') : ∀ {cs : List Ch} {l : List Value}, ChsRel A w cs l → ChsRel A' w' cs l
  | [], _, hx => hx
  | .one s :: cs, _, hx => by
    obtain ⟨v, r, h1, h2, h3, h4⟩ := hx
    exact ⟨v, r, h1, h.s h2, h3, h.chs h4⟩
  | .vec n x :: cs, _, hx => by
    obtain ⟨a, r, h1, h2, h3, h4⟩ := hx
    exact ⟨a, r, h1, h2, h.vec h3, h.chs h4⟩
theorem Keep.w {A A' : Ad} {w w' : World} (h : Keep A w A' w') {x : W} {v : Value} (hx : x.rel A w v) : x.rel A' w' v := by
  cases x with
  | s x => exact h.s hx
  | agg cs => obtain ⟨cells, h1, h2⟩ := hx; exact ⟨cells, h1, h.chs h2⟩
theorem Keep.ws {A A' : Ad} {w w' : World} (h : Keep A w A' w') : ∀ {xs : List W} {l : List Value}, WsRel A w xs l → WsRel A' w' xs l
  | [], _, hx => hx
  | x :: xs, _, hx => by
    obtain ⟨v, r, h1, h2, h3⟩ := hx
    exact ⟨v, r, h1, h.w h2, h.ws h3⟩
theorem Keep.v {A A' : Ad} {w w' : World} (h : Keep A w A' w') {x : V} {v : Value} (hx : x.rel A w v) : x.rel A' w' v := by
  cases x with
  | w x => exact h.w hx
  | tup l => obtain ⟨vs, h1, h2⟩ := hx; exact ⟨vs, h1, h.ws h2⟩

def BlkC (A : Ad) (w : World) (cs : List Ch) (a : Nat) : Prop :=
  ∃ arr T fz cells spare, w.heap[a]? = some (.cells arr T fz) ∧ (fz.2 = fz.1 ∨ arr.size ≤ fz.1) ∧ arr.toList = cells ++ spare ∧ ChsRel A w cs cells
def MapRel (w : World) (l : List UInt64) (a : Nat) : Prop :=
  ∃ es clk, w.heap[a]? = some (.map es clk) ∧ es.toList.map (fun e => (e.key, e.val)) = l.map fun k => (eu64 k, Value.bool true)
def isM (cs : List Ch) : Bool :=
  match cs with
  | .one (.mpc _) :: _ => true
  | _ => false
def BlkRel (A : Ad) (w : World) (cs : List Ch) (a : Nat) : Prop := BlkC A w cs a ∨ ∃ l, cs = [.one (.mpc l)] ∧ MapRel w l a
structure OwnOK (A : Ad) (w : World) (own : List Blk) : Prop where
  inn : ∀ b x, A b = some x → x < w.heap.size
  dom : ∀ b x, A b = some x → b < own.length
  dist : ∀ (i j x : Nat) (ci cj : List Ch), own[i]? = some (some ci) → own[j]? = some (some cj) → A i = some x → A j = some x → i = j
  blk : ∀ (i : Nat) (cs : List Ch), own[i]? = some (some cs) → (∃ x, A i = some x ∧ BlkRel A w cs x) ∨ (A i = none ∧ ChsRel A w cs [])

def putO : List Blk → Nat → Blk → List Blk
  | [], 0, b => [b]
  | [], f + 1, b => none :: putO [] f b
  | _ :: r, 0, b => b :: r
  | x :: r, f + 1, b => x :: putO r f b
theorem putO_self : ∀ (own : List Blk) (f : Nat) (b : Blk), (putO own f b)[f]? = some b
  | [], 0, b => rfl
  | [], f + 1, b => by simp [putO, putO_self [] f b]
  | _ :: r, 0, b => rfl
  | x :: r, f + 1, b => by simp [putO, putO_self r f b]
theorem putO_other : ∀ (own : List Blk) (f : Nat) (b : Blk) (i : Nat), i ≠ f → (putO own f b)[i]? = own[i]? ∨ (putO own f b)[i]? = some none
  | [], 0, b, i, h => by cases i <;> simp_all [putO]
  | [], f + 1, b, i, h => by
    cases i with
    | zero => simp [putO]
    | succ i => simpa [putO] using putO_other [] f b i (by omega)
  | _ :: r, 0, b, i, h => by cases i <;> simp_all [putO]
  | x :: r, f + 1, b, i, h => by
    cases i with
    | zero => simp [putO]
    | succ i => simpa [putO] using putO_other r f b i (by omega)
theorem putO_live {own : List Blk} {f : Nat} {b : Blk} {i : Nat} {cs : List Ch} (hi : i ≠ f) (h : (putO own f b)[i]? = some (some cs)) : own[i]? = some (some cs) := by
  rcases putO_other own f b i hi with h1 | h1
  · rw [← h1]; exact h
  · rw [h1] at h; cases h
theorem putO_length : ∀ (own : List Blk) (f : Nat) (b : Blk), (putO own f b).length = max own.length (f + 1)
  | [], 0, b => by simp [putO]
  | [], f + 1, b => by simp [putO, putO_length [] f b]
  | _ :: r, 0, b => by simp [putO]
  | x :: r, f + 1, b => by simp only [putO, List.length_cons, putO_length r f b]; omega
def getO (own : List Blk) (b : Nat) : Blk :=
  match own, b with
  | [], _ => none
  | x :: _, 0 => x
  | _ :: r, b + 1 => getO r b
theorem getO_some : ∀ {own : List Blk} {b : Nat} {cs : List Ch}, getO own b = some cs → own[b]? = some (some cs)
  | [], _, _, h => by simp [getO] at h
  | x :: _, 0, _, h => by simpa [getO] using h
  | _ :: r, b + 1, _, h => by simpa [getO] using getO_some (own := r) (b := b) (by simpa [getO] using h)

theorem BlkRel.keep {A A' : Ad} {w w' : World} {cs : List Ch} {a : Nat} (h : Keep A w A' w') (hs : w'.heap[a]? = w.heap[a]?) (hb : BlkRel A w cs a) : BlkRel A' w' cs a := by
  rcases hb with ⟨arr, T, fz, cells, spare, h1, h2, h3, h4⟩ | ⟨l, h1, es, clk, h2, h3⟩
  · exact .inl ⟨arr, T, fz, cells, spare, by rw [hs]; exact h1, h2, h3, h.chs h4⟩
  · exact .inr ⟨l, h1, es, clk, by rw [hs]; exact h2, h3⟩

theorem OwnOK.same {A : Ad} {w w' : World} {own : List Blk} (h : OwnOK A w own) (k : Keep A w A w') (hs : ∀ b x, A b = some x → w'.heap[x]? = w.heap[x]?) : OwnOK A w' own where
  inn := fun b x hb => Nat.lt_of_lt_of_le (h.inn b x hb) k.size
  dom := h.dom
  dist := h.dist
  blk := fun i cs hi => by
    rcases h.blk i cs hi with ⟨x, h1, h2⟩ | ⟨h1, h2⟩
    · exact .inl ⟨x, h1, h2.keep k (hs i x h1)⟩
    · exact .inr ⟨h1, k.chs h2⟩
theorem Keep.below {A : Ad} {w w' : World} (h : Below w.heap.size w w') : Keep A w A w' where
  pre := fun _ _ h => h
  new := fun b x h => .inl ⟨b, h⟩
  old := fun k hk _ => h.block k hk
  sz := fun k arr T fz hk => ⟨arr, T, fz, by rw [h.block k (heap_lt hk)]; exact hk, rfl⟩
  size := h.size
  os := h.os
  tape := h.tape
  output := h.output
theorem OwnOK.below {A : Ad} {w w' : World} {own : List Blk} (h : OwnOK A w own) (hb : Below w.heap.size w w') : OwnOK A w' own :=
  h.same (.below hb) fun b x hx => hb.block x (h.inn b x hx)

def A1 (A : Ad) (f a : Nat) : Ad := fun b => if b = f then some a else A b
theorem A1_self (A : Ad) (f a : Nat) : A1 A f a f = some a := by simp [A1]
theorem A1_other (A : Ad) (f a b : Nat) (h : b ≠ f) : A1 A f a b = A b := by simp [A1, h]

theorem own_new_keep {A : Ad} {w w' : World} {f a : Nat} (hf : A f = none) (hb : Below w.heap.size w w') (ha : w.heap.size ≤ a) : Keep A w (A1 A f a) w' where
  pre := fun b x hx => by
    by_cases e : b = f
    · subst e; rw [hf] at hx; cases hx
    · rw [A1_other _ _ _ _ e]; exact hx
  new := fun b x hx => by
    by_cases e : b = f
    · subst e; rw [A1_self] at hx; cases hx; exact .inr ha
    · rw [A1_other _ _ _ _ e] at hx; exact .inl ⟨b, hx⟩
  old := fun k hk _ => hb.block k hk
  sz := fun k arr T fz hk => ⟨arr, T, fz, by rw [hb.block k (heap_lt hk)]; exact hk, rfl⟩
  size := hb.size
  os := hb.os
  tape := hb.tape
  output := hb.output
theorem own_newB_ok {A : Ad} {w w' : World} {own : List Blk} {f a : Nat} {cs : List Ch} (h : OwnOK A w own) (hf : A f = none) (hb : Below w.heap.size w w')
    (ha : w.heap.size ≤ a) (ha' : a < w'.heap.size) (hblk : BlkRel (A1 A f a) w' cs a) : OwnOK (A1 A f a) w' (putO own f (some cs)) := by
  have hk := own_new_keep (w := w) (w' := w') hf hb ha
  constructor
  · intro b x hx
    by_cases e : b = f
    · subst e; rw [A1_self] at hx; cases hx; exact ha'
    · rw [A1_other _ _ _ _ e] at hx; exact Nat.lt_of_lt_of_le (h.inn b x hx) hb.size
  · intro b x hx
    rw [putO_length]
    by_cases e : b = f
    · omega
    · rw [A1_other _ _ _ _ e] at hx; have := h.dom b x hx; omega
  · intro i j x ci cj hi hj hx hy
    by_cases e1 : i = f <;> by_cases e2 : j = f
    · omega
    · subst e1; rw [A1_self] at hx; cases hx; rw [A1_other _ _ _ _ e2] at hy; have := h.inn j a hy; omega
    · subst e2; rw [A1_self] at hy; cases hy; rw [A1_other _ _ _ _ e1] at hx; have := h.inn i a hx; omega
    · rw [A1_other _ _ _ _ e1] at hx; rw [A1_other _ _ _ _ e2] at hy
      exact h.dist i j x ci cj (putO_live e1 hi) (putO_live e2 hj) hx hy
  · intro i c hi
    by_cases e : i = f
    · subst e
      rw [putO_self] at hi
      cases hi
      exact .inl ⟨a, A1_self _ _ _, hblk⟩
    · rcases h.blk i c (putO_live e hi) with ⟨x, h1, h2⟩ | ⟨h1, h2⟩
      · exact .inl ⟨x, by rw [A1_other _ _ _ _ e]; exact h1, h2.keep hk (hb.block x (h.inn i x h1))⟩
      · exact .inr ⟨by rw [A1_other _ _ _ _ e]; exact h1, hk.chs h2⟩
theorem own_new_ok {A : Ad} {w w' : World} {own : List Blk} {f a : Nat} {cs : List Ch} (h : OwnOK A w own) (hf : A f = none) (hb : Below w.heap.size w w')
    (ha : w.heap.size ≤ a) (ha' : a < w'.heap.size) (hblk : BlkC (A1 A f a) w' cs a) : OwnOK (A1 A f a) w' (putO own f (some cs)) := own_newB_ok h hf hb ha ha' (.inl hblk)
def setArr (w : World) (a : Nat) (arr : Array Value) (T : TypeId) (fz : Nat × Nat) : World := { w with heap := w.heap.setIfInBounds a (.cells arr T fz) }
theorem setArr_self {w : World} {a : Nat} {arr : Array Value} {T : TypeId} {fz : Nat × Nat} (h : a < w.heap.size) : (setArr w a arr T fz).heap[a]? = some (.cells arr T fz) := by
  simp [setArr, h]
theorem setArr_other {w : World} {a k : Nat} {arr : Array Value} {T : TypeId} {fz : Nat × Nat} (h : k ≠ a) : (setArr w a arr T fz).heap[k]? = w.heap[k]? := by
  simp [setArr, Array.getElem?_setIfInBounds, Ne.symm h]
theorem setArr_size {w : World} {a : Nat} {arr : Array Value} {T : TypeId} {fz : Nat × Nat} : (setArr w a arr T fz).heap.size = w.heap.size := by
  simp [setArr]
theorem own_set_keep {A : Ad} {w : World} {b a : Nat} {arr arr' : Array Value} {T T' : TypeId} {fz fz' : Nat × Nat} (hA : A b = some a)
    (hw : w.heap[a]? = some (.cells arr T fz)) (hs : arr'.size = arr.size) : Keep A w A (setArr w a arr' T' fz') where
  pre := fun _ _ h => h
  new := fun b x h => .inl ⟨b, h⟩
  old := fun k hk hn => setArr_other fun e => hn b (e ▸ hA)
  sz := fun k arr1 T1 fz1 hk => by
    by_cases e : k = a
    · subst e
      rw [hw] at hk
      cases hk
      exact ⟨arr', T', fz', setArr_self (heap_lt hw), hs⟩
    · exact ⟨arr1, T1, fz1, by rw [setArr_other e]; exact hk, rfl⟩
  size := by rw [setArr_size]; exact Nat.le_refl _
  os := rfl
  tape := rfl
  output := rfl
theorem own_set_ok {A : Ad} {w : World} {own : List Blk} {b a : Nat} {arr arr' : Array Value} {T T' : TypeId} {fz fz' : Nat × Nat} {cs0 cs : List Ch} {cells spare : List Value} (h : OwnOK A w own)
    (hb : own[b]? = some (some cs0)) (hA : A b = some a) (hw : w.heap[a]? = some (.cells arr T fz)) (hs : arr'.size = arr.size)
    (hfz : fz'.2 = fz'.1 ∨ arr'.size ≤ fz'.1) (hc : arr'.toList = cells ++ spare) (hr : ChsRel A w cs cells) : OwnOK A (setArr w a arr' T' fz') (putO own b (some cs)) := by
  have hk := own_set_keep (T' := T') (fz' := fz') hA hw hs
  constructor
  · intro b x hx; rw [setArr_size]; exact h.inn b x hx
  · intro b x hx; rw [putO_length]; have := h.dom b x hx; omega
  · intro i j x ci cj hi hj hx hy
    have live : ∀ (i : Nat) (ci : List Ch), (putO own b (some cs))[i]? = some (some ci) → ∃ c, own[i]? = some (some c) := fun i ci hi => by
      by_cases e : i = b
      · exact ⟨cs0, e ▸ hb⟩
      · exact ⟨ci, putO_live e hi⟩
    obtain ⟨c1, h1⟩ := live i ci hi
    obtain ⟨c2, h2⟩ := live j cj hj
    exact h.dist i j x c1 c2 h1 h2 hx hy
  · intro i c hi
    by_cases e : i = b
    · subst e
      rw [putO_self] at hi
      cases hi
      exact .inl ⟨a, hA, .inl ⟨arr', T', fz', cells, spare, setArr_self (heap_lt hw), hfz, hc, hk.chs hr⟩⟩
    · have hi' := putO_live e hi
      rcases h.blk i c hi' with ⟨x, h1, h2⟩ | ⟨h1, h2⟩
      · refine .inl ⟨x, h1, h2.keep hk (setArr_other fun e2 => e ?_)⟩
        subst e2
        exact h.dist i b x c cs0 hi' hb h1 hA
      · exact .inr ⟨h1, hk.chs h2⟩
theorem own_kill {A : Ad} {w : World} {own : List Blk} (h : OwnOK A w own) (b : Nat) : OwnOK A w (putO own b none) := by
  have live : ∀ (i : Nat) (ci : List Ch), (putO own b none)[i]? = some (some ci) → own[i]? = some (some ci) := fun i ci hi => by
    by_cases e : i = b
    · subst e; rw [putO_self] at hi; cases hi
    · exact putO_live e hi
  exact ⟨h.inn, fun b x hx => by rw [putO_length]; have := h.dom b x hx; omega, fun i j x ci cj hi hj hx hy => h.dist i j x ci cj (live i ci hi) (live j cj hj) hx hy,
    fun i cs hi => h.blk i cs (live i cs hi)⟩
theorem own_move_keep {A : Ad} {w : World} {b a f : Nat} (hA : A b = some a) (hf : A f = none) : Keep A w (A1 A f a) w where
  pre := fun i x hx => by
    by_cases e : i = f
    · subst e; rw [hf] at hx; cases hx
    · rw [A1_other _ _ _ _ e]; exact hx
  new := fun i x hx => by
    by_cases e : i = f
    · subst e; rw [A1_self] at hx; cases hx; exact .inl ⟨b, hA⟩
    · rw [A1_other _ _ _ _ e] at hx; exact .inl ⟨i, hx⟩
  old := fun _ _ _ => rfl
  sz := fun k arr T fz hk => ⟨arr, T, fz, hk, rfl⟩
  size := Nat.le_refl _
  os := rfl
  tape := rfl
  output := rfl
theorem own_move_ok {A : Ad} {w : World} {own : List Blk} {b a f : Nat} {cs : List Ch} (h : OwnOK A w own) (hb : own[b]? = some (some cs)) (hA : A b = some a) (hf : A f = none) (hbf : b ≠ f) :
    OwnOK (A1 A f a) w (putO (putO own b none) f (some cs)) := by
  have hk := own_move_keep (w := w) hA hf
  have live : ∀ (i : Nat) (ci : List Ch), i ≠ f → (putO (putO own b none) f (some cs))[i]? = some (some ci) → own[i]? = some (some ci) ∧ i ≠ b := fun i ci e hi => by
    have h1 := putO_live e hi
    by_cases e2 : i = b
    · subst e2; rw [putO_self] at h1; cases h1
    · exact ⟨putO_live e2 h1, e2⟩
  constructor
  · intro i x hx
    by_cases e : i = f
    · subst e; rw [A1_self] at hx; cases hx; exact h.inn b a hA
    · rw [A1_other _ _ _ _ e] at hx; exact h.inn i x hx
  · intro i x hx
    rw [putO_length, putO_length]
    by_cases e : i = f
    · omega
    · rw [A1_other _ _ _ _ e] at hx; have := h.dom i x hx; omega
  · intro i j x ci cj hi hj hx hy
    by_cases e1 : i = f <;> by_cases e2 : j = f
    · omega
    · subst e1; rw [A1_self] at hx; cases hx; rw [A1_other _ _ _ _ e2] at hy
      obtain ⟨h1, h2⟩ := live j cj e2 hj
      exact absurd (h.dist j b a cj cs h1 hb hy hA) h2
    · subst e2; rw [A1_self] at hy; cases hy; rw [A1_other _ _ _ _ e1] at hx
      obtain ⟨h1, h2⟩ := live i ci e1 hi
      exact absurd (h.dist i b a ci cs h1 hb hx hA) h2
    · rw [A1_other _ _ _ _ e1] at hx; rw [A1_other _ _ _ _ e2] at hy
      exact h.dist i j x ci cj (live i ci e1 hi).1 (live j cj e2 hj).1 hx hy
  · intro i c hi
    by_cases e : i = f
    · subst e
      rw [putO_self] at hi
      cases hi
      rcases h.blk b cs hb with ⟨x, h1, h2⟩ | ⟨h1, h2⟩
      · rw [hA] at h1; cases h1
        exact .inl ⟨a, A1_self _ _ _, h2.keep hk rfl⟩
      · rw [hA] at h1; cases h1
    · rcases h.blk i c (live i c e hi).1 with ⟨x, h1, h2⟩ | ⟨h1, h2⟩
      · exact .inl ⟨x, by rw [A1_other _ _ _ _ e]; exact h1, h2.keep hk rfl⟩
      · exact .inr ⟨by rw [A1_other _ _ _ _ e]; exact h1, hk.chs h2⟩
theorem OwnOK.at {A : Ad} {w : World} {own : List Blk} (h : OwnOK A w own) {k a : Nat} {cs : List Ch} (hk : own[k]? = some (some cs)) (ha : A k = some a) (hn : isM cs = false) : BlkC A w cs a := by
  rcases h.blk k cs hk with ⟨x, h1, h2 | ⟨l, h2, _⟩⟩ | ⟨h1, _⟩
  · rw [ha] at h1; cases h1; exact h2
  · rw [h2] at hn; cases hn
  · rw [ha] at h1; cases h1
theorem OwnOK.atM {A : Ad} {w : World} {own : List Blk} (h : OwnOK A w own) {k a : Nat} {l : List UInt64} (hk : own[k]? = some (some [.one (.mpc l)])) (ha : A k = some a) : MapRel w l a := by
  rcases h.blk k _ hk with ⟨x, h1, h2 | ⟨l', h2, h3⟩⟩ | ⟨h1, _⟩
  · obtain ⟨_, _, _, _, _, _, _, _, v, r, _, h4, _⟩ := h2
    exact h4.elim
  · rw [ha] at h1; cases h1; cases h2; exact h3
  · rw [ha] at h1; cases h1
theorem OwnOK.atC {A : Ad} {w : World} {own : List Blk} (h : OwnOK A w own) {k a : Nat} {cs : List Ch} (hk : own[k]? = some (some cs)) (ha : A k = some a) {arr : Array Value} {T : TypeId} {fz : Nat × Nat} (hw : w.heap[a]? = some (.cells arr T fz)) : BlkC A w cs a := by
  rcases h.blk k cs hk with ⟨x, h1, h2 | ⟨l, _, es, clk, h2, _⟩⟩ | ⟨h1, _⟩
  · rw [ha] at h1; cases h1; exact h2
  · rw [ha] at h1; cases h1; rw [hw] at h2; cases h2
  · rw [ha] at h1; cases h1
theorem OwnOK.cells {A : Ad} {w : World} {own : List Blk} (h : OwnOK A w own) {k : Nat} {cs : List Ch} (hk : own[k]? = some (some cs)) (hn : isM cs = false) : ∃ cells, ChsRel A w cs cells := by
  rcases h.blk k cs hk with ⟨x, h1, ⟨arr, T, fz, cells, spare, g1, g2, g3, g4⟩ | ⟨l, g, _⟩⟩ | ⟨_, h2⟩
  · exact ⟨cells, g4⟩
  · rw [g] at hn; cases hn
  · exact ⟨[], h2⟩
end Go.Eng
/- Reading and writing the pieces of a block. -/
namespace Go.Eng
open Go Go.RowKit

def encS : S → Option Value
  | .u8 x => some (eu8 x) | .u16 x => some (eu16 x) | .u32 x => some (eu32 x) | .u64 x => some (eu64 x) | .i64 x => some (ei64 x) | .n x => some (ei64 x)
  | .b x => some (.bool x) | .lb x => some (.bool x) | .nil => some (.slice none 0 0) | _ => none
theorem encS_ok {A : Ad} {w : World} {s : S} {v x : Value} (h : encS s = some v) (hs : s.rel A w x) : x = v ∧ one1 v = true := by
  cases s <;> simp only [encS, Option.some.injEq, reduceCtorEq] at h <;> subst h <;> exact ⟨hs, rfl⟩
def Vec.get : Vec → Nat → S
  | .u8 l, i => .u8 (l.getD i 0)
  | .u16 l, i => .u16 (l.getD i 0)
  | .u32 l, i => .u32 (l.getD i 0)
  | .u64 l, i => .u64 (l.getD i 0)
  | .i64 l, i => .i64 (l.getD i 0)
  | .bo l, i => .b (l.getD i false)
  | .sl l, i => .xs 1 (.s (l.getD i []).length) (.u8 (l.getD i []))
  | .va l, i => .cst (l.getD i (.bool false))
def Vec.put : Vec → Nat → S → Option Vec
  | .u8 l, i, .u8 x => some (.u8 (l.set i x))
  | .u16 l, i, .u16 x => some (.u16 (l.set i x))
  | .u32 l, i, .u32 x => some (.u32 (l.set i x))
  | .u64 l, i, .u64 x => some (.u64 (l.set i x))
  | .i64 l, i, .i64 x => some (.i64 (l.set i x))
  | .i64 l, i, .n x => some (.i64 (l.set i x))
  | .bo l, i, .b x => some (.bo (l.set i x))
  | .bo l, i, .lb x => some (.bo (l.set i x))
  | .va l, i, s => match encS s with | some v => some (.va (l.set i v)) | none => none
  | _, _, _ => none
def dropL {α : Type} (l : List α) (i : Nat) : List α := match i with | 0 => l | i + 1 => l.drop (i + 1)
theorem dropL_eq {α : Type} (l : List α) (i : Nat) : dropL l i = l.drop i := by cases i <;> simp [dropL]
def Vec.drop : Vec → Nat → Vec
  | .u8 l, i => .u8 (dropL l i)
  | .u16 l, i => .u16 (dropL l i)
  | .u32 l, i => .u32 (dropL l i)
  | .u64 l, i => .u64 (dropL l i)
  | .i64 l, i => .i64 (dropL l i)
  | .bo l, i => .bo (dropL l i)
  | .sl l, i => .sl (dropL l i)
  | .va l, i => .va (dropL l i)
def Vec.dropS : Vec → Nat → Vec
  | .u8 l, i => .u8 (l.drop i)
  | .u16 l, i => .u16 (l.drop i)
  | .u32 l, i => .u32 (l.drop i)
  | .u64 l, i => .u64 (l.drop i)
  | .i64 l, i => .i64 (l.drop i)
  | .bo l, i => .bo (l.drop i)
  | .sl l, i => .sl (l.drop i)
  | .va l, i => .va (l.drop i)
def Vec.take : Vec → Nat → Vec
  | .u8 l, i => .u8 (l.take i)
  | .u16 l, i => .u16 (l.take i)
  | .u32 l, i => .u32 (l.take i)
  | .u64 l, i => .u64 (l.take i)
  | .i64 l, i => .i64 (l.take i)
  | .bo l, i => .bo (l.take i)
  | .sl l, i => .sl (l.take i)
  | .va l, i => .va (l.take i)
def Vec.app : Vec → Vec → Option Vec
  | .u8 l, .u8 k => some (.u8 (l ++ k))
  | .u16 l, .u16 k => some (.u16 (l ++ k))
  | .u32 l, .u32 k => some (.u32 (l ++ k))
  | .u64 l, .u64 k => some (.u64 (l ++ k))
  | .i64 l, .i64 k => some (.i64 (l ++ k))
  | .bo l, .bo k => some (.bo (l ++ k))
  | .sl l, .sl k => some (.sl (l ++ k))
  | .va l, .va k => some (.va (l ++ k))
  | _, _ => none
def over {α : Type} (l : List α) (i : Nat) (s : List α) : List α := l.take i ++ s ++ l.drop (i + s.length)
def Vec.over : Vec → Nat → Vec → Option Vec
  | .u8 l, i, .u8 k => some (.u8 (Eng.over l i k))
  | .u16 l, i, .u16 k => some (.u16 (Eng.over l i k))
  | .u32 l, i, .u32 k => some (.u32 (Eng.over l i k))
  | .u64 l, i, .u64 k => some (.u64 (Eng.over l i k))
  | .i64 l, i, .i64 k => some (.i64 (Eng.over l i k))
  | .bo l, i, .bo k => some (.bo (Eng.over l i k))
  | .sl l, i, .sl k => some (.sl (Eng.over l i k))
  | .va l, i, .va k => some (.va (Eng.over l i k))
  | _, _, _ => none
def findC : List Ch → Nat → Option (List Ch × Ch × Nat × List Ch)
  | [], _ => none
  | c :: r, o => match isM (c :: r) with
   | true => none
   | false => match c.size with
    | .n m => match Nat.blt o m with
      | true => some ([], c, o, r)
      | false => match findC r (o - m) with
        | none => none
        | some (b, c', i, a) => some (c :: b, c', i, a)
    | .s _ => some ([], c, o, r)
def takeN : List Ch → Nat → Option (List Ch × List Ch)
  | cs, 0 => some ([], cs)
  | [], _ + 1 => none
  | c :: r, n + 1 => match c.size with
    | .n m => match Nat.ble m (n + 1) with
      | true => match takeN r (n + 1 - m) with
        | none => none
        | some (t, rest) => some (c :: t, rest)
      | false => none
    | .s _ => none

theorem Vec.rel_len {A : Ad} {w : World} {v : Vec} {cs : List Value} (h : v.rel A w cs) : cs.length = v.len := by
  cases v <;> simp only [Vec.rel] at h <;> first | (subst h; simp [Vec.len]; done) | (rw [← h.1]; rfl) | (rw [h.1]; rfl)
theorem XB.one {A : Ad} {w : World} {cs : List Value} {z : Nat} {v : Value} (h : XB A w cs z v) : one1 v = true := by
  rcases h with ⟨⟨_, rfl⟩, _⟩ | ⟨_, _, _, _, _, _, _, rfl, _⟩ <;> rfl
theorem XB.xs {A : Ad} {w : World} {l : List UInt8} {v : Value} (h : XB A w (l.map eu8) 1 v) : (S.xs 1 (.s l.length) (.u8 l)).rel A w v :=
  ⟨by omega, l.map eu8, rfl, h, by simp [I.val]⟩
theorem getD_map {α β : Type} (f : α → β) (l : List α) (i : Nat) (d : α) (h : i < l.length) : (l.map f)[i]? = some (f (l.getD i d)) := by
  rw [List.getElem?_map, List.getElem?_eq_getElem h, List.getD_eq_getElem?_getD, List.getElem?_eq_getElem h]; rfl
theorem Vec.get_ok {A : Ad} {w : World} {v : Vec} {cs : List Value} {i : Nat} (h : v.rel A w cs) (hi : i < cs.length) : ∃ x, cs[i]? = some x ∧ (v.get i).rel A w x ∧ one1 x = true := by
  have hl := Vec.rel_len h
  cases v with
  | sl l =>
    simp only [Vec.rel] at h
    have hi' : i < l.length := by omega
    have hx := h.2 i l[i] cs[i] (List.getElem?_eq_getElem hi') (List.getElem?_eq_getElem hi)
    refine ⟨cs[i], List.getElem?_eq_getElem hi, ?_, hx.one⟩
    have e : l.getD i [] = l[i] := by rw [List.getD_eq_getElem?_getD, List.getElem?_eq_getElem hi']; rfl
    simp only [Vec.get, e]
    exact hx.xs
  | u8 l => simp only [Vec.rel] at h; subst h; exact ⟨_, getD_map _ _ _ 0 (by simpa using hi), rfl, rfl⟩
  | u16 l => simp only [Vec.rel] at h; subst h; exact ⟨_, getD_map _ _ _ 0 (by simpa using hi), rfl, rfl⟩
  | u32 l => simp only [Vec.rel] at h; subst h; exact ⟨_, getD_map _ _ _ 0 (by simpa using hi), rfl, rfl⟩
  | u64 l => simp only [Vec.rel] at h; subst h; exact ⟨_, getD_map _ _ _ 0 (by simpa using hi), rfl, rfl⟩
  | i64 l => simp only [Vec.rel] at h; subst h; exact ⟨_, getD_map _ _ _ 0 (by simpa using hi), rfl, rfl⟩
  | bo l => simp only [Vec.rel] at h; subst h; exact ⟨_, getD_map _ _ _ false (by simpa using hi), rfl, rfl⟩
  | va l =>
    obtain ⟨rfl, h1⟩ := h
    refine ⟨cs[i], List.getElem?_eq_getElem hi, ?_, h1 _ (List.getElem_mem hi)⟩
    simp only [Vec.get, List.getD_eq_getElem?_getD, List.getElem?_eq_getElem hi]
    exact rfl
theorem Vec.put_ok {A : Ad} {w : World} {v v' : Vec} {cs : List Value} {i : Nat} {s : S} {x : Value} (h : v.rel A w cs) (hp : v.put i s = some v') (hs : s.rel A w x) :
    v'.rel A w (cs.set i x) ∧ one1 x = true := by
  by_cases hv : ∃ l, v = .va l
  · obtain ⟨l, rfl⟩ := hv
    obtain ⟨rfl, h1⟩ := h
    have hp : (match encS s with | some v => some (Vec.va (cs.set i v)) | none => none) = some v' := by cases s <;> exact hp
    split at hp
    · rename_i u hu
      cases hp
      obtain ⟨rfl, h2⟩ := encS_ok hu hs
      refine ⟨⟨rfl, fun y hy => ?_⟩, h2⟩
      rcases List.mem_or_eq_of_mem_set hy with h3 | rfl
      · exact h1 _ h3
      · exact h2
    · cases hp
  cases v <;> (try exact absurd ⟨_, rfl⟩ hv) <;> cases s <;> simp only [Vec.put, Option.some.injEq, reduceCtorEq] at hp <;> subst hp <;> simp only [Vec.rel] at h ⊢ <;>
    simp only [S.rel, S.sc] at hs <;> subst h <;> subst hs <;> simp [List.map_set, one1, eu8, eu16, eu32, eu64, ei64, ebo]
theorem Vec.drop_ok {A : Ad} {w : World} {v : Vec} {cs : List Value} {i : Nat} (h : v.rel A w cs) : (v.drop i).rel A w (cs.drop i) := by
  cases v <;> simp only [Vec.rel, Vec.drop, dropL_eq] at h ⊢ <;> first
    | (subst h; rw [List.map_drop]; done)
    | (obtain ⟨rfl, h1⟩ := h; exact ⟨rfl, fun x hx => h1 x (List.mem_of_mem_drop hx)⟩)
    | (refine ⟨by simp [h.1], fun j x u hx hu => ?_⟩
       rw [List.getElem?_drop] at hx hu
       exact h.2 _ _ _ hx hu)
theorem Vec.dropS_ok {A : Ad} {w : World} {v : Vec} {cs : List Value} {i : Nat} (h : v.rel A w cs) : (v.dropS i).rel A w (cs.drop i) := by
  cases v <;> simp only [Vec.rel, Vec.dropS] at h ⊢ <;> first
    | (subst h; rw [List.map_drop]; done)
    | (obtain ⟨rfl, h1⟩ := h; exact ⟨rfl, fun x hx => h1 x (List.mem_of_mem_drop hx)⟩)
    | (refine ⟨by simp [h.1], fun j x u hx hu => ?_⟩
       rw [List.getElem?_drop] at hx hu
       exact h.2 _ _ _ hx hu)
theorem Vec.take_ok {A : Ad} {w : World} {v : Vec} {cs : List Value} {i : Nat} (h : v.rel A w cs) : (v.take i).rel A w (cs.take i) := by
  cases v <;> simp only [Vec.rel, Vec.take] at h ⊢ <;> first
    | (subst h; rw [List.map_take]; done)
    | (obtain ⟨rfl, h1⟩ := h; exact ⟨rfl, fun x hx => h1 x (List.mem_of_mem_take hx)⟩)
    | (refine ⟨by simp [h.1], fun j x u hx hu => ?_⟩
       rw [List.getElem?_take] at hx hu
       split at hx
       · rename_i hj; rw [if_pos hj] at hu; exact h.2 _ _ _ hx hu
       · cases hx)
theorem Vec.app_ok {A : Ad} {w : World} {v u t : Vec} {cs ds : List Value} (h : v.rel A w cs) (k : u.rel A w ds) (e : v.app u = some t) : t.rel A w (cs ++ ds) := by
  cases v <;> cases u <;> simp only [Vec.app, Option.some.injEq, reduceCtorEq] at e <;> subst e <;> simp only [Vec.rel] at h k ⊢ <;> first
    | (subst h; subst k; rw [List.map_append]; done)
    | (obtain ⟨rfl, h1⟩ := h; obtain ⟨rfl, k1⟩ := k; exact ⟨rfl, fun x hx => (List.mem_append.1 hx).elim (h1 x) (k1 x)⟩)
    | (refine ⟨by simp [h.1, k.1], fun j x u hx hu => ?_⟩
       rw [List.getElem?_append] at hx hu
       by_cases hj : j < cs.length
       · rw [if_pos (by omega)] at hx; rw [if_pos hj] at hu; exact h.2 _ _ _ hx hu
       · rw [if_neg (by omega)] at hx; rw [if_neg hj] at hu; rw [h.1] at hx; exact k.2 _ _ _ hx hu)
theorem Vec.over_eq {v u : Vec} {i : Nat} {t : Vec} (e : v.over i u = some t) : ∃ x, (v.take i).app u = some x ∧ x.app (v.dropS (i + u.len)) = some t := by
  cases v <;> cases u <;> simp only [Vec.over, Option.some.injEq, reduceCtorEq] at e <;> subst e <;> exact ⟨_, rfl, rfl⟩
theorem Vec.over_ok {A : Ad} {w : World} {v u t : Vec} {i : Nat} {cs ds : List Value} (h : v.rel A w cs) (k : u.rel A w ds) (e : v.over i u = some t) : t.rel A w (cs.take i ++ ds ++ cs.drop (i + ds.length)) := by
  obtain ⟨x, h1, h2⟩ := Vec.over_eq e
  have := Vec.rel_len k
  rw [this]
  exact Vec.app_ok (Vec.app_ok (Vec.take_ok h) k h1) (Vec.dropS_ok h) h2

theorem ChsRel.append {A : Ad} {w : World} : ∀ {b a : List Ch} {l1 l2 : List Value}, ChsRel A w b l1 → ChsRel A w a l2 → ChsRel A w (b ++ a) (l1 ++ l2)
  | [], a, l1, l2, h, k => by simp only [ChsRel] at h; subst h; exact k
  | .one s :: b, a, _, l2, h, k => by
    obtain ⟨v, r, rfl, h2, h3, h4⟩ := h
    exact ⟨v, r ++ l2, rfl, h2, h3, h4.append k⟩
  | .vec n x :: b, a, _, l2, h, k => by
    obtain ⟨c, r, rfl, h2, h3, h4⟩ := h
    exact ⟨c, r ++ l2, by simp, h2, h3, h4.append k⟩
theorem ChsRel.split {A : Ad} {w : World} : ∀ {b a : List Ch} {l : List Value}, ChsRel A w (b ++ a) l → ∃ l1 l2, l = l1 ++ l2 ∧ ChsRel A w b l1 ∧ ChsRel A w a l2
  | [], a, l, h => ⟨[], l, rfl, rfl, h⟩
  | .one s :: b, a, _, h => by
    obtain ⟨v, r, rfl, h2, h3, h4⟩ := h
    obtain ⟨l1, l2, rfl, k1, k2⟩ := h4.split
    exact ⟨v :: l1, l2, rfl, ⟨v, l1, rfl, h2, h3, k1⟩, k2⟩
  | .vec n x :: b, a, _, h => by
    obtain ⟨c, r, rfl, h2, h3, h4⟩ := h
    obtain ⟨l1, l2, rfl, k1, k2⟩ := h4.split
    exact ⟨c ++ l1, l2, by simp, ⟨c, l1, rfl, h2, h3, k1⟩, k2⟩
theorem ChsRel.cons_size {A : Ad} {w : World} {c : Ch} {cs : List Ch} {l : List Value} (h : ChsRel A w (c :: cs) l) : ∃ l1 l2, l = l1 ++ l2 ∧ l1.length = c.size.val ∧ ChsRel A w [c] l1 ∧ ChsRel A w cs l2 := by
  cases c with
  | one s =>
    obtain ⟨v, r, rfl, h2, h3, h4⟩ := h
    exact ⟨[v], r, rfl, rfl, ⟨v, [], rfl, h2, h3, rfl⟩, h4⟩
  | vec n x =>
    obtain ⟨a, r, rfl, h2, h3, h4⟩ := h
    exact ⟨a, r, rfl, h2, ⟨a, [], by simp, h2, h3, rfl⟩, h4⟩
theorem findC_ok {A : Ad} {w : World} : ∀ {cs : List Ch} {o : Nat} {b : List Ch} {c : Ch} {i : Nat} {a : List Ch} {l : List Value}, findC cs o = some (b, c, i, a) → ChsRel A w cs l →
    cs = b ++ c :: a ∧ ∃ l1 l2 l3, l = l1 ++ (l2 ++ l3) ∧ l1.length + i = o ∧ ChsRel A w b l1 ∧ ChsRel A w [c] l2 ∧ l2.length = c.size.val ∧ ChsRel A w a l3 ∧ (∀ m, c.size = .n m → i < m)
  | [], o, b, c, i, a, l, h, _ => by simp [findC] at h
  | c0 :: r, o, b, c, i, a, l, h, hr => by
    obtain ⟨x1, x2, rfl, e1, k1, k2⟩ := hr.cons_size
    unfold findC at h
    split at h
    · cases h
    cases hs : c0.size with
    | s z =>
      rw [hs] at h
      simp only [Option.some.injEq, Prod.mk.injEq] at h
      obtain ⟨rfl, rfl, rfl, rfl⟩ := h
      exact ⟨rfl, [], x1, x2, rfl, by simp, rfl, k1, e1, k2, fun m e => by rw [hs] at e; cases e⟩
    | n m =>
      rw [hs] at h
      simp only at h
      cases hb : Nat.blt o m with
      | true =>
        rw [hb] at h
        simp only [Option.some.injEq, Prod.mk.injEq] at h
        obtain ⟨rfl, rfl, rfl, rfl⟩ := h
        exact ⟨rfl, [], x1, x2, rfl, by simp, rfl, k1, e1, k2, fun m' e => by rw [hs] at e; cases e; have := Nat.le_of_ble_eq_true hb; omega⟩
      | false =>
        rw [hb] at h
        simp only at h
        split at h
        · cases h
        · rename_i b' c' i' a' hf
          simp only [Option.some.injEq, Prod.mk.injEq] at h
          obtain ⟨rfl, rfl, rfl, rfl⟩ := h
          obtain ⟨rfl, l1, l2, l3, rfl, g1, g2, g3, g4, g5, g6⟩ := findC_ok hf k2
          rw [hs] at e1
          have hm : m ≤ o := by
            have := hb
            simp only [Nat.blt] at this
            rcases Nat.lt_or_ge o m with h' | h'
            · exfalso; rw [Nat.ble_eq_true_of_le h'] at this; cases this
            · exact h'
          refine ⟨rfl, x1 ++ l1, l2, l3, by simp, ?_, ?_, g3, g4, g5, g6⟩
          · simp only [List.length_append, I.val] at e1 ⊢; omega
          · exact ChsRel.append (b := [c0]) k1 g2
theorem takeN_ok {A : Ad} {w : World} : ∀ {cs : List Ch} {n : Nat} {t r : List Ch} {l : List Value}, takeN cs n = some (t, r) → ChsRel A w cs l →
    cs = t ++ r ∧ ∃ l1 l2, l = l1 ++ l2 ∧ l1.length = n ∧ ChsRel A w t l1 ∧ ChsRel A w r l2
  | cs, 0, t, r, l, h, hr => by
    have : t = [] ∧ r = cs := by cases cs <;> simp_all [takeN]
    obtain ⟨rfl, rfl⟩ := this
    exact ⟨rfl, [], l, rfl, rfl, rfl, hr⟩
  | [], n + 1, t, r, l, h, hr => by simp [takeN] at h
  | c :: cs, n + 1, t, r, l, h, hr => by
    obtain ⟨x1, x2, rfl, e1, k1, k2⟩ := hr.cons_size
    unfold takeN at h
    cases hs : c.size with
    | s z => rw [hs] at h; cases h
    | n m =>
      rw [hs] at h
      simp only at h
      cases hb : Nat.ble m (n + 1) with
      | false => rw [hb] at h; cases h
      | true =>
        rw [hb] at h
        simp only at h
        split at h
        · cases h
        · rename_i t' r' ht
          simp only [Option.some.injEq, Prod.mk.injEq] at h
          obtain ⟨rfl, rfl⟩ := h
          obtain ⟨rfl, l1, l2, rfl, g1, g2, g3⟩ := takeN_ok ht k2
          rw [hs] at e1
          have hm := Nat.le_of_ble_eq_true hb
          refine ⟨rfl, x1 ++ l1, l2, by simp, ?_, ChsRel.append (b := [c]) k1 g2, g3⟩
          simp only [List.length_append, I.val] at e1 ⊢; omega
end Go.Eng
/- Blocks read and written, and the model's own loads and stores. -/
namespace Go.Eng
open Go Go.RowKit

def S.opn : S → S
  | .row _ m l => .xs 1 (.s m) (.u8 l)
  | s => s
theorem opn_rel {A : Ad} {w : World} {s : S} {v : Value} (h : s.rel A w v) : s.opn.rel A w v := by
  cases s with
  | row u m l =>
    obtain ⟨_, h1, h2⟩ := h
    exact ⟨Nat.one_pos, l.map eu8, rfl, h1, by simp [I.val, h2]⟩
  | _ => exact h
def rdS (cs : List Ch) (o : Nat) : R S :=
  match findC cs o with
  | some (_, .one s, 0, _) => some ([], s.opn)
  | some (_, .vec (.n _) v, i, _) => some ([], v.get i)
  | some (_, .vec (.s m) v, i, _) => some ([i < m], v.get i)
  | _ => none
def rdI (cs : List Ch) (o j : Nat) : R S :=
  match findC cs o with
  | some (_, .vec m v, 0, _) => some ([j < m.val], v.get j)
  | some (_, .vec m v, i + 1, _) => some ([i + 1 + j < m.val], v.get (i + 1 + j))
  | _ => none
def rdA (cs : List Ch) (o n : Nat) : R (List Ch) :=
  match findC cs o with
  | some (_, c, 0, a) => match takeN (c :: a) n with
    | some (t, _) => some ([], t)
    | none => match c with
      | .vec m v => some ([n ≤ m.val], [.vec (.n n) (v.take n)])
      | _ => none
  | some (_, .vec m v, i + 1, _) => some ([i + 1 + n ≤ m.val], [.vec (.n n) ((v.drop (i + 1)).take n)])
  | _ => none
def rdAI (cs : List Ch) (o j n : Nat) : R (List Ch) :=
  match findC cs o with
  | some (_, .vec m v, 0, _) => some ([j + n ≤ m.val], [.vec (.n n) ((v.dropS j).take n)])
  | some (_, .vec m v, i + 1, _) => some ([i + 1 + j + n ≤ m.val], [.vec (.n n) ((v.dropS (i + 1 + j)).take n)])
  | _ => none
def S.oneC : S → Bool
  | .any => false
  | .cst v => one1 v
  | _ => true
def wrS (cs : List Ch) (o : Nat) (s : S) : R (List Ch) :=
  match findC cs o with
  | some (b, .one _, 0, a) => match s.oneC with
    | true => some ([], b ++ .one s :: a)
    | false => none
  | some (b, .vec (.n m) v, i, a) => match v.put i s with
    | some v' => some ([], b ++ .vec (.n m) v' :: a)
    | none => none
  | some (b, .vec (.s m) v, i, a) => match v.put i s with
    | some v' => some ([i < m], b ++ .vec (.s m) v' :: a)
    | none => none
  | _ => none
def wrI (cs : List Ch) (o j : Nat) (s : S) : R (List Ch) :=
  match findC cs o with
  | some (b, .vec m v, 0, a) => match v.put j s with
    | some v' => some ([j < m.val], b ++ .vec m v' :: a)
    | none => none
  | some (b, .vec m v, i + 1, a) => match v.put (i + 1 + j) s with
    | some v' => some ([i + 1 + j < m.val], b ++ .vec m v' :: a)
    | none => none
  | _ => none
def wrA (cs : List Ch) (o n : Nat) (new : List Ch) : R (List Ch) :=
  match findC cs o with
  | some (b, c, 0, a) => match takeN (c :: a) n with
    | some (_, r) => some ([], b ++ new ++ r)
    | none => match c, new with
      | .vec m v, [.vec _ u] => match v.over 0 u with
        | some v' => some ([n ≤ m.val], b ++ .vec m v' :: a)
        | none => none
      | _, _ => none
  | some (b, .vec m v, i + 1, a) => match new with
    | [.vec _ u] => match v.over (i + 1) u with
      | some v' => some ([i + 1 + n ≤ m.val], b ++ .vec m v' :: a)
      | none => none
    | _ => none
  | _ => none
def wrAI (cs : List Ch) (o j n : Nat) (new : List Ch) : R (List Ch) :=
  match findC cs o with
  | some (b, .vec m v, 0, a) => match new with
    | [.vec _ u] => match v.over j u with
      | some v' => some ([j + n ≤ m.val], b ++ .vec m v' :: a)
      | none => none
    | _ => none
  | some (b, .vec m v, i + 1, a) => match new with
    | [.vec _ u] => match v.over (i + 1 + j) u with
      | some v' => some ([i + 1 + j + n ≤ m.val], b ++ .vec m v' :: a)
      | none => none
    | _ => none
  | _ => none

theorem findC_nm {cs : List Ch} {o : Nat} {x : List Ch × Ch × Nat × List Ch} (h : findC cs o = some x) : isM cs = false := by
  cases cs with
  | nil => rfl
  | cons c r =>
    unfold findC at h
    split at h
    · cases h
    · assumption
theorem rdS_nm {cs : List Ch} {o : Nat} {x : List Prop × S} (h : rdS cs o = some x) : isM cs = false := by
  unfold rdS at h
  cases hf : findC cs o with
  | none => rw [hf] at h; cases h
  | some y => exact findC_nm hf
theorem rdI_nm {cs : List Ch} {o j : Nat} {x : List Prop × S} (h : rdI cs o j = some x) : isM cs = false := by
  unfold rdI at h
  cases hf : findC cs o with
  | none => rw [hf] at h; cases h
  | some y => exact findC_nm hf
theorem rdA_nm {cs : List Ch} {o n : Nat} {x : List Prop × List Ch} (h : rdA cs o n = some x) : isM cs = false := by
  unfold rdA at h
  cases hf : findC cs o with
  | none => rw [hf] at h; cases h
  | some y => exact findC_nm hf
theorem rdAI_nm {cs : List Ch} {o j n : Nat} {x : List Prop × List Ch} (h : rdAI cs o j n = some x) : isM cs = false := by
  unfold rdAI at h
  cases hf : findC cs o with
  | none => rw [hf] at h; cases h
  | some y => exact findC_nm hf
theorem wrS_nm {cs : List Ch} {o : Nat} {s : S} {x : List Prop × List Ch} (h : wrS cs o s = some x) : isM cs = false := by
  unfold wrS at h
  cases hf : findC cs o with
  | none => rw [hf] at h; cases h
  | some y => exact findC_nm hf
theorem wrI_nm {cs : List Ch} {o j : Nat} {s : S} {x : List Prop × List Ch} (h : wrI cs o j s = some x) : isM cs = false := by
  unfold wrI at h
  cases hf : findC cs o with
  | none => rw [hf] at h; cases h
  | some y => exact findC_nm hf
theorem wrA_nm {cs : List Ch} {o n : Nat} {u : List Ch} {x : List Prop × List Ch} (h : wrA cs o n u = some x) : isM cs = false := by
  unfold wrA at h
  cases hf : findC cs o with
  | none => rw [hf] at h; cases h
  | some y => exact findC_nm hf
theorem wrAI_nm {cs : List Ch} {o j n : Nat} {u : List Ch} {x : List Prop × List Ch} (h : wrAI cs o j n u = some x) : isM cs = false := by
  unfold wrAI at h
  cases hf : findC cs o with
  | none => rw [hf] at h; cases h
  | some y => exact findC_nm hf

theorem S.oneC_ok {A : Ad} {w : World} {s : S} {v : Value} (h : s.oneC = true) (hr : s.rel A w v) : one1 v = true := by
  cases s <;> simp only [S.rel, S.oneC, S.sc] at h hr
  case any => cases h
  case nil => subst hr; rfl
  case ptr => obtain ⟨a, _, rfl⟩ := hr; rfl
  case pti => obtain ⟨a, _, rfl⟩ := hr; rfl
  case clo => obtain ⟨a, _, rfl⟩ := hr; rfl
  case sl => rcases hr with ⟨rfl, _⟩ | ⟨_, _, _, _, _, _, _, rfl, _⟩ <;> rfl
  case row => exact hr.2.1.one
  case mref => obtain ⟨a, _, rfl⟩ := hr; rfl
  case xs => obtain ⟨_, cs, _, h2, _⟩ := hr; exact h2.one
  case xp => obtain ⟨_, _, _, _, _, _, _, rfl, _⟩ := hr; rfl
  case cst => subst hr; exact h
  all_goals (subst hr; rfl)
theorem ChsRel.ones {A : Ad} {w : World} : ∀ {cs : List Ch} {l : List Value}, ChsRel A w cs l → ∀ v ∈ l, one1 v = true
  | [], _, h => by simp only [ChsRel] at h; subst h; intro v hv; cases hv
  | .one s :: cs, _, h => by
    obtain ⟨v, r, rfl, h2, h3, h4⟩ := h
    intro u hu
    rcases List.mem_cons.1 hu with rfl | hu
    · exact h3
    · exact h4.ones u hu
  | .vec n x :: cs, _, h => by
    obtain ⟨a, r, rfl, h2, h3, h4⟩ := h
    intro u hu
    rcases List.mem_append.1 hu with hu | hu
    · obtain ⟨i, hi, rfl⟩ := List.mem_iff_getElem.1 hu
      obtain ⟨y, h5, _, h7⟩ := Vec.get_ok h3 hi
      rw [List.getElem?_eq_getElem hi] at h5; cases h5; exact h7
    · exact h4.ones u hu
theorem one_rel {A : Ad} {w : World} {s : S} {l : List Value} (h : ChsRel A w [.one s] l) : ∃ v, l = [v] ∧ s.rel A w v ∧ one1 v = true := by
  obtain ⟨v, r, rfl, h2, h3, h4⟩ := h
  simp only [ChsRel] at h4
  subst h4
  exact ⟨v, rfl, h2, h3⟩
theorem vec_rel {A : Ad} {w : World} {n : I} {x : Vec} {l : List Value} (h : ChsRel A w [.vec n x] l) : l.length = n.val ∧ x.rel A w l := by
  obtain ⟨a, r, rfl, h2, h3, h4⟩ := h
  simp only [ChsRel] at h4
  subst h4
  simpa using ⟨h2, h3⟩
theorem vec_mk {A : Ad} {w : World} {n : I} {x : Vec} {l : List Value} (h1 : l.length = n.val) (h2 : x.rel A w l) : ChsRel A w [.vec n x] l := ⟨l, [], by simp, h1, h2, rfl⟩
theorem one_mk {A : Ad} {w : World} {s : S} {v : Value} (h1 : s.rel A w v) (h2 : one1 v = true) : ChsRel A w [.one s] [v] := ⟨v, [], rfl, h1, h2, rfl⟩

theorem get_mid {α : Type} {l1 l2 l3 : List α} {i o : Nat} (h : l1.length + i = o) (hi : i < l2.length) : (l1 ++ (l2 ++ l3))[o]? = l2[i]? := by
  rw [List.getElem?_append_right (by omega), show o - l1.length = i by omega, List.getElem?_append_left hi]
theorem set_mid {α : Type} {l1 l2 l3 : List α} {i o : Nat} (h : l1.length + i = o) (hi : i < l2.length) (x : α) : (l1 ++ (l2 ++ l3)).set o x = l1 ++ (l2.set i x ++ l3) := by
  subst h
  rw [List.set_append_right _ _ (by omega), show l1.length + i - l1.length = i by omega, List.set_append_left _ _ hi]
theorem rdS_ok {A : Ad} {w : World} {cs : List Ch} {o : Nat} {p : List Prop} {s : S} {l : List Value} (h : rdS cs o = some (p, s)) (hp : all p) (hr : ChsRel A w cs l) :
    ∃ v, l[o]? = some v ∧ s.rel A w v ∧ one1 v = true := by
  unfold rdS at h
  split at h
  · rename_i b s' a hf
    cases h
    obtain ⟨rfl, l1, l2, l3, rfl, e, k1, k2, k3, k4, k5⟩ := findC_ok hf hr
    obtain ⟨v, rfl, h2, h3⟩ := one_rel k2
    exact ⟨v, by rw [get_mid e (by simp)]; rfl, opn_rel h2, h3⟩
  · rename_i b m v i a hf
    cases h
    obtain ⟨rfl, l1, l2, l3, rfl, e, k1, k2, k3, k4, k5⟩ := findC_ok hf hr
    obtain ⟨g1, g2⟩ := vec_rel k2
    have hi : i < l2.length := by have := k5 m rfl; simp only [I.val] at g1; omega
    obtain ⟨x, h1, h2, h3⟩ := Vec.get_ok g2 hi
    exact ⟨x, by rw [get_mid e hi]; exact h1, h2, h3⟩
  · rename_i b m v i a hf
    cases h
    obtain ⟨rfl, l1, l2, l3, rfl, e, k1, k2, k3, k4, k5⟩ := findC_ok hf hr
    obtain ⟨g1, g2⟩ := vec_rel k2
    have hi : i < l2.length := by have := (all_cons.1 hp).1; simp only [I.val] at g1; omega
    obtain ⟨x, h1, h2, h3⟩ := Vec.get_ok g2 hi
    exact ⟨x, by rw [get_mid e hi]; exact h1, h2, h3⟩
  · cases h
theorem rdI_ok {A : Ad} {w : World} {cs : List Ch} {o j : Nat} {p : List Prop} {s : S} {l : List Value} (h : rdI cs o j = some (p, s)) (hp : all p) (hr : ChsRel A w cs l) :
    ∃ v, l[o + j]? = some v ∧ s.rel A w v ∧ one1 v = true := by
  unfold rdI at h
  split at h
  · rename_i b m v a hf
    cases h
    obtain ⟨rfl, l1, l2, l3, rfl, e, k1, k2, k3, k4, k5⟩ := findC_ok hf hr
    obtain ⟨g1, g2⟩ := vec_rel k2
    have hi : j < l2.length := by have := (all_cons.1 hp).1; omega
    obtain ⟨x, h1, h2, h3⟩ := Vec.get_ok g2 hi
    exact ⟨x, by rw [get_mid (i := j) (by omega) hi]; exact h1, h2, h3⟩
  · rename_i b m v i a hf
    cases h
    obtain ⟨rfl, l1, l2, l3, rfl, e, k1, k2, k3, k4, k5⟩ := findC_ok hf hr
    obtain ⟨g1, g2⟩ := vec_rel k2
    have hi : i + 1 + j < l2.length := by have := (all_cons.1 hp).1; omega
    obtain ⟨x, h1, h2, h3⟩ := Vec.get_ok g2 hi
    exact ⟨x, by rw [get_mid (i := i + 1 + j) (by omega) hi]; exact h1, h2, h3⟩
  · cases h
theorem sub_mid {α : Type} {l1 l2 l3 : List α} {i o n : Nat} (h : l1.length + i = o) (hi : i + n ≤ l2.length) : ((l1 ++ (l2 ++ l3)).drop o).take n = (l2.drop i).take n := by
  subst h
  rw [← List.drop_drop, List.drop_left, List.drop_append_of_le_length (by omega), List.take_append_of_le_length (by simp; omega)]
theorem over_mid {α : Type} {l1 l2 l3 s : List α} {i o : Nat} (h : l1.length + i = o) (hi : i + s.length ≤ l2.length) :
    over (l1 ++ (l2 ++ l3)) o s = l1 ++ (over l2 i s ++ l3) := by
  subst h
  unfold over
  rw [List.take_append, List.take_of_length_le (by omega), show l1.length + i - l1.length = i by omega, List.take_append_of_le_length (by omega),
    show l1.length + i + s.length = l1.length + (i + s.length) by omega, ← List.drop_drop, List.drop_left, List.drop_append_of_le_length (by omega)]
  simp
theorem over_all {α : Type} {l1 l2 l3 s : List α} (h : s.length = l2.length) : over (l1 ++ (l2 ++ l3)) l1.length s = l1 ++ (s ++ l3) := by
  unfold over
  rw [List.take_left, h, ← List.drop_drop, List.drop_left, List.drop_left]
  simp
theorem rdA_ok {A : Ad} {w : World} {cs : List Ch} {o n : Nat} {p : List Prop} {t : List Ch} {l : List Value} (h : rdA cs o n = some (p, t)) (hp : all p) (hr : ChsRel A w cs l) :
    o + n ≤ l.length ∧ ChsRel A w t ((l.drop o).take n) := by
  unfold rdA at h
  split at h
  · rename_i b c a hf
    obtain ⟨rfl, l1, l2, l3, rfl, e, k1, k2, k3, k4, k5⟩ := findC_ok hf hr
    split at h
    · rename_i t' r' ht
      cases h
      obtain ⟨e2, m1, m2, e3, e4, g1, g2⟩ := takeN_ok (l := l2 ++ l3) ht (ChsRel.append (b := [c]) k2 k4)
      rw [e3]
      have ho : o = l1.length := by omega
      subst ho
      refine ⟨by simp; omega, ?_⟩
      rw [List.drop_left, ← e4, List.take_left]
      exact g1
    · split at h
      · rename_i m v _
        cases h
        obtain ⟨g1, g2⟩ := vec_rel k2
        have hn : 0 + n ≤ l2.length := by have := (all_cons.1 hp).1; omega
        refine ⟨by simp; omega, ?_⟩
        rw [sub_mid e hn]
        exact vec_mk (by simp [I.val]; omega) (by simpa using Vec.take_ok g2)
      · cases h
  · rename_i b m v i a hf
    cases h
    obtain ⟨rfl, l1, l2, l3, rfl, e, k1, k2, k3, k4, k5⟩ := findC_ok hf hr
    obtain ⟨g1, g2⟩ := vec_rel k2
    have hn : i + 1 + n ≤ l2.length := by have := (all_cons.1 hp).1; omega
    refine ⟨by simp; omega, ?_⟩
    rw [sub_mid e hn]
    exact vec_mk (by simp [I.val]; omega) (Vec.take_ok (Vec.drop_ok g2))
  · cases h
theorem rdAI_ok {A : Ad} {w : World} {cs : List Ch} {o j n : Nat} {p : List Prop} {t : List Ch} {l : List Value} (h : rdAI cs o j n = some (p, t)) (hp : all p) (hr : ChsRel A w cs l) :
    o + j + n ≤ l.length ∧ ChsRel A w t ((l.drop (o + j)).take n) := by
  unfold rdAI at h
  split at h
  · rename_i b m v a hf
    cases h
    obtain ⟨rfl, l1, l2, l3, rfl, e, k1, k2, k3, k4, k5⟩ := findC_ok hf hr
    obtain ⟨g1, g2⟩ := vec_rel k2
    have hn : j + n ≤ l2.length := by have := (all_cons.1 hp).1; omega
    refine ⟨by simp; omega, ?_⟩
    rw [sub_mid (i := j) (by omega) hn]
    exact vec_mk (by simp [I.val]; omega) (Vec.take_ok (Vec.dropS_ok g2))
  · rename_i b m v i a hf
    cases h
    obtain ⟨rfl, l1, l2, l3, rfl, e, k1, k2, k3, k4, k5⟩ := findC_ok hf hr
    obtain ⟨g1, g2⟩ := vec_rel k2
    have hn : i + 1 + j + n ≤ l2.length := by have := (all_cons.1 hp).1; omega
    refine ⟨by simp; omega, ?_⟩
    rw [sub_mid (i := i + 1 + j) (by omega) hn]
    exact vec_mk (by simp [I.val]; omega) (Vec.take_ok (Vec.dropS_ok g2))
  · cases h
theorem set_over {α : Type} (l : List α) (o : Nat) (x : α) (h : o < l.length) : over l o [x] = l.set o x := by
  unfold over
  rw [List.set_eq_take_append_cons_drop, if_pos h]
  simp
theorem wrS_ok {A : Ad} {w : World} {cs cs' : List Ch} {o : Nat} {s : S} {p : List Prop} {l : List Value} {x : Value} (h : wrS cs o s = some (p, cs')) (hp : all p) (hr : ChsRel A w cs l) (hs : s.rel A w x) :
    o < l.length ∧ one1 x = true ∧ ChsRel A w cs' (over l o [x]) := by
  unfold wrS at h
  split at h
  · rename_i b s' a hf
    split at h
    · rename_i h1
      cases h
      obtain ⟨rfl, l1, l2, l3, rfl, e, k1, k2, k3, k4, k5⟩ := findC_ok hf hr
      obtain ⟨v, rfl, h2, h3⟩ := one_rel k2
      have h4 := S.oneC_ok h1 hs
      have ho : o < (l1 ++ ([v] ++ l3)).length := by simp; omega
      refine ⟨ho, h4, ?_⟩
      rw [set_over _ _ _ ho, set_mid e (by simp)]
      exact k1.append (ChsRel.append (b := [.one s]) (one_mk hs h4) k4)
    · cases h
  · rename_i b m v i a hf
    split at h
    · rename_i v' hv
      cases h
      obtain ⟨rfl, l1, l2, l3, rfl, e, k1, k2, k3, k4, k5⟩ := findC_ok hf hr
      obtain ⟨g1, g2⟩ := vec_rel k2
      have hi : i < l2.length := by have := k5 m rfl; simp only [I.val] at g1; omega
      obtain ⟨q1, q2⟩ := Vec.put_ok g2 hv hs
      have ho : o < (l1 ++ (l2 ++ l3)).length := by simp; omega
      refine ⟨ho, q2, ?_⟩
      rw [set_over _ _ _ ho, set_mid e hi]
      exact k1.append (ChsRel.append (b := [.vec (.n m) v']) (vec_mk (by simpa using g1) q1) k4)
    · cases h
  · rename_i b m v i a hf
    split at h
    · rename_i v' hv
      cases h
      obtain ⟨rfl, l1, l2, l3, rfl, e, k1, k2, k3, k4, k5⟩ := findC_ok hf hr
      obtain ⟨g1, g2⟩ := vec_rel k2
      have hi : i < l2.length := by have := (all_cons.1 hp).1; simp only [I.val] at g1; omega
      obtain ⟨q1, q2⟩ := Vec.put_ok g2 hv hs
      have ho : o < (l1 ++ (l2 ++ l3)).length := by simp; omega
      refine ⟨ho, q2, ?_⟩
      rw [set_over _ _ _ ho, set_mid e hi]
      exact k1.append (ChsRel.append (b := [.vec (.s m) v']) (vec_mk (by simpa using g1) q1) k4)
    · cases h
  · cases h
theorem wrI_ok {A : Ad} {w : World} {cs cs' : List Ch} {o j : Nat} {s : S} {p : List Prop} {l : List Value} {x : Value} (h : wrI cs o j s = some (p, cs')) (hp : all p) (hr : ChsRel A w cs l) (hs : s.rel A w x) :
    o + j < l.length ∧ one1 x = true ∧ ChsRel A w cs' (over l (o + j) [x]) := by
  unfold wrI at h
  split at h
  · rename_i b m v a hf
    split at h
    · rename_i v' hv
      cases h
      obtain ⟨rfl, l1, l2, l3, rfl, e, k1, k2, k3, k4, k5⟩ := findC_ok hf hr
      obtain ⟨g1, g2⟩ := vec_rel k2
      have hi : j < l2.length := by have := (all_cons.1 hp).1; omega
      obtain ⟨q1, q2⟩ := Vec.put_ok g2 hv hs
      have ho : o + j < (l1 ++ (l2 ++ l3)).length := by simp; omega
      refine ⟨ho, q2, ?_⟩
      rw [set_over _ _ _ ho, set_mid (i := j) (by omega) hi]
      exact k1.append (ChsRel.append (b := [.vec m v']) (vec_mk (by simpa using g1) q1) k4)
    · cases h
  · rename_i b m v i a hf
    split at h
    · rename_i v' hv
      cases h
      obtain ⟨rfl, l1, l2, l3, rfl, e, k1, k2, k3, k4, k5⟩ := findC_ok hf hr
      obtain ⟨g1, g2⟩ := vec_rel k2
      have hi : i + 1 + j < l2.length := by have := (all_cons.1 hp).1; omega
      obtain ⟨q1, q2⟩ := Vec.put_ok g2 hv hs
      have ho : o + j < (l1 ++ (l2 ++ l3)).length := by simp; omega
      refine ⟨ho, q2, ?_⟩
      rw [set_over _ _ _ ho, set_mid (i := i + 1 + j) (by omega) hi]
      exact k1.append (ChsRel.append (b := [.vec m v']) (vec_mk (by simpa using g1) q1) k4)
    · cases h
  · cases h
theorem over_len {α : Type} {l s : List α} {i : Nat} (h : i + s.length ≤ l.length) : (over l i s).length = l.length := by
  unfold over; simp; omega
theorem new_vec {A : Ad} {w : World} {n : I} {u : Vec} {l : List Value} (h : ChsRel A w [.vec n u] l) : u.rel A w l := (vec_rel h).2
theorem wrA_ok {A : Ad} {w : World} {cs cs' new : List Ch} {o n : Nat} {p : List Prop} {l xs : List Value} (h : wrA cs o n new = some (p, cs')) (hp : all p) (hr : ChsRel A w cs l) (hx : ChsRel A w new xs) (hn : xs.length = n) :
    o + n ≤ l.length ∧ ChsRel A w cs' (over l o xs) := by
  unfold wrA at h
  split at h
  · rename_i b c a hf
    obtain ⟨rfl, l1, l2, l3, rfl, e, k1, k2, k3, k4, k5⟩ := findC_ok hf hr
    split at h
    · rename_i t' r' ht
      cases h
      obtain ⟨e2, m1, m2, e3, e4, g1, g2⟩ := takeN_ok (l := l2 ++ l3) ht (ChsRel.append (b := [c]) k2 k4)
      rw [e3]
      have ho : o = l1.length := by omega
      subst ho
      refine ⟨by simp; omega, ?_⟩
      rw [over_all (by omega), List.append_assoc]
      exact k1.append (hx.append g2)
    · split at h
      · rename_i m v _ u _
        split at h
        · rename_i v' hv
          cases h
          obtain ⟨g1, g2⟩ := vec_rel k2
          have hn' : 0 + n ≤ l2.length := by have := (all_cons.1 hp).1; omega
          refine ⟨by simp; omega, ?_⟩
          rw [over_mid e (by omega)]
          exact k1.append (ChsRel.append (b := [.vec m v']) (vec_mk (by rw [over_len (by omega)]; exact g1) (Vec.over_ok g2 (new_vec hx) hv)) k4)
        · cases h
      · cases h
  · rename_i b m v i a hf
    split at h
    · rename_i _ u
      split at h
      · rename_i v' hv
        cases h
        obtain ⟨rfl, l1, l2, l3, rfl, e, k1, k2, k3, k4, k5⟩ := findC_ok hf hr
        obtain ⟨g1, g2⟩ := vec_rel k2
        have hn' : i + 1 + n ≤ l2.length := by have := (all_cons.1 hp).1; omega
        refine ⟨by simp; omega, ?_⟩
        rw [over_mid e (by omega)]
        exact k1.append (ChsRel.append (b := [.vec m v']) (vec_mk (by rw [over_len (by omega)]; exact g1) (Vec.over_ok g2 (new_vec hx) hv)) k4)
      · cases h
    · cases h
  · cases h
theorem wrAI_ok {A : Ad} {w : World} {cs cs' new : List Ch} {o j n : Nat} {p : List Prop} {l xs : List Value} (h : wrAI cs o j n new = some (p, cs')) (hp : all p) (hr : ChsRel A w cs l) (hx : ChsRel A w new xs) (hn : xs.length = n) :
    o + j + n ≤ l.length ∧ ChsRel A w cs' (over l (o + j) xs) := by
  unfold wrAI at h
  split at h
  · rename_i b m v a hf
    split at h
    · rename_i _ u
      split at h
      · rename_i v' hv
        cases h
        obtain ⟨rfl, l1, l2, l3, rfl, e, k1, k2, k3, k4, k5⟩ := findC_ok hf hr
        obtain ⟨g1, g2⟩ := vec_rel k2
        have hn' : j + n ≤ l2.length := by have := (all_cons.1 hp).1; omega
        refine ⟨by simp; omega, ?_⟩
        rw [over_mid (i := j) (by omega) (by omega)]
        exact k1.append (ChsRel.append (b := [.vec m v']) (vec_mk (by rw [over_len (by omega)]; exact g1) (Vec.over_ok g2 (new_vec hx) hv)) k4)
      · cases h
    · cases h
  · rename_i b m v i a hf
    split at h
    · rename_i _ u
      split at h
      · rename_i v' hv
        cases h
        obtain ⟨rfl, l1, l2, l3, rfl, e, k1, k2, k3, k4, k5⟩ := findC_ok hf hr
        obtain ⟨g1, g2⟩ := vec_rel k2
        have hn' : i + 1 + j + n ≤ l2.length := by have := (all_cons.1 hp).1; omega
        refine ⟨by simp; omega, ?_⟩
        rw [over_mid (i := i + 1 + j) (by omega) (by omega)]
        exact k1.append (ChsRel.append (b := [.vec m v']) (vec_mk (by rw [over_len (by omega)]; exact g1) (Vec.over_ok g2 (new_vec hx) hv)) k4)
      · cases h
    · cases h
  · cases h

theorem cell_at {w : World} {a : Nat} {arr : Array Value} {T : TypeId} {fz : Nat × Nat} (h : w.heap[a]? = some (.cells arr T fz)) (o : Nat) : w.cell? ⟨a, o, none⟩ = arr.toList[o]? := by
  simp [World.cell?, h]
theorem add_none (a o n : Nat) : Addr.add ⟨a, o, none⟩ n = ⟨a, o + n, none⟩ := by
  unfold Addr.add
  split
  · rename_i h; subst h; rfl
  · rfl
theorem run_load {P : Program} {w : World} {a o : Nat} {arr : Array Value} {T : TypeId} {fz : Nat × Nat} {v : Value} (h : w.heap[a]? = some (.cells arr T fz)) (hv : arr.toList[o]? = some v) :
    (load ⟨a, o, none⟩).run P w = .ok v w := by
  simp only [load, Sem.run, cell_at h, hv]
theorem run_loadCellsFrom {P : Program} {w : World} {a o : Nat} {arr : Array Value} {T : TypeId} {fz : Nat × Nat} (h : w.heap[a]? = some (.cells arr T fz)) :
    ∀ (n i : Nat) (acc : Array Value), o + i + n ≤ arr.size → (loadCellsFrom ⟨a, o, none⟩ i n acc).run P w = .ok (acc ++ ((arr.toList.drop (o + i)).take n).toArray) w
  | 0, i, acc, _ => by simp [loadCellsFrom, run_pure]
  | n + 1, i, acc, hn => by
    have hlt : o + i < arr.toList.length := by simp; omega
    have hv : arr.toList[o + i]? = some arr.toList[o + i] := List.getElem?_eq_getElem hlt
    unfold loadCellsFrom
    rw [Sem.run_bind, add_none, run_load h hv]
    simp only []
    rw [run_loadCellsFrom h n (i + 1) _ (by omega)]
    rw [List.drop_eq_getElem_cons hlt, List.take_succ_cons]
    congr 1
    apply Array.ext'
    simp [Nat.add_assoc]
theorem run_loadCells {P : Program} {w : World} {a o n : Nat} {arr : Array Value} {T : TypeId} {fz : Nat × Nat} (h : w.heap[a]? = some (.cells arr T fz)) (hn : o + n ≤ arr.size) :
    (loadCells ⟨a, o, none⟩ n).run P w = .ok ((arr.toList.drop o).take n).toArray w := by
  unfold loadCells
  rw [run_loadCellsFrom h n 0 _ (by omega)]
  simp
theorem setArr_same {w : World} {a : Nat} {arr : Array Value} {T : TypeId} {fz : Nat × Nat} (h : w.heap[a]? = some (.cells arr T fz)) : setArr w a arr T fz = w := by
  unfold setArr
  have : w.heap.setIfInBounds a (.cells arr T fz) = w.heap := by
    apply Array.ext_getElem?
    intro i
    rw [Array.getElem?_setIfInBounds]
    split
    · rename_i e; subst e; rw [h]; simp [heap_lt h]
    · rfl
  rw [this]
theorem setArr_setArr {w : World} {a : Nat} {arr arr' : Array Value} {T T' : TypeId} {fz fz' : Nat × Nat} : setArr (setArr w a arr T fz) a arr' T' fz' = setArr w a arr' T' fz' := by
  unfold setArr
  congr 1
  apply Array.ext_getElem?
  intro i
  simp only [Array.getElem?_setIfInBounds, Array.size_setIfInBounds]
  split <;> rfl
theorem setCell_eq {w : World} {a o : Nat} {arr : Array Value} {T : TypeId} {fz : Nat × Nat} (h : w.heap[a]? = some (.cells arr T fz)) (v : Value) :
    w.setCell ⟨a, o, none⟩ v = setArr w a (arr.setIfInBounds o v) T fz := by
  unfold World.setCell setArr
  congr 1
  apply Array.ext_getElem?
  intro i
  rw [Array.getElem?_modify, Array.getElem?_setIfInBounds]
  by_cases e : a = i
  · subst e
    have hlt := heap_lt h
    rw [Array.getElem?_eq_getElem hlt, Option.some.injEq] at h
    simp [hlt, h]
  · simp [e]
theorem run_storeCells {P : Program} {a : Nat} {T : TypeId} {fz : Nat × Nat} : ∀ (vs : List Value) (w : World) (o i : Nat) (arr : Array Value), w.heap[a]? = some (.cells arr T fz) →
    (fz.2 = fz.1 ∨ arr.size ≤ fz.1) → o + i + vs.length ≤ arr.size → (∀ v ∈ vs, one1 v = true) →
    (storeCells ⟨a, o, none⟩ vs i).run P w = .ok () (setArr w a (over arr.toList (o + i) vs).toArray T fz)
  | [], w, o, i, arr, h, hf, hn, h1 => by
    have : over arr.toList (o + i) ([] : List Value) = arr.toList := by simp [over]
    rw [this]
    simp only [Array.toArray_toList]
    rw [setArr_same h]
    rfl
  | v :: vs, w, o, i, arr, h, hf, hn, h1 => by
    simp only [List.length_cons] at hn
    have hlt : o + i < arr.toList.length := by simp; omega
    have hv : arr.toList[o + i]? = some arr.toList[o + i] := List.getElem?_eq_getElem hlt
    unfold storeCells
    rw [Sem.run_bind, add_none]
    have hs : (store ⟨a, o + i, none⟩ v).run P w = .ok () (setArr w a (arr.setIfInBounds (o + i) v) T fz) := by
      have hc : w.cell? ⟨a, o + i, none⟩ = some arr.toList[o + i] := by rw [cell_at h]; exact hv
      have hfz : w.frozen? ⟨a, o + i, none⟩ = false := by
        simp only [World.frozen?, h]
        simp only [Bool.and_eq_false_iff, decide_eq_false_iff_not]
        simp at hlt
        rcases hf with hf | hf
        · by_cases hh : fz.1 ≤ o + i
          · exact .inr (by omega)
          · exact .inl hh
        · exact .inl (by omega)
      have hv1 := h1 v (by simp)
      rw [← setCell_eq h]
      unfold store
      cases v <;> first | (simp [one1] at hv1; done) | simp only [Sem.run, hc, hfz, if_false, Bool.false_eq_true]
    rw [hs]
    simp only []
    have := run_storeCells (P := P) (T := T) (fz := fz) vs (setArr w a (arr.setIfInBounds (o + i) v) T fz) o (i + 1) (arr.setIfInBounds (o + i) v) (setArr_self (heap_lt h))
      (by simpa using hf) (by simp; omega) (fun u hu => h1 u (by simp [hu]))
    rw [this, setArr_setArr]
    congr 2
    unfold over
    apply Array.ext'
    simp only [List.length_cons, Array.toList_setIfInBounds]
    rw [List.take_set, List.drop_set_of_lt (by omega)]
    rw [show o + (i + 1) = o + i + 1 by omega, List.take_succ_eq_append_getElem hlt]
    rw [List.set_append_right _ _ (by simp only [List.length_take]; omega)]
    simp [Nat.min_eq_left (show o + i ≤ arr.size by simp at hlt; omega), Nat.add_assoc, Nat.add_comm, Nat.add_left_comm]
end Go.Eng
/- The operations on abstract values. -/
namespace Go.Eng
open Go Go.RowKit

def ofConst : Value → S
  | .bool true => .lb true
  | .bool false => .lb false
  | .int .i64 n => frc n fun n => .n n
  | .int .u8 (.ofNat m) => match Nat.blt m 256 with | true => .u8 (UInt8.ofNat m) | false => .any
  | .int .u16 (.ofNat m) => match Nat.blt m 65536 with | true => .u16 (UInt16.ofNat m) | false => .any
  | .int .u32 (.ofNat m) => match Nat.blt m 4294967296 with | true => .u32 (UInt32.ofNat m) | false => .any
  | .int .u64 (.ofNat m) => match Nat.blt m 18446744073709551616 with | true => .u64 (UInt64.ofNat m) | false => .any
  | .string s => .str s.data.toList
  | .slice none 0 0 => .nil
  | v => .cst v

def chkS : S → Value → Bool
  | .u8 x, .int .u8 n => n == x.toNat
  | .u16 x, .int .u16 n => n == x.toNat
  | .u32 x, .int .u32 n => n == x.toNat
  | .u64 x, .int .u64 n => n == x.toNat
  | .n x, .int .i64 n => n == x
  | .lb x, .bool y => x == y
  | .str [], .string s => s.data.toList.isEmpty
  | .nil, .slice none 0 0 => true
  | .cst (.pointer none), .pointer none => true
  | .cst .nilFunc, .nilFunc => true
  | .cst .nilIface, .nilIface => true
  | .cst (.map none), .map none => true
  | _, _ => false
def chkL {α : Type} (f : α → Value → Bool) : List α → List Value → Option (List Value)
  | [], l => some l
  | x :: xs, v :: l => match f x v with
    | true => chkL f xs l
    | false => none
  | _ :: _, [] => none
def chkVec : Vec → List Value → Option (List Value)
  | .u8 l, vs => chkL (fun x v => chkS (.u8 x) v) l vs
  | .u16 l, vs => chkL (fun x v => chkS (.u16 x) v) l vs
  | .u32 l, vs => chkL (fun x v => chkS (.u32 x) v) l vs
  | .u64 l, vs => chkL (fun x v => chkS (.u64 x) v) l vs
  | .i64 l, vs => chkL (fun x v => chkS (.n x) v) l vs
  | .bo l, vs => chkL (fun x v => chkS (.lb x) v) l vs
  | .sl _, _ => none
  | .va _, _ => none
def chkC : List Ch → List Value → Bool
  | [], [] => true
  | [], _ :: _ => false
  | .one _ :: _, [] => false
  | .one s :: cs, v :: l => match chkS s v with | true => chkC cs l | false => false
  | .vec n x :: cs, l => match Nat.beq n.val x.len with
    | true => match chkVec x l with
      | some r => chkC cs r
      | none => false
    | false => false

def kindVec (k : IntKind) (n : Nat) : Option Vec :=
  match k with
  | .u8 => some (.u8 (List.replicate n 0))
  | .u16 => some (.u16 (List.replicate n 0))
  | .u32 => some (.u32 (List.replicate n 0))
  | .u64 => some (.u64 (List.replicate n 0))
  | .i64 => some (.i64 (List.replicate n 0))
  | _ => none
def kindZero (k : IntKind) : Option S :=
  match k with
  | .u8 => some (.u8 0)
  | .u16 => some (.u16 0)
  | .u32 => some (.u32 0)
  | .u64 => some (.u64 0)
  | .i64 => some (.n 0)
  | _ => none
def zvec (d : Option TypeDesc) (n : Nat) : Option Vec :=
  match d with
  | some (.int k) => kindVec k n
  | some .bool => some (.bo (List.replicate n false))
  | _ => none
def times {α : Type} : Nat → List α → List α → List α
  | 0, _, acc => acc
  | n + 1, l, acc => times n l (l ++ acc)
def catM {α β : Type} (f : α → Option (List β)) : List α → Option (List β)
  | [] => some []
  | x :: xs => match f x with
    | none => none
    | some l => match catM f xs with
      | none => none
      | some r => some (l ++ r)
def merge (n : Nat) (cs : List Ch) : List Ch :=
  match Nat.blt 4 n, cs with
  | true, [.vec (.n m) (.u8 _)] => [.vec (.n (n * m)) (.u8 (List.replicate (n * m) 0))]
  | true, [.vec (.n m) (.u32 _)] => [.vec (.n (n * m)) (.u32 (List.replicate (n * m) 0))]
  | true, [.vec (.n m) (.u64 _)] => [.vec (.n (n * m)) (.u64 (List.replicate (n * m) 0))]
  | true, [.vec (.n m) (.i64 _)] => [.vec (.n (n * m)) (.i64 (List.replicate (n * m) 0))]
  | _, _ => times n cs []
def zch (P : Program) : Nat → TypeId → Option (List Ch)
  | 0, _ => none
  | d + 1, T => match P.underlying T with
    | some .bool => some [.one (.lb false)]
    | some (.int k) => match kindZero k with
      | some s => some [.one s]
      | none => none
    | some .string => some [.one (.str [])]
    | some (.pointer _) => some [.one (.cst (.pointer none))]
    | some (.slice _) => some [.one .nil]
    | some (.func ..) => some [.one (.cst .nilFunc)]
    | some (.interface _) => some [.one (.cst .nilIface)]
    | some (.map ..) => some [.one (.cst (.map none))]
    | some (.array n e) => match zvec (P.underlying e) n with
      | some v => some [.vec (.n n) v]
      | none => match zch P d e with
        | some cs => some (merge n cs)
        | none => none
    | some (.struct fs) => catM (fun f => zch P d f.type) fs.toList
    | _ => none
def zeroC (P : Program) (T : TypeId) : Option (List Ch) :=
  match P.info? T with
  | some i => match i.zero with
    | some z => match zch P 8 T with
      | some cs => match chkC cs z.cells.toList with
        | true => some cs
        | false => none
      | none => none
    | none => none
  | none => none

def isAggB (P : Program) (T : TypeId) : Option Bool :=
  match P.underlying T with
  | some (.struct _) => some true
  | some (.array ..) => some true
  | some _ => some false
  | none => none
def V.chs : V → Option (List Ch)
  | .w (.s s) => match s.oneC with | true => some [.one s] | false => none
  | .w (.agg cs) => some cs
  | .tup _ => none
def szL : List Ch → Option Nat
  | [] => some 0
  | c :: r => match isM (c :: r) with
   | true => none
   | false => match c.size with
    | .n m => match szL r with
      | some k => some (m + k)
      | none => none
    | .s _ => none

def isSz (cs : List Ch) (n : Nat) : Bool :=
  match szL cs with
  | some k => Nat.beq k n
  | none => false

abbrev U := List (Nat × Blk)
abbrev RU := R (V × U)
def okV (v : V) : RU := some ([], v, [])
def okS (s : S) : RU := some ([], .s s, [])
def retS (r : R S) : RU :=
  match r with
  | some (p, s) => some (p, .s s, [])
  | none => none
def oS (v : V) : S :=
  match v with
  | .w (.s s) => s
  | _ => .any

def aAlloc (P : Program) (T : TypeId) (f : Nat) : RU :=
  match zeroC P T with
  | some cs => some ([], .s (.ptr f 0), [(f, some cs)])
  | none => none
def aBox (P : Program) (x : V) (f : Nat) : RU :=
  match x.chs with
  | some cs => some ([], .s (.ptr f 0), [(f, some cs)])
  | none => none
def retC (r : R (List Ch)) : RU :=
  match r with
  | some (p, cs) => some (p, .agg cs, [])
  | none => none
inductive Kd
  | u8 | u16 | u32 | u64 | i64 | b | nil
inductive TK
  | one (k : Kd)
  | vec (n : Nat) (k : Kd)
def dI (v : Value) : Int := match v with | .int _ n => n | _ => 0
def dB (v : Value) : Bool := match v with | .bool b => b | _ => false
def d8 (v : Value) : UInt8 := UInt8.ofNat (dI v).toNat
def d16 (v : Value) : UInt16 := UInt16.ofNat (dI v).toNat
def d32 (v : Value) : UInt32 := UInt32.ofNat (dI v).toNat
def d64 (v : Value) : UInt64 := UInt64.ofNat (dI v).toNat
def Kd.is : Kd → Value → Prop
  | .u8, v => v = eu8 (d8 v) | .u16, v => v = eu16 (d16 v) | .u32, v => v = eu32 (d32 v) | .u64, v => v = eu64 (d64 v)
  | .i64, v => v = ei64 (dI v) | .b, v => v = .bool (dB v) | .nil, v => v = .slice none 0 0
def Kd.dec : Kd → Value → S
  | .u8, v => .u8 (d8 v) | .u16, v => .u16 (d16 v) | .u32, v => .u32 (d32 v) | .u64, v => .u64 (d64 v) | .i64, v => .i64 (dI v) | .b, v => .b (dB v) | .nil, _ => .nil
def Kd.decV : Kd → List Value → Vec
  | .u8, l => .u8 (l.map d8) | .u16, l => .u16 (l.map d16) | .u32, l => .u32 (l.map d32) | .u64, l => .u64 (l.map d64) | .i64, l => .i64 (l.map dI) | .b, l => .bo (l.map dB) | .nil, l => .va l
def WTo : List TK → List Value → Nat → Prop
  | [], l, o => l.length = o
  | .one k :: r, l, o => o < l.length ∧ k.is (l.getD o (.bool false)) ∧ WTo r l (o + 1)
  | .vec n k :: r, l, o => o + n ≤ l.length ∧ (∀ v ∈ (l.drop o).take n, k.is v) ∧ WTo r l (o + n)
def WT (ks : List TK) (l : List Value) : Prop := WTo ks l 0
def decCs : List TK → List Value → Nat → List Ch
  | [], _, _ => []
  | .one k :: r, l, o => .one (k.dec (l.getD o (.bool false))) :: frcN (o + 1) fun o => decCs r l o
  | .vec n k :: r, l, o => .vec (.n n) (k.decV ((l.drop o).take n)) :: frcN (o + n) fun o => decCs r l o
def sK : S → Option Kd
  | .u8 _ => some .u8 | .u16 _ => some .u16 | .u32 _ => some .u32 | .u64 _ => some .u64 | .i64 _ => some .i64 | .n _ => some .i64 | .b _ => some .b | .lb _ => some .b | .nil => some .nil | _ => none
def vK : Vec → Option Kd
  | .u8 _ => some .u8 | .u16 _ => some .u16 | .u32 _ => some .u32 | .u64 _ => some .u64 | .i64 _ => some .i64 | .bo _ => some .b | _ => none
def ksC : List Ch → Option (List TK)
  | [] => some []
  | .one s :: r => match sK s, ksC r with
    | some k, some t => some (.one k :: t)
    | _, _ => none
  | .vec (.n n) v :: r => match vK v, ksC r with
    | some k, some t => some (.vec n k :: t)
    | _, _ => none
  | _ => none
def ksOf (P : Program) (T : TypeId) : Option (List TK) :=
  match zch P 8 T with
  | some cs => ksC cs
  | none => none
def tyK (P : Program) (T : TypeId) : Option Kd :=
  match P.underlying T with
  | some .bool => some .b
  | some (.int .u8) => some .u8
  | some (.int .u16) => some .u16
  | some (.int .u32) => some .u32
  | some (.int .u64) => some .u64
  | some (.int .i64) => some .i64
  | some (.slice _) => some .nil
  | _ => none
def tyV (P : Program) (T : TypeId) (r : RU) : RU :=
  match r with
  | some (p, .w (.s (.cst v)), u) => match tyK P T with
    | some k => some (p ++ [k.is v], .s (k.dec v), u)
    | none => some (p, .s (.cst v), u)
  | some (p, .w (.agg [.vec n (.va l)]), u) => match Nat.blt 100 n.val with
    | true => some (p, .w (.agg [.vec n (.va l)]), u)
    | false => match ksOf P T with
      | some ks => some (p ++ [WT ks l], .agg (decCs ks l 0), u)
      | none => none
  | r => r
def encV : Vec → Option (List Value)
  | .u8 l => some (l.map eu8) | .u16 l => some (l.map eu16) | .u32 l => some (l.map eu32) | .u64 l => some (l.map eu64) | .i64 l => some (l.map ei64) | .bo l => some (l.map ebo)
  | .va l => some l | .sl _ => none
def encC : List Ch → Option (List Value)
  | [] => some []
  | [.vec _ v] => encV v
  | .one s :: r => match encS s, encC r with
    | some v, some l => some (v :: l)
    | _, _ => none
  | .vec _ v :: r => match encV v, encC r with
    | some a, some l => some (a ++ l)
    | _, _ => none
def aLoad0 (P : Program) (T : TypeId) (x : S) (own : List Blk) : RU :=
  match x with
  | .ptr k o => match getO own k with
    | some cs => match isAggB P T with
      | some true => retC (rdA cs o (P.cellsOf T))
      | some false => retS (rdS cs o)
      | none => none
    | none => none
  | .pti k o j => match getO own k with
    | some cs => match isAggB P T with
      | some true => retC (rdAI cs o j (P.cellsOf T))
      | some false => retS (rdI cs o j)
      | none => none
    | none => none
  | .xp v i => match isAggB P T with
    | some true => match Nat.blt 0 (P.cellsOf T) with
      | true => some ([i + P.cellsOf T ≤ v.len], .agg [.vec (.n (P.cellsOf T)) ((v.drop i).take (P.cellsOf T))], [])
      | false => none
    | some false => some ([i < v.len], .s (v.get i), [])
    | none => none
  | _ => none
def aLoad (P : Program) (T : TypeId) (x : S) (own : List Blk) : RU := tyV P T (aLoad0 P T x own)
def retW (k : Nat) (r : R (List Ch)) : RU :=
  match r with
  | some (p, cs) => some (p, V.any, [(k, some cs)])
  | none => none
def aStore0 (P : Program) (T : TypeId) (x : S) (v : V) (own : List Blk) : RU :=
  match P.info? T with
  | none => none
  | some _ => match x with
  | .ptr k o => match getO own k with
    | some cs => match v with
      | .w (.s s) => match Nat.beq (P.cellsOf T) 1 with
        | true => retW k (wrS cs o s)
        | false => none
      | .w (.agg new) => match isSz new (P.cellsOf T) with
        | true => retW k (wrA cs o (P.cellsOf T) new)
        | false => none
      | _ => none
    | none => none
  | .pti k o j => match getO own k with
    | some cs => match v with
      | .w (.s s) => match Nat.beq (P.cellsOf T) 1 with
        | true => retW k (wrI cs o j s)
        | false => none
      | .w (.agg new) => match isSz new (P.cellsOf T) with
        | true => retW k (wrAI cs o j (P.cellsOf T) new)
        | false => none
      | _ => none
    | none => none
  | _ => none
def aStore (P : Program) (T : TypeId) (x : S) (v : V) (own : List Blk) : RU :=
  match aStore0 P T x v own with
  | some r => some r
  | none => match v with
    | .w (.agg new) => match isSz new (P.cellsOf T), encC new with
      | true, some l => aStore0 P T x (.agg [.vec (.n (P.cellsOf T)) (.va l)]) own
      | _, _ => none
    | _ => none
def aField (P : Program) (T : TypeId) (x : S) (fi : Nat) : RU :=
  match P.underlying T with
  | some (.struct fs) => match fs[fi]? with
    | some f => match Nat.beq (P.cellsOf f.type) 0 with
      | true => none
      | false => match x with
        | .ptr k o => okS (.ptr k (o + f.offset))
        | .pti k o j => match f.offset with
          | 0 => okS (.pti k o j)
          | m + 1 => okS (.pti k o (j + (m + 1)))
        | .xp v j => match f.offset with
          | 0 => okS (.xp v j)
          | m + 1 => okS (.xp v (j + (m + 1)))
        | _ => none
    | none => none
  | _ => none
def idx (len : I) (i : S) : R I :=
  match i with
  | .n x => match x, len with
    | .ofNat m, .n k => match Nat.blt m k with
      | true => some ([], .n m)
      | false => none
    | .ofNat m, .s k => some ([m < k], .n m)
    | _, _ => none
  | .i64 x => some ([0 ≤ x ∧ x < len.val], .s x.toNat)
  | .u8 x => some ([x.toNat < len.val], .s x.toNat)
  | .u16 x => some ([x.toNat < len.val], .s x.toNat)
  | .u32 x => some ([x.toNat < len.val], .s x.toNat)
  | .u64 x => some ([x.toNat < len.val], .s x.toNat)
  | _ => none
def at_ (k o : Nat) (i : I) : S :=
  match i with
  | .n i => .ptr k (o + i)
  | .s i => .pti k o i
def aIndexAddr (P : Program) (T : TypeId) (x i : S) : RU :=
  match P.underlying T with
  | some (.array n e) => match Nat.blt 0 (P.cellsOf e) with
    | false => none
    | true => match x with
      | .ptr k o => match idx (.n n) i with
        | some (p, j) => some (p, .s (at_ k o (j.mul (P.cellsOf e))), [])
        | none => none
      | .pti k o m => match idx (.n n) i with
        | some (p, j) => some (p, .s (.pti k o (m + (j.mul (P.cellsOf e)).val)), [])
        | none => none
      | _ => none
  | some (.slice e) => match Nat.blt 0 (P.cellsOf e) with
    | false => none
    | true => match x with
      | .sl k o i0 len z => match Nat.beq z (P.cellsOf e) with
        | true => match idx len i with
          | some (p, j) => some (p, .s (at_ k o (i0.add (j.mul (P.cellsOf e)))), [])
          | none => none
        | false => none
      | .xs z len v => match Nat.beq z (P.cellsOf e) with
        | true => match idx len i with
          | some (p, j) => some (p, .s (.xp v (j.mul (P.cellsOf e)).val), [])
          | none => none
        | false => none
      | _ => none
  | _ => none
end Go.Eng
/- The operations on abstract values do what the model's do: variables and addresses. -/
namespace Go.Eng
open Go Go.RowKit

def applyU (own : List Blk) (u : U) : List Blk := u.foldl (fun own x => putO own x.1 x.2) own
def MemOk (P : Program) (A : Ad) (w : World) (m : Sem Value) (own' : List Blk) (v : V) : Prop :=
  ∃ A' w' x, m.run P w = .ok x w' ∧ Keep A w A' w' ∧ OwnOK A' w' own' ∧ v.rel A' w' x
theorem MemOk.pure {P : Program} {A : Ad} {w : World} {m : Sem Value} {own : List Blk} {v : V} {x : Value} (ho : OwnOK A w own) (h : m.run P w = .ok x w) (hv : v.rel A w x) : MemOk P A w m own v :=
  ⟨A, w, x, h, .refl A w, ho, hv⟩

theorem run_program {α : Type} (P : Program) (w : World) (f : Program → Sem α) : (program >>= f).run P w = (f P).run P w := rfl
theorem run_underlying {P : Program} {w : World} {T : TypeId} {d : TypeDesc} (h : P.underlying T = some d) : (underlying T).run P w = .ok d w := by
  unfold underlying
  rw [run_program]
  simp only [h]
  rfl
theorem info_of_underlying {P : Program} {T : TypeId} {d : TypeDesc} (h : P.underlying T = some d) : ∃ i, P.info? T = some i := by
  unfold Program.underlying at h
  split at h
  · rename_i e; exact ⟨_, e⟩
  · rename_i e; exact ⟨_, e⟩
  · cases h
theorem run_typeInfo {P : Program} {w : World} {T : TypeId} {i : TypeInfo} (h : P.info? T = some i) : (typeInfo T).run P w = .ok i w := by
  unfold typeInfo
  rw [run_program]
  simp only [h]
  rfl
theorem run_sizeOf {P : Program} {w : World} {T : TypeId} {i : TypeInfo} (h : P.info? T = some i) : (sizeOf T).run P w = .ok (P.cellsOf T) w := by
  unfold sizeOf
  rw [Sem.run_bind, run_typeInfo h]
  simp [Program.cellsOf, h, run_pure]
theorem run_isAgg {P : Program} {w : World} {T : TypeId} {b : Bool} (h : isAggB P T = some b) : (isAgg T).run P w = .ok b w ∧ ∃ i, P.info? T = some i := by
  unfold isAggB at h
  unfold isAgg
  rw [Sem.run_bind]
  cases hd : P.underlying T with
  | none => rw [hd] at h; cases h
  | some d =>
    rw [run_underlying hd]
    rw [hd] at h
    refine ⟨?_, info_of_underlying hd⟩
    cases d <;> simp only [Option.some.injEq] at h <;> subst h <;> rfl

theorem chkS_ok {A : Ad} {w : World} {s : S} {v : Value} (h : chkS s v = true) : s.rel A w v ∧ one1 v = true := by
  unfold chkS at h
  split at h <;> simp only [S.rel, S.sc, beq_iff_eq, Bool.false_eq_true] at h ⊢
  all_goals first
    | (subst h; exact ⟨rfl, rfl⟩)
    | exact ⟨rfl, rfl⟩
    | exact ⟨trivial, rfl⟩
    | skip
  case h_7 x s' =>
    refine ⟨?_, rfl⟩
    congr 1
    apply ByteArray.ext
    apply Array.ext'
    simpa using h
theorem chkL_ok {α : Type} {A : Ad} {w : World} {f : α → Value → Bool} {g : α → Value} (hf : ∀ x v, f x v = true → v = g x) : ∀ {xs : List α} {l r : List Value}, chkL f xs l = some r → l = xs.map g ++ r
  | [], l, r, h => by simp only [chkL, Option.some.injEq] at h; simp [h]
  | x :: xs, [], r, h => by simp [chkL] at h
  | x :: xs, v :: l, r, h => by
    unfold chkL at h
    split at h
    · rename_i hx
      have := chkL_ok (A := A) (w := w) hf h
      rw [hf x v hx, this]
      rfl
    · cases h
theorem chkVec_ok {A : Ad} {w : World} {x : Vec} {l r : List Value} (h : chkVec x l = some r) : ∃ a, l = a ++ r ∧ x.rel A w a := by
  cases x <;> simp only [chkVec] at h
  case u8 xs => exact ⟨xs.map eu8, chkL_ok (A := A) (w := w) (fun x v hx => by have := (chkS_ok (A := A) (w := w) hx).1; exact this) h, rfl⟩
  case u16 xs => exact ⟨xs.map eu16, chkL_ok (A := A) (w := w) (fun x v hx => by have := (chkS_ok (A := A) (w := w) hx).1; exact this) h, rfl⟩
  case u32 xs => exact ⟨xs.map eu32, chkL_ok (A := A) (w := w) (fun x v hx => by have := (chkS_ok (A := A) (w := w) hx).1; exact this) h, rfl⟩
  case u64 xs => exact ⟨xs.map eu64, chkL_ok (A := A) (w := w) (fun x v hx => by have := (chkS_ok (A := A) (w := w) hx).1; exact this) h, rfl⟩
  case i64 xs => exact ⟨xs.map ei64, chkL_ok (A := A) (w := w) (fun x v hx => by have := (chkS_ok (A := A) (w := w) hx).1; exact this) h, rfl⟩
  case bo xs => exact ⟨xs.map ebo, chkL_ok (A := A) (w := w) (fun x v hx => by have := (chkS_ok (A := A) (w := w) hx).1; exact this) h, rfl⟩
  case sl => cases h
  case va => cases h
theorem chkC_ok {A : Ad} {w : World} : ∀ {cs : List Ch} {l : List Value}, chkC cs l = true → ChsRel A w cs l
  | [], [], _ => rfl
  | [], _ :: _, h => by simp [chkC] at h
  | .one s :: cs, [], h => by simp [chkC] at h
  | .one s :: cs, v :: l, h => by
    unfold chkC at h
    split at h
    · rename_i hs
      obtain ⟨h1, h2⟩ := chkS_ok (A := A) (w := w) hs
      exact ⟨v, l, rfl, h1, h2, chkC_ok h⟩
    · cases h
  | .vec n x :: cs, l, h => by
    unfold chkC at h
    split at h
    · rename_i hn
      split at h
      · rename_i r hx
        obtain ⟨a, rfl, h1⟩ := chkVec_ok (A := A) (w := w) hx
        exact ⟨a, r, rfl, by rw [Vec.rel_len h1]; exact (Nat.eq_of_beq_eq_true hn).symm, h1, chkC_ok h⟩
      · cases h
    · cases h
theorem zeroC_ok {P : Program} {T : TypeId} {cs : List Ch} (h : zeroC P T = some cs) : ∃ z, (∀ w, (zeroValue T).run P w = .ok z w) ∧ ∀ A w, ChsRel A w cs z.cells.toList := by
  unfold zeroC at h
  split at h
  · rename_i i hi
    split at h
    · rename_i z hz
      split at h
      · split at h
        · rename_i hc
          cases h
          refine ⟨z, fun w => ?_, fun A w => chkC_ok hc⟩
          unfold zeroValue
          rw [Sem.run_bind, run_typeInfo hi]
          simp only [hz]
          rfl
        · cases h
      · cases h
    · cases h
  · cases h

theorem ofConst_ok {A : Ad} {w : World} (v : Value) : (ofConst v).rel A w v := by
  unfold ofConst
  split
  case h_1 => rfl
  case h_2 => rfl
  case h_3 => rw [frc_eq]; rfl
  case h_4 m => split <;> first | trivial | (rename_i h; show Value.int .u8 _ = Value.int .u8 _; have := Nat.le_of_ble_eq_true h; simp [Nat.mod_eq_of_lt (show m < 256 by omega)])
  case h_5 m => split <;> first | trivial | (rename_i h; show Value.int .u16 _ = Value.int .u16 _; have := Nat.le_of_ble_eq_true h; simp [Nat.mod_eq_of_lt (show m < 65536 by omega)])
  case h_6 m => split <;> first | trivial | (rename_i h; show Value.int .u32 _ = Value.int .u32 _; have := Nat.le_of_ble_eq_true h; simp [Nat.mod_eq_of_lt (show m < 4294967296 by omega)])
  case h_7 m => split <;> first | trivial | (rename_i h; show Value.int .u64 _ = Value.int .u64 _; have := Nat.le_of_ble_eq_true h; simp [Nat.mod_eq_of_lt (show m < 18446744073709551616 by omega)])
  case h_8 => simp [S.rel, S.sc]
  case h_9 => rfl
  case h_10 => rfl

theorem alloc_new {A : Ad} {w : World} {own : List Blk} {f : Nat} {cs : List Ch} {cells : List Value} (T : TypeId) (ho : OwnOK A w own) (hf : A f = none) (hc : ChsRel A w cs cells) :
    Keep A w (A1 A f w.heap.size) (w.alloc (.cells cells.toArray T)) ∧ OwnOK (A1 A f w.heap.size) (w.alloc (.cells cells.toArray T)) (putO own f (some cs)) := by
  have hb : Below w.heap.size w (w.alloc (.cells cells.toArray T)) := (Below.refl _ _).alloc (Nat.le_refl _) _
  have hk := own_new_keep (w := w) (w' := w.alloc (.cells cells.toArray T)) hf hb (Nat.le_refl _)
  refine ⟨hk, own_new_ok ho hf hb (Nat.le_refl _) (by simp) ⟨cells.toArray, T, (0, 0), cells, [], ?_, .inl (by simp), by simp, hk.chs hc⟩⟩
  show (w.heap.push _)[w.heap.size]? = _
  simp
theorem run_newVar {P : Program} {w : World} {T : TypeId} {v : Value} : (newVar T v).run P w = .ok ⟨w.heap.size, 0, none⟩ (w.alloc (.cells v.cells T)) := rfl

theorem aAlloc_ok {P : Program} {A : Ad} {w : World} {own : List Blk} {T : TypeId} {f : Nat} {p : List Prop} {v : V} {u : U} (h : aAlloc P T f = some (p, v, u)) (ho : OwnOK A w own) (hf : A f = none) :
    MemOk P A w (Instr.alloc T true (.tuple #[])) (applyU own u) v := by
  unfold aAlloc at h
  split at h
  · rename_i cs hz
    cases h
    obtain ⟨z, h1, h2⟩ := zeroC_ok hz
    obtain ⟨k1, k2⟩ := alloc_new T ho hf (h2 A w)
    refine ⟨_, _, .pointer (some ⟨w.heap.size, 0, none⟩), ?_, k1, k2, w.heap.size, A1_self _ _ _, rfl⟩
    · unfold Instr.alloc
      rw [Sem.run_bind, h1]
      simp only []
      rw [Sem.run_bind, run_newVar]
      simp only [run_pure, Array.toArray_toList]
  · cases h
theorem cells_one {v : Value} (h : one1 v = true) : v.cells = #[v] := by
  cases v <;> first | rfl | (simp [one1] at h)
theorem V.chs_ok {A : Ad} {w : World} {x : V} {cs : List Ch} {v : Value} (h : x.chs = some cs) (hv : x.rel A w v) : ChsRel A w cs v.cells.toList := by
  unfold V.chs at h
  split at h
  · split at h
    · rename_i hs
      cases h
      have := S.oneC_ok hs hv
      rw [cells_one this]
      exact one_mk hv this
    · cases h
  · cases h
    obtain ⟨cells, rfl, h2⟩ := hv
    simpa [Value.cells] using h2
  · cases h
theorem aBox_ok {P : Program} {A : Ad} {w : World} {own : List Blk} {T : TypeId} {f : Nat} {p : List Prop} {x v : V} {u : U} {xv : Value} (h : aBox P x f = some (p, v, u)) (ho : OwnOK A w own) (hf : A f = none) (hx : x.rel A w xv) :
    MemOk P A w (Instr.box T xv) (applyU own u) v := by
  unfold aBox at h
  split at h
  · rename_i cs hc
    cases h
    obtain ⟨k1, k2⟩ := alloc_new T ho hf (V.chs_ok hc hx)
    refine ⟨_, _, .pointer (some ⟨w.heap.size, 0, none⟩), ?_, k1, k2, w.heap.size, A1_self _ _ _, rfl⟩
    unfold Instr.box
    rw [Sem.run_bind, run_newVar]
    simp only [run_pure, Array.toArray_toList]
  · cases h

theorem retS_some {r : R S} {p : List Prop} {v : V} {u : U} (h : retS r = some (p, v, u)) : ∃ s, r = some (p, s) ∧ v = .s s ∧ u = [] := by
  unfold retS at h
  split at h
  · cases h; exact ⟨_, rfl, rfl, rfl⟩
  · cases h
theorem retC_some {r : R (List Ch)} {p : List Prop} {v : V} {u : U} (h : retC r = some (p, v, u)) : ∃ s, r = some (p, s) ∧ v = .agg s ∧ u = [] := by
  unfold retC at h
  split at h
  · cases h; exact ⟨_, rfl, rfl, rfl⟩
  · cases h
theorem retW_some {k : Nat} {r : R (List Ch)} {p : List Prop} {v : V} {u : U} (h : retW k r = some (p, v, u)) : ∃ s, r = some (p, s) ∧ v = V.any ∧ u = [(k, some s)] := by
  unfold retW at h
  split at h
  · cases h; exact ⟨_, rfl, rfl, rfl⟩
  · cases h
theorem run_loadVar_one {P : Program} {w : World} {T : TypeId} {a o : Nat} {arr : Array Value} {E : TypeId} {fz : Nat × Nat} {v : Value} (hT : isAggB P T = some false) (h : w.heap[a]? = some (.cells arr E fz))
    (hv : arr.toList[o]? = some v) : (loadVar T ⟨a, o, none⟩).run P w = .ok v w := by
  unfold loadVar
  rw [Sem.run_bind, (run_isAgg hT).1]
  exact run_load h hv
theorem run_loadVar_agg {P : Program} {w : World} {T : TypeId} {a o : Nat} {arr : Array Value} {E : TypeId} {fz : Nat × Nat} (hT : isAggB P T = some true) (h : w.heap[a]? = some (.cells arr E fz))
    (hn : o + P.cellsOf T ≤ arr.size) : (loadVar T ⟨a, o, none⟩).run P w = .ok (.agg ((arr.toList.drop o).take (P.cellsOf T)).toArray) w := by
  obtain ⟨h1, i, h2⟩ := run_isAgg (w := w) hT
  unfold loadVar
  rw [Sem.run_bind, h1]
  simp only [if_true]
  rw [Sem.run_bind, run_sizeOf h2]
  simp only []
  rw [Sem.run_bind, run_loadCells h hn]
  rfl
theorem aLoad0_ok {P : Program} {A : Ad} {w : World} {own : List Blk} {T : TypeId} {p : List Prop} {x : S} {v : V} {u : U} {xv : Value} (h : aLoad0 P T x own = some (p, v, u)) (hp : all p) (ho : OwnOK A w own) (hx : x.rel A w xv) :
    MemOk P A w (Instr.loadAt T xv) (applyU own u) v := by
  unfold aLoad0 at h
  split at h
  · rename_i k o
    split at h
    · rename_i cs hg
      obtain ⟨a, ha, rfl⟩ := hx
      have hnm : isM cs = false := by
        split at h
        · obtain ⟨t, h1, _, _⟩ := retC_some h
          exact rdA_nm h1
        · obtain ⟨s, h1, _, _⟩ := retS_some h
          exact rdS_nm h1
        · cases h
      obtain ⟨arr, E, fz, cells, spare, g1, g2, g3, g4⟩ := ho.at (getO_some hg) ha hnm
      split at h
      · rename_i hT
        obtain ⟨t, h1, rfl, rfl⟩ := retC_some h
        obtain ⟨q1, q2⟩ := rdA_ok h1 hp g4
        have hs : arr.size = cells.length + spare.length := by have := congrArg List.length g3; simpa using this
        refine MemOk.pure ho (run_loadVar_agg hT g1 (by omega)) ⟨_, rfl, ?_⟩
        rw [g3, List.drop_append_of_le_length (by omega), List.take_append_of_le_length (by simp; omega)]
        exact q2
      · rename_i hT
        obtain ⟨s, h1, rfl, rfl⟩ := retS_some h
        obtain ⟨y, q1, q2, q3⟩ := rdS_ok h1 hp g4
        refine MemOk.pure ho (run_loadVar_one hT g1 (v := y) ?_) q2
        rw [g3, List.getElem?_append_left]
        · exact q1
        · exact (List.getElem?_eq_some_iff.1 q1).1
      · cases h
    · cases h
  · rename_i k o j
    split at h
    · rename_i cs hg
      obtain ⟨a, ha, rfl⟩ := hx
      have hnm : isM cs = false := by
        split at h
        · obtain ⟨t, h1, _, _⟩ := retC_some h
          exact rdAI_nm h1
        · obtain ⟨s, h1, _, _⟩ := retS_some h
          exact rdI_nm h1
        · cases h
      obtain ⟨arr, E, fz, cells, spare, g1, g2, g3, g4⟩ := ho.at (getO_some hg) ha hnm
      split at h
      · rename_i hT
        obtain ⟨t, h1, rfl, rfl⟩ := retC_some h
        obtain ⟨q1, q2⟩ := rdAI_ok h1 hp g4
        have hs : arr.size = cells.length + spare.length := by have := congrArg List.length g3; simpa using this
        refine MemOk.pure ho (run_loadVar_agg hT g1 (by omega)) ⟨_, rfl, ?_⟩
        rw [g3, List.drop_append_of_le_length (by omega), List.take_append_of_le_length (by simp; omega)]
        exact q2
      · rename_i hT
        obtain ⟨s, h1, rfl, rfl⟩ := retS_some h
        obtain ⟨y, q1, q2, q3⟩ := rdI_ok h1 hp g4
        refine MemOk.pure ho (run_loadVar_one hT g1 (v := y) ?_) q2
        rw [g3, List.getElem?_append_left]
        · exact q1
        · exact (List.getElem?_eq_some_iff.1 q1).1
      · cases h
    · cases h
  · rename_i x i
    obtain ⟨cs, blk, off, arr, E, fz, g1, rfl, g3, g4, g5⟩ := hx
    have hl := Vec.rel_len g1
    have hlen : cs.length ≤ arr.size - off := by
      have := congrArg List.length g5
      simp at this
      omega
    split at h
    · rename_i hT
      split at h <;> cases h
      rename_i hc
      have hc := Nat.le_of_ble_eq_true hc
      have h1 := (all_cons.1 hp).1
      refine MemOk.pure ho (run_loadVar_agg hT g4 (by omega)) ⟨_, rfl, ?_⟩
      have e : (arr.toList.drop (off + i)).take (P.cellsOf T) = (cs.drop i).take (P.cellsOf T) := by
        rw [← g5, List.drop_take, List.take_take, List.drop_drop, Nat.min_eq_left (by omega)]
      rw [e]
      exact vec_mk (by simp [I.val]; omega) (Vec.take_ok (Vec.drop_ok g1))
    · rename_i hT
      cases h
      have h1 := (all_cons.1 hp).1
      obtain ⟨y, q1, q2, q3⟩ := Vec.get_ok (i := i) g1 (by omega)
      refine MemOk.pure ho (run_loadVar_one hT g4 (v := y) ?_) q2
      rw [← q1, ← g5, List.getElem?_take, if_pos (by omega), List.getElem?_drop]
    · cases h
  · cases h

theorem Kd.is_one {k : Kd} {v : Value} (h : k.is v) : one1 v = true := by
  cases k <;> simp only [Kd.is] at h <;> rw [h] <;> rfl
theorem Kd.dec_ok {A : Ad} {w : World} {k : Kd} {v : Value} (h : k.is v) : (k.dec v).rel A w v := by
  cases k <;> exact h
theorem map_of {α : Type} {f : Value → α} {g : α → Value} : ∀ {l : List Value}, (∀ v ∈ l, v = g (f v)) → l = (l.map f).map g
  | [], _ => rfl
  | v :: r, h => by rw [List.map_cons, List.map_cons, ← h v (.head _), ← map_of fun u hu => h u (.tail _ hu)]
theorem Kd.decV_ok {A : Ad} {w : World} {k : Kd} {l : List Value} (h : ∀ v ∈ l, k.is v) : (k.decV l).rel A w l := by
  cases k
  case nil => exact ⟨rfl, fun v hv => Kd.is_one (h v hv)⟩
  all_goals exact map_of h
theorem decCs_ok {A : Ad} {w : World} : ∀ {ks : List TK} {l : List Value} {o : Nat}, WTo ks l o → ChsRel A w (decCs ks l o) (l.drop o)
  | [], l, o, h => by
    have h : l.length = o := h
    show l.drop o = []
    rw [← h]; exact List.drop_length
  | .one k :: r, l, o, h => by
    obtain ⟨h1, h2, h3⟩ := h
    unfold decCs
    rw [frcN_eq]
    refine ⟨l.getD o (.bool false), l.drop (o + 1), ?_, Kd.dec_ok h2, Kd.is_one h2, decCs_ok h3⟩
    rw [List.getD_eq_getElem?_getD, List.getElem?_eq_getElem h1]
    exact List.drop_eq_getElem_cons h1
  | .vec n k :: r, l, o, h => by
    obtain ⟨h1, h2, h3⟩ := h
    unfold decCs
    rw [frcN_eq]
    refine ⟨(l.drop o).take n, l.drop (o + n), ?_, ?_, Kd.decV_ok h2, decCs_ok h3⟩
    · rw [← List.drop_drop, List.take_append_drop]
    · simp [I.val]; omega
theorem tyV_ok {P : Program} {A : Ad} {w : World} {T : TypeId} {r : RU} {m : Sem Value} {p : List Prop} {v : V} {u : U} {own : List Blk} (h : tyV P T r = some (p, v, u)) (hp : all p)
    (hr : ∀ p v, r = some (p, v, u) → all p → MemOk P A w m (applyU own u) v) : MemOk P A w m (applyU own u) v := by
  unfold tyV at h
  split at h
  · rename_i q x u'
    split at h
    · rename_i k hk
      simp only [Option.some.injEq, Prod.mk.injEq] at h
      obtain ⟨rfl, rfl, rfl⟩ := h
      obtain ⟨h1, h2⟩ := all_append.1 hp
      obtain ⟨A', w', y, g1, g2, g3, g4⟩ := hr _ _ rfl h1
      refine ⟨A', w', y, g1, g2, g3, ?_⟩
      have e : y = x := g4
      subst e
      exact Kd.dec_ok (all_cons.1 h2).1
    · simp only [Option.some.injEq, Prod.mk.injEq] at h
      obtain ⟨rfl, rfl, rfl⟩ := h
      exact hr _ _ rfl hp
  · rename_i q n l u'
    split at h
    · simp only [Option.some.injEq, Prod.mk.injEq] at h
      obtain ⟨rfl, rfl, rfl⟩ := h
      exact hr _ _ rfl hp
    split at h
    · rename_i ks hk
      simp only [Option.some.injEq, Prod.mk.injEq] at h
      obtain ⟨rfl, rfl, rfl⟩ := h
      obtain ⟨h1, h2⟩ := all_append.1 hp
      obtain ⟨A', w', y, g1, g2, g3, g4⟩ := hr _ _ rfl h1
      refine ⟨A', w', y, g1, g2, g3, ?_⟩
      obtain ⟨cells, rfl, k1⟩ := g4
      obtain ⟨_, k2, _⟩ := vec_rel k1
      subst k2
      exact ⟨cells, rfl, decCs_ok (o := 0) (all_cons.1 h2).1⟩
    · cases h
  · exact hr _ _ h hp
theorem aLoad_ok {P : Program} {A : Ad} {w : World} {own : List Blk} {T : TypeId} {p : List Prop} {x : S} {v : V} {u : U} {xv : Value} (h : aLoad P T x own = some (p, v, u)) (hp : all p) (ho : OwnOK A w own) (hx : x.rel A w xv) :
    MemOk P A w (Instr.loadAt T xv) (applyU own u) v :=
  tyV_ok h hp fun p v h1 h2 => aLoad0_ok h1 h2 ho hx
theorem encV_ok {A : Ad} {w : World} {v : Vec} {l cs : List Value} (h : encV v = some l) (hr : v.rel A w cs) : cs = l := by
  cases v <;> simp only [encV, Option.some.injEq, reduceCtorEq] at h <;> subst h <;> first | exact hr | exact hr.1
theorem encC_ok {A : Ad} {w : World} : ∀ {cs : List Ch} {l cells : List Value}, encC cs = some l → ChsRel A w cs cells → cells = l
  | [], l, cells, h, hr => by cases h; exact hr
  | .one s :: r, l, cells, h, hr => by
    obtain ⟨v, t, rfl, h1, h2, h3⟩ := hr
    unfold encC at h
    split at h
    · rename_i x m hx hm
      cases h
      rw [encC_ok hm h3, (encS_ok hx h1).1]
    · cases h
  | [.vec n x], l, cells, h, hr => by
    have h : encV x = some l := h
    exact encV_ok h (vec_rel hr).2
  | .vec n x :: c :: r, l, cells, h, hr => by
    obtain ⟨a, t, rfl, h1, h2, h3⟩ := hr
    have h : (match encV x, encC (c :: r) with | some a, some l => some (a ++ l) | _, _ => none) = some l := h
    split at h
    · rename_i y m hx hm
      cases h
      rw [encC_ok hm h3, encV_ok hx h2]
    · cases h

theorem run_storeVar {P : Program} {w : World} {T : TypeId} {a o : Nat} {arr : Array Value} {E : TypeId} {fz : Nat × Nat} {i : TypeInfo} {v : Value} (hT : P.info? T = some i) (h : w.heap[a]? = some (.cells arr E fz))
    (hf : fz.2 = fz.1 ∨ arr.size ≤ fz.1) (hn : v.cells.size = P.cellsOf T) (ho : o + P.cellsOf T ≤ arr.size) (h1 : ∀ x ∈ v.cells.toList, one1 x = true) :
    (storeVar T ⟨a, o, none⟩ v).run P w = .ok () (setArr w a (over arr.toList o v.cells.toList).toArray E fz) := by
  unfold storeVar
  rw [Sem.run_bind, run_sizeOf hT]
  simp only []
  rw [if_neg (by simpa using hn)]
  have := run_storeCells (P := P) (T := E) (fz := fz) v.cells.toList w o 0 arr h hf (by simp; omega) h1
  simpa using this
def MemOkU (P : Program) (A : Ad) (w : World) (m : Sem Unit) (own' : List Blk) : Prop :=
  ∃ A' w', m.run P w = .ok () w' ∧ Keep A w A' w' ∧ OwnOK A' w' own'
theorem store_over {A : Ad} {w : World} {own : List Blk} {k a o : Nat} {arr : Array Value} {E : TypeId} {fz : Nat × Nat} {cs cs' : List Ch} {cells spare xs : List Value} (ho : OwnOK A w own) (hk : own[k]? = some (some cs)) (ha : A k = some a)
    (g1 : w.heap[a]? = some (.cells arr E fz)) (g2 : fz.2 = fz.1 ∨ arr.size ≤ fz.1) (g3 : arr.toList = cells ++ spare) (hl : o + xs.length ≤ cells.length) (hr : ChsRel A w cs' (over cells o xs)) :
    Keep A w A (setArr w a (over arr.toList o xs).toArray E fz) ∧ OwnOK A (setArr w a (over arr.toList o xs).toArray E fz) (putO own k (some cs')) := by
  have hs : arr.size = cells.length + spare.length := by have := congrArg List.length g3; simpa using this
  have e : over arr.toList o xs = over cells o xs ++ spare := by
    have := over_mid (l1 := ([] : List Value)) (l2 := cells) (l3 := spare) (s := xs) (i := o) (o := o) (by simp) hl
    rw [g3]; simpa using this
  have hsz : (over arr.toList o xs).toArray.size = arr.size := by simp only [List.size_toArray]; rw [over_len (by simp; omega)]; simp
  exact ⟨own_set_keep ha g1 hsz, own_set_ok ho hk ha g1 hsz (by rw [hsz]; exact g2) (by simpa using e) hr⟩
theorem szL_ok {A : Ad} {w : World} : ∀ {cs : List Ch} {l : List Value} {n : Nat}, ChsRel A w cs l → szL cs = some n → l.length = n
  | [], l, n, h, e => by simp only [ChsRel] at h; subst h; simp only [szL, Option.some.injEq] at e; simpa using e
  | c :: cs, l, n, h, e => by
    obtain ⟨l1, l2, rfl, h1, h2, h3⟩ := h.cons_size
    unfold szL at e
    split at e
    · cases e
    split at e
    · rename_i m hm
      split at e
      · rename_i k hk
        cases e
        have := szL_ok h3 hk
        rw [hm] at h1
        simp only [I.val] at h1
        simp; omega
      · cases e
    · cases e
theorem szL_nm {cs : List Ch} {n : Nat} (h : szL cs = some n) : isM cs = false := by
  cases cs with
  | nil => rfl
  | cons c r =>
    unfold szL at h
    split at h
    · cases h
    · assumption
theorem isSz_ok {A : Ad} {w : World} {cs : List Ch} {l : List Value} {n : Nat} (h : ChsRel A w cs l) (e : isSz cs n = true) : l.length = n := by
  unfold isSz at e
  split at e
  · rename_i k hk
    rw [szL_ok h hk]
    exact Nat.eq_of_beq_eq_true e
  · cases e
theorem aStore0_ok {P : Program} {A : Ad} {w : World} {own : List Blk} {T : TypeId} {p : List Prop} {x : S} {y v : V} {u : U} {xv yv : Value} (h : aStore0 P T x y own = some (p, v, u)) (hp : all p) (ho : OwnOK A w own)
    (hx : x.rel A w xv) (hy : y.rel A w yv) : v = V.any ∧ MemOkU P A w (Instr.storeAt T xv yv) (applyU own u) := by
  unfold aStore0 at h
  split at h
  · cases h
  · rename_i i hi
    split at h
    · rename_i k o
      split at h
      · rename_i cs hg
        obtain ⟨a, ha, rfl⟩ := hx
        have hk := getO_some hg
        have hnm : isM cs = false := by
          split at h
          · split at h
            · obtain ⟨_, h1, _, _⟩ := retW_some h
              exact wrS_nm h1
            · cases h
          · split at h
            · obtain ⟨_, h1, _, _⟩ := retW_some h
              exact wrA_nm h1
            · cases h
          · cases h
        obtain ⟨arr, E, fz, cells, spare, g1, g2, g3, g4⟩ := ho.at hk ha hnm
        have hs : arr.size = cells.length + spare.length := by have := congrArg List.length g3; simpa using this
        split at h
        · rename_i s
          split at h
          · rename_i hone
            obtain ⟨cs', h1, rfl, rfl⟩ := retW_some h
            obtain ⟨q1, q2, q3⟩ := wrS_ok h1 hp g4 hy
            have hc1 : P.cellsOf T = 1 := Nat.eq_of_beq_eq_true hone
            have hcl := cells_one q2
            obtain ⟨k1, k2⟩ := store_over (xs := [yv]) ho hk ha g1 g2 g3 (by simp only [List.length_singleton]; omega) q3
            refine ⟨rfl, A, _, ?_, k1, k2⟩
            have := run_storeVar (P := P) (o := o) (v := yv) hi g1 g2 (by rw [hcl, hc1]; rfl) (by omega) (by rw [hcl]; intro z hz; simp at hz; subst hz; exact q2)
            rw [hcl] at this
            exact this
          · cases h
        · rename_i new
          split at h
          · rename_i hl
            obtain ⟨cs', h1, rfl, rfl⟩ := retW_some h
            obtain ⟨ycells, rfl, hn⟩ := hy
            have hl := isSz_ok hn hl
            obtain ⟨q1, q2⟩ := wrA_ok h1 hp g4 hn hl
            obtain ⟨k1, k2⟩ := store_over (xs := ycells) ho hk ha g1 g2 g3 (by omega) q2
            refine ⟨rfl, A, _, ?_, k1, k2⟩
            exact run_storeVar (P := P) (o := o) (v := .agg ycells.toArray) hi g1 g2 (by simpa [Value.cells] using hl) (by omega) (by simpa [Value.cells] using hn.ones)
          · cases h
        · cases h
      · cases h
    · rename_i k o j
      split at h
      · rename_i cs hg
        obtain ⟨a, ha, rfl⟩ := hx
        have hk := getO_some hg
        have hnm : isM cs = false := by
          split at h
          · split at h
            · obtain ⟨_, h1, _, _⟩ := retW_some h
              exact wrI_nm h1
            · cases h
          · split at h
            · obtain ⟨_, h1, _, _⟩ := retW_some h
              exact wrAI_nm h1
            · cases h
          · cases h
        obtain ⟨arr, E, fz, cells, spare, g1, g2, g3, g4⟩ := ho.at hk ha hnm
        have hs : arr.size = cells.length + spare.length := by have := congrArg List.length g3; simpa using this
        split at h
        · rename_i s
          split at h
          · rename_i hone
            obtain ⟨cs', h1, rfl, rfl⟩ := retW_some h
            obtain ⟨q1, q2, q3⟩ := wrI_ok h1 hp g4 hy
            have hc1 : P.cellsOf T = 1 := Nat.eq_of_beq_eq_true hone
            have hcl := cells_one q2
            obtain ⟨k1, k2⟩ := store_over (xs := [yv]) ho hk ha g1 g2 g3 (by simp only [List.length_singleton]; omega) q3
            refine ⟨rfl, A, _, ?_, k1, k2⟩
            have := run_storeVar (P := P) (o := o + j) (v := yv) hi g1 g2 (by rw [hcl, hc1]; rfl) (by omega) (by rw [hcl]; intro z hz; simp at hz; subst hz; exact q2)
            rw [hcl] at this
            exact this
          · cases h
        · rename_i new
          split at h
          · rename_i hl
            obtain ⟨cs', h1, rfl, rfl⟩ := retW_some h
            obtain ⟨ycells, rfl, hn⟩ := hy
            have hl := isSz_ok hn hl
            obtain ⟨q1, q2⟩ := wrAI_ok h1 hp g4 hn hl
            obtain ⟨k1, k2⟩ := store_over (xs := ycells) ho hk ha g1 g2 g3 (by omega) q2
            refine ⟨rfl, A, _, ?_, k1, k2⟩
            exact run_storeVar (P := P) (o := o + j) (v := .agg ycells.toArray) hi g1 g2 (by simpa [Value.cells] using hl) (by omega) (by simpa [Value.cells] using hn.ones)
          · cases h
        · cases h
      · cases h
    · cases h

theorem enc_rel {A : Ad} {w : World} {new : List Ch} {n : Nat} {l : List Value} {yv : Value} (h1 : isSz new n = true) (h2 : encC new = some l) (hy : (V.agg new).rel A w yv) : (V.agg [.vec (.n n) (.va l)]).rel A w yv := by
  obtain ⟨cells, rfl, k⟩ := hy
  have hs := isSz_ok k h1
  have ho := k.ones
  have e := encC_ok h2 k
  subst e
  exact ⟨cells, rfl, vec_mk hs ⟨rfl, ho⟩⟩
theorem aStore_ok {P : Program} {A : Ad} {w : World} {own : List Blk} {T : TypeId} {p : List Prop} {x : S} {y v : V} {u : U} {xv yv : Value} (h : aStore P T x y own = some (p, v, u)) (hp : all p) (ho : OwnOK A w own)
    (hx : x.rel A w xv) (hy : y.rel A w yv) : v = V.any ∧ MemOkU P A w (Instr.storeAt T xv yv) (applyU own u) := by
  unfold aStore at h
  split at h
  · rename_i r hr
    cases h
    exact aStore0_ok hr hp ho hx hy
  · split at h
    · split at h
      · rename_i h1 h2
        exact aStore0_ok h hp ho hx (enc_rel h1 h2 hy)
      · cases h
    · cases h
theorem run_sureAddr {P : Program} {w : World} {a : Addr} : (Instr.sureAddr (.pointer (some a))).run P w = .ok a w := rfl
theorem aField_ok {P : Program} {A : Ad} {w : World} {own : List Blk} {T : TypeId} {fi : Nat} {p : List Prop} {x : S} {v : V} {u : U} {xv : Value} (h : aField P T x fi = some (p, v, u)) (ho : OwnOK A w own) (hx : x.rel A w xv) :
    MemOk P A w (Instr.fieldAt T xv fi) (applyU own u) v := by
  unfold aField at h
  split at h
  · rename_i fs hT
    split at h
    · rename_i f hf
      split at h
      · cases h
      · rename_i hz
        have hz' : P.cellsOf f.type ≠ 0 := fun e => by rw [e] at hz; cases hz
        have hinfo : ∃ i, P.info? f.type = some i := by
          cases e : P.info? f.type with
          | none => exact absurd (by simp [Program.cellsOf, e]) hz'
          | some i => exact ⟨i, rfl⟩
        obtain ⟨i, hi⟩ := hinfo
        have key : ∀ a o, xv = .pointer (some ⟨a, o, none⟩) → (Instr.fieldAt T xv fi).run P w = .ok (.pointer (some ⟨a, o + f.offset, none⟩)) w := by
          intro a o e
          subst e
          unfold Instr.fieldAt
          rw [Sem.run_bind, run_underlying hT]
          simp only [hf]
          rw [Sem.run_bind, run_sureAddr]
          simp only []
          rw [Sem.run_bind]
          unfold fieldPlace
          rw [Sem.run_bind, run_sizeOf hi]
          simp only [hz', if_false]
          rw [add_none]
          rfl
        split at h
        · rename_i k o
          cases h
          obtain ⟨a, ha, rfl⟩ := hx
          exact MemOk.pure ho (key a o rfl) ⟨a, ha, rfl⟩
        · rename_i k o j
          obtain ⟨a, ha, rfl⟩ := hx
          split at h
          · rename_i hoff
            cases h
            exact MemOk.pure ho (key a (o + j) rfl) ⟨a, ha, by rw [hoff]; rfl⟩
          · rename_i m hoff
            cases h
            exact MemOk.pure ho (key a (o + j) rfl) ⟨a, ha, by rw [hoff, Nat.add_assoc]⟩
        · rename_i y j
          obtain ⟨cs, blk, off, arr, T', fz, k1, rfl, k2, k3, k4⟩ := hx
          split at h
          · rename_i hoff
            cases h
            exact MemOk.pure ho (key blk (off + j) rfl) ⟨cs, blk, off, arr, T', fz, k1, by rw [hoff]; rfl, k2, k3, k4⟩
          · rename_i m hoff
            cases h
            exact MemOk.pure ho (key blk (off + j) rfl) ⟨cs, blk, off, arr, T', fz, k1, by rw [hoff, Nat.add_assoc], k2, k3, k4⟩
        · cases h
    · cases h
  · cases h
theorem info_of_cells {P : Program} {T : TypeId} (h : 0 < P.cellsOf T) : ∃ i, P.info? T = some i := by
  cases e : P.info? T with
  | none => simp [Program.cellsOf, e] at h
  | some i => exact ⟨i, rfl⟩
theorem idx_ok {A : Ad} {w : World} {len j : I} {i : S} {p : List Prop} {iv : Value} (h : idx len i = some (p, j)) (hp : all p) (hi : i.rel A w iv) : ∃ k, iv = .int k (j.val : Int) ∧ j.val < len.val := by
  unfold idx at h
  split at h
  · split at h
    · rename_i m k
      split at h <;> cases h
      rename_i hm
      have := Nat.le_of_ble_eq_true hm
      exact ⟨.i64, hi, by simp only [I.val]; omega⟩
    · rename_i m k
      cases h
      exact ⟨.i64, hi, (all_cons.1 hp).1⟩
    · cases h
  · rename_i x
    cases h
    obtain ⟨h1, h2⟩ := (all_cons.1 hp).1
    refine ⟨.i64, ?_, ?_⟩
    · rw [show iv = ei64 x from hi]; simp only [ei64, I.val]; congr 1; omega
    · simp only [I.val] at h2 ⊢; omega
  all_goals first
    | (cases h; exact ⟨_, hi, (all_cons.1 hp).1⟩)
    | cases h
theorem at_ok {A : Ad} {w : World} {k o a : Nat} {i : I} (ha : A k = some a) : (at_ k o i).rel A w (.pointer (some ⟨a, o + i.val, none⟩)) := by
  cases i <;> exact ⟨a, ha, rfl⟩
theorem run_asIntOf {P : Program} {w : World} {k : IntKind} {n : Int} : (asIntOf (.int k n)).run P w = .ok (k, n) w := rfl
theorem aIndexAddr_ok {P : Program} {A : Ad} {w : World} {own : List Blk} {T : TypeId} {p : List Prop} {x i : S} {v : V} {u : U} {xv iv : Value} (h : aIndexAddr P T x i = some (p, v, u)) (hp : all p) (ho : OwnOK A w own) (hx : x.rel A w xv) (hi : i.rel A w iv) :
    MemOk P A w (Instr.indexAt T xv iv) (applyU own u) v := by
  unfold aIndexAddr at h
  split at h
  · rename_i n e hT
    split at h
    · cases h
    rename_i he
    have hinfo := info_of_cells (Nat.le_of_ble_eq_true he)
    have key : ∀ (a o : Nat) (k : IntKind) (m : Nat), m < n → (Instr.indexAt T (.pointer (some ⟨a, o, none⟩)) (.int k (m : Int))).run P w = .ok (.pointer (some ⟨a, o + m * P.cellsOf e, none⟩)) w := by
      intro a o k m hm
      obtain ⟨i, hi⟩ := hinfo
      unfold Instr.indexAt
      rw [Sem.run_bind, run_asIntOf]
      simp only []
      rw [Sem.run_bind, run_underlying hT]
      simp only []
      rw [Sem.run_bind, run_sureAddr]
      simp only []
      rw [Sem.run_bind, run_pure]
      simp only []
      rw [Sem.run_bind, run_underlying hT]
      simp only []
      rw [if_pos ⟨by omega, by omega⟩, Sem.run_bind, run_sizeOf hi]
      simp only [add_none, Int.toNat_natCast, run_pure]
    split at h
    · rename_i k o
      split at h
      · rename_i q j hj
        cases h
        obtain ⟨a, ha, rfl⟩ := hx
        obtain ⟨kk, rfl, hlt⟩ := idx_ok hj hp hi
        refine MemOk.pure ho (key a o kk j.val hlt) ?_
        have := at_ok (A := A) (w := w) (o := o) (i := j.mul (P.cellsOf e)) ha
        rw [I.val_mul] at this
        exact this
      · cases h
    · rename_i k o m
      split at h
      · rename_i q j hj
        cases h
        obtain ⟨a, ha, rfl⟩ := hx
        obtain ⟨kk, rfl, hlt⟩ := idx_ok hj hp hi
        exact MemOk.pure ho (key a (o + m) kk j.val hlt) ⟨a, ha, by rw [I.val_mul, Nat.add_assoc]⟩
      · cases h
    · cases h
  · rename_i e hT
    split at h
    · cases h
    rename_i he
    have hinfo := info_of_cells (Nat.le_of_ble_eq_true he)
    have key : ∀ (a o : Nat) (len cap : Nat) (k : IntKind) (m : Nat), m < len → (Instr.indexAt T (.slice (some ⟨a, o, none⟩) len cap) (.int k (m : Int))).run P w = .ok (.pointer (some ⟨a, o + m * P.cellsOf e, none⟩)) w := by
      intro a o len cap k m hm
      obtain ⟨i, hi⟩ := hinfo
      unfold Instr.indexAt
      rw [Sem.run_bind, run_asIntOf]
      simp only []
      rw [Sem.run_bind, run_underlying hT]
      simp only []
      rw [Sem.run_bind, run_pure]
      simp only []
      rw [Sem.run_bind, run_underlying hT]
      simp only []
      rw [if_pos ⟨by omega, by omega⟩, Sem.run_bind, run_sizeOf hi]
      simp only [add_none, Int.toNat_natCast, run_pure]
    split at h
    · rename_i k o i0 len z
      split at h
      · rename_i hz
        split at h
        · rename_i q j hj
          cases h
          obtain ⟨kk, rfl, hlt⟩ := idx_ok hj hp hi
          rcases hx with ⟨_, hx⟩ | ⟨a, off, cap, arr, E, fz, ha, rfl, h3, h4, h5, h6⟩
          · omega
          refine MemOk.pure ho (key a off _ cap kk j.val hlt) ?_
          have := at_ok (A := A) (w := w) (o := o) (i := i0.add (j.mul (P.cellsOf e))) ha
          rw [I.val_add, I.val_mul, ← Nat.add_assoc] at this
          have e1 : off = o + i0.val := by rcases h4 with h4 | h4 <;> omega
          rw [e1]
          exact this
        · cases h
      · cases h
    · rename_i z len y
      split at h
      · rename_i hz
        split at h
        · rename_i q j hj
          cases h
          obtain ⟨h0, cs, h1, h2, h3⟩ := hx
          obtain ⟨kk, rfl, hlt⟩ := idx_ok hj hp hi
          rcases h2 with ⟨⟨_, rfl⟩, rfl⟩ | ⟨blk, off, n, cap, arr, E, fz, rfl, g2, g3, g4, g5, g6⟩
          · exfalso
            simp only [List.length_nil] at h3
            rcases Nat.mul_eq_zero.1 h3 with h4 | h4 <;> omega
          · have hn : n = len.val := Nat.eq_of_mul_eq_mul_right h0 (by omega)
            refine MemOk.pure ho (key blk off n cap kk j.val (by omega)) ⟨cs, blk, off, arr, E, fz, h1, by rw [I.val_mul], g4, g5, ?_⟩
            rw [← g3]; exact g6
        · cases h
      · cases h
    · cases h
  · cases h
end Go.Eng
/- The operations on abstract values: slices, rows, strings, aggregates. -/
namespace Go.Eng
open Go Go.RowKit

def I.toS : I → S
  | .n x => .n x
  | .s x => .i64 x
def bd (x : S) (top : I) : R I :=
  match x with
  | .n x => match x, top with
    | .ofNat m, .n k => match Nat.ble m k with
      | true => some ([], .n m)
      | false => none
    | .ofNat m, .s k => some ([m ≤ k], .n m)
    | _, _ => none
  | .i64 x => some ([0 ≤ x ∧ x ≤ top.val], .s x.toNat)
  | .u8 x => some ([x.toNat ≤ top.val], .s x.toNat)
  | .u64 x => some ([x.toNat ≤ top.val], .s x.toNat)
  | _ => none
def bdO (x : Option S) (top dflt : I) : R I :=
  match x with
  | some x => bd x top
  | none => some ([], dflt)
def bds (len : I) (lo hi mx : Option S) : R (I × I) :=
  match bdO mx len len with
  | none => none
  | some (p, m) => match mx, hi with
    | some _, none => none
    | _, _ => match bdO hi m len with
      | none => none
      | some (q, h) => match bdO lo h (.n 0) with
        | none => none
        | some (r, l) => some (p ++ q ++ r, l, h)
def Vec.dropI (v : Vec) (i : I) : Vec :=
  match i with
  | .n i => v.drop i
  | .s i => v.dropS i
def vcut (v : Vec) (z : Nat) (lo hi : Option S) (l h : I) : Vec :=
  match lo, hi with
  | none, none => v
  | none, some _ => v.take (h.mul z).val
  | some _, none => v.dropI (l.mul z)
  | some _, some _ => (v.dropI (l.mul z)).take ((h.sub l).mul z).val
def scut (v : List UInt8) (lo hi : Option S) (l h : I) : List UInt8 :=
  match lo, hi with
  | none, none => v
  | none, some _ => v.take h.val
  | some _, none => v.drop l.val
  | some _, some _ => (v.drop l.val).take (h.sub l).val
def aSlice (P : Program) (T : TypeId) (x : S) (lo hi mx : Option S) (own : List Blk) : RU :=
  match P.underlying T with
  | some (.array n e) => match Nat.blt 0 (P.cellsOf e) with
    | false => none
    | true => match x with
      | .ptr k o => match getO own k with
        | none => none
        | some cs => match szL cs with
          | none => none
          | some tot => match Nat.ble (o + n * P.cellsOf e) tot with
            | false => none
            | true => match bds (.n n) lo hi mx with
              | none => none
              | some (p, l, h) => some (p, .s (.sl k o (l.mul (P.cellsOf e)) (h.sub l) (P.cellsOf e)), [])
      | .xp v i => match v, lo, hi, mx with
        | .va l, none, none, none => match tyK P e, Nat.beq (P.cellsOf e) 1 with
          | some kd, true => some ([i + n ≤ l.length, ∀ x ∈ (l.drop i).take n, kd.is x], .s (.xs 1 (.n n) (kd.decV ((l.drop i).take n))), [])
          | _, _ => none
        | _, _, _, _ => none
      | _ => none
  | some (.slice e) => match Nat.blt 0 (P.cellsOf e) with
    | false => none
    | true => match x with
      | .nil => match bds (.n 0) lo hi mx with
        | none => none
        | some (p, _, _) => some (p, .s .nil, [])
      | .sl k o i len z => match Nat.beq z (P.cellsOf e) with
        | false => none
        | true => match bds len lo hi mx with
          | none => none
          | some (p, l, h) => some (p, .s (.sl k o (i.add (l.mul z)) (h.sub l) z), [])
      | .xs z len v => match Nat.beq z (P.cellsOf e) with
        | false => none
        | true => match bds len lo hi mx with
          | none => none
          | some (p, l, h) => some (p, .s (.xs z (h.sub l) (vcut v z lo hi l h)), [])
      | _ => none
  | some .string => match x with
    | .str v => match mx with
      | some _ => none
      | none => match bds (.s v.length) lo hi none with
        | none => none
        | some (p, l, h) => some (p, .s (.str (scut v lo hi l h)), [])
    | _ => none
  | _ => none

def szI : List Ch → I
  | [] => .n 0
  | [c] => c.size
  | c :: r => c.size.add (szI r)
def srcOf0 (x : S) (own : List Blk) : R (I × List Ch) :=
  match x with
  | .nil => some ([], .n 0, [])
  | .xs z len v => some ([], len, [.vec (len.mul z) v])
  | .str l => some ([], .s l.length, [.vec (.s l.length) (.u8 l)])
  | .sl k o i len z => match getO own k with
    | none => none
    | some cs => match isM cs with
     | true => none
     | false => match i, len with
      | .n i, .n len => match rdA cs (o + i) (len * z) with
        | none => none
        | some (p, t) => some (p, .n len, t)
      | i, len => match findC cs o with
        | some (_, .vec m v, j, _) => some ([j + i.val + (len.mul z).val ≤ m.val], len, [.vec (len.mul z) (((v.drop j).dropI i).take (len.mul z).val)])
        | _ => match i, o with
          | .n 0, 0 => some ([(len.mul z).val = (szI cs).val], len, cs)
          | _, _ => none
  | _ => none
def srcZ (x : S) (z : Nat) : Bool :=
  match x with
  | .sl _ _ _ _ z' => Nat.beq z' z
  | .xs z' _ _ => Nat.beq z' z
  | .str _ => Nat.beq z 1
  | .nil => true
  | _ => false
def srcOf (x : S) (own : List Blk) (z : Nat) : R (I × List Ch) :=
  match srcZ x z with
  | true => srcOf0 x own
  | false => none
def eqI (x y : I) : R Unit :=
  match x, y with
  | .n x, .n y => match Nat.beq x y with
    | true => some ([], ())
    | false => none
  | x, y => some ([x.val = y.val], ())
def catC (cs new : List Ch) : List Ch :=
  match cs, new with
  | [], new => new
  | cs, [] => cs
  | [.vec n v], [.vec m u] => match v.app u with
    | some t => [.vec (n.add m) t]
    | none => [.vec n v, .vec m u]
  | cs, new => cs ++ new
def bytesSmall (P : Program) (e : TypeId) : Bool :=
  match P.info? e with
  | some i => Nat.blt 0 i.bytes && Nat.ble i.bytes 4096
  | none => false
def zerosOf (P : Program) (e : TypeId) (n : I) : Option (List Ch) :=
  match P.info? e with
  | none => none
  | some i => match i.zero with
    | none => none
    | some z => match zvec (P.underlying e) n.val with
      | some v => match zvec (P.underlying e) 1, Nat.beq (P.cellsOf e) 1 with
        | some v1, true => match chkVec v1 z.cells.toList with
          | some [] => some [.vec n v]
          | _ => none
        | _, _ => none
      | none => match n with
        | .n m => match zeroC P e with
          | some cs => match isSz cs (P.cellsOf e) with
            | true => some (times m cs [])
            | false => none
          | none => none
        | .s _ => none
def cnt (x : S) : R I :=
  match x with
  | .n (.ofNat m) => match Nat.ble m 4294967296 with
    | true => some ([], .n m)
    | false => none
  | .i64 x => some ([0 ≤ x ∧ x ≤ 4294967296], .s x.toNat)
  | _ => none
def zeroSz (P : Program) (e : TypeId) : Bool :=
  match P.info? e with
  | none => false
  | some i => match i.zero with
    | none => false
    | some z => Nat.beq z.cells.size (P.cellsOf e)
def aNews (P : Program) (e : TypeId) (d2 : TypeDesc) (src : S) (own : List Blk) : R (I × List Ch) :=
  match d2 with
  | .int _ => bindR (cnt src) fun n => match zerosOf P e n with
    | some cs => some ([], n, cs)
    | none => none
  | _ => srcOf src own (P.cellsOf e)
def aAppend0 (P : Program) (ts : Array TypeId) (dst src : S) (own : List Blk) (f : Nat) : RU :=
  match ts.toList with
  | [T, T2] => match P.underlying T, P.underlying T2 with
    | some (.slice e), some d2 => match Nat.blt 0 (P.cellsOf e), bytesSmall P e, zeroSz P e with
      | true, true, true => match aNews P e d2 src own with
        | none => none
        | some (p, n, new) => match dst with
          | .nil => some (p ++ [n.val ≤ 4294967296], .s (.sl f 0 (.n 0) n (P.cellsOf e)), [(f, some new)])
          | .sl k 0 (.n 0) len z => match getO own k, Nat.beq z (P.cellsOf e) with
            | some cs, true => match isM cs with
             | true => none
             | false => match eqI (len.mul z) (szI cs) with
              | none => none
              | some (q, _) => some (p ++ (q ++ [len.val + n.val ≤ 4294967296]), .s (.sl f 0 (.n 0) (len.add n) z), [(k, none), (f, some (catC cs new))])
            | _, _ => none
          | _ => none
      | _, _, _ => none
    | _, _ => none
  | _ => none
def isStr_ (P : Program) (T : TypeId) : Bool :=
  match P.underlying T with
  | some (.struct _) => true
  | _ => false
def vaPre (own : List Blk) (k : Nat) (n : I) : R U :=
  match getO own k with
  | some cs => match isM cs, encC cs with
    | false, some l => some ([n.val ≤ l.length], [(k, some [.vec n (.va (l.take n.val))])])
    | _, _ => none
  | none => none
def vaAll (own : List Blk) (k : Nat) : Option U :=
  match getO own k with
  | some [.vec _ _] => some []
  | some cs => match isM cs, encC cs with
    | false, some l => some [(k, some [.vec (szI cs) (.va l)])]
    | _, _ => some []
  | none => none
def vaDst (own : List Blk) (dst : S) : R U :=
  match dst with
  | .sl k 0 (.n 0) len z => vaPre own k (len.mul z)
  | _ => some ([], [])
def vaSrc (own : List Blk) (src : S) : Option U :=
  match src with
  | .sl k _ _ _ _ => vaAll own k
  | _ => some []
def putU (own : List Blk) (u : U) : List Blk := u.foldl (fun own x => putO own x.1 x.2) own
def aAppend (P : Program) (ts : Array TypeId) (dst src : S) (own : List Blk) (f : Nat) : RU :=
  match ts.toList with
  | [T, _] => match P.underlying T with
    | some (.slice e) => match isStr_ P e with
      | true => match vaDst own dst with
        | some (p, u) => match vaSrc (putU own u) src with
          | some u2 => match aAppend0 P ts dst src (putU (putU own u) u2) f with
            | some (q, v, u') => some (p ++ q, v, (u ++ u2) ++ u')
            | none => none
          | none => none
        | none => none
      | false => aAppend0 P ts dst src own f
    | _ => none
  | _ => none
def wrV (cs : List Ch) (o : Nat) (i : I) (u : Vec) : R (List Ch) :=
  match findC cs o with
  | some (b, .vec m v, j, a) => match v.over (j + i.val) u with
    | some v' => some ([j + i.val + u.len ≤ m.val], b ++ .vec m v' :: a)
    | none => none
  | _ => none
def aCopy (P : Program) (ts : Array TypeId) (dst src : S) (own : List Blk) : RU :=
  match ts.toList with
  | [T, _] => match P.underlying T with
    | some (.slice e) => match Nat.blt 0 (P.cellsOf e) with
      | false => none
      | true => match dst with
        | .nil => match srcOf src own (P.cellsOf e) with
          | some (p, _, _) => some (p, V.any, [])
          | none => none
        | .sl k o i len z => match getO own k, Nat.beq z (P.cellsOf e) with
          | some cs, true => match srcOf src own z with
            | none => none
            | some (p, n, new) => match i, len, n with
              | .n i, .n d, .n s => match Nat.ble s d with
                | true => match wrA cs (o + i) (s * z) new with
                  | some (q, cs') => some (p ++ q, V.any, [(k, some cs')])
                  | none => none
                | false => match new with
                  | [.vec _ u] => match wrA cs (o + i) (d * z) [.vec (.n (d * z)) (u.take (d * z))] with
                    | some (q, cs') => some (p ++ q, V.any, [(k, some cs')])
                    | none => none
                  | _ => none
              | i, len, _ => match new with
                | [.vec _ u] => match wrV cs o i (u.take (len.mul z).val) with
                  | some (q, cs') => some (p ++ q, V.any, [(k, some cs')])
                  | none => none
                | _ => none
          | _, _ => none
        | _ => none
    | _ => none
  | _ => none
def aLen (P : Program) (ts : Array TypeId) (x : S) : RU :=
  match ts[0]? with
  | none => none
  | some T => match P.underlying T with
    | some (.slice _) => match x with
      | .nil => okS (.n 0)
      | .sl _ _ _ len _ => okS len.toS
      | .xs _ len _ => okS len.toS
      | _ => none
    | some .string => match x with
      | .str l => okS (.i64 l.length)
      | _ => none
    | some (.array n _) => okS (.n n)
    | some (.pointer a) => match P.underlying a with
      | some (.array n _) => okS (.n n)
      | _ => none
    | _ => none
def aMake (P : Program) (T : TypeId) (l c : S) (f : Nat) : RU :=
  match P.underlying T with
  | some (.slice e) => match Nat.blt 0 (P.cellsOf e), bytesSmall P e with
    | true, true => match cnt l, cnt c with
      | some (p, n), some (q, m) => match eqI n m with
        | none => none
        | some (r, _) => match zerosOf P e n with
          | some cs => some (p ++ (q ++ r), .s (.sl f 0 (.n 0) n (P.cellsOf e)), [(f, some cs)])
          | none => none
      | _, _ => none
    | _, _ => none
  | _ => none
def aConv (P : Program) (src dst : TypeId) (x : S) (own : List Blk) (f : Nat) : RU :=
  match P.underlying src, P.underlying dst with
  | some _, some (.int k) => retS (convS k x)
  | some (.slice e), some .string => match P.underlying e with
    | some (.int .u8) => match srcOf x own 1 with
      | some (p, _, [.vec _ (.u8 l)]) => some (p, .s (.str l), [])
      | some (p, _, [.vec _ (.va l)]) => some (p ++ [∀ x ∈ l, x = eu8 (d8 x)], .s (.str (l.map d8)), [])
      | some (p, _, []) => some (p, .s (.str []), [])
      | _ => none
    | _ => none
  | some .string, some (.slice e) => match P.underlying e, Nat.beq (P.cellsOf e) 1, x with
    | some (.int .u8), true, .str l => some ([], .s (.sl f 0 (.n 0) (.s l.length) 1), [(f, some [.vec (.s l.length) (.u8 l)])])
    | _, _, _ => none
  | some .string, some .string => match x with
    | .str l => okS (.str l)
    | _ => none
  | some (.slice _), some (.slice e) => match P.underlying e, x with
    | some (.int .u8), .sl k o i len z => match Nat.beq src dst, getO own k with
      | true, some cs => some ([0 < len.val], .s (.sl k o i len z), [(k, some cs)])
      | _, _ => none
    | _, _ => none
  | _, _ => none
def aToPtr (P : Program) (T : TypeId) (x : S) : RU :=
  match P.underlying T with
  | some (.array n e) => match Nat.blt 0 n, Nat.blt 0 (P.cellsOf e) with
    | true, true => match x with
      | .sl k o i len z => match len with
        | .n m => match Nat.ble n m with
          | true => okS (at_ k o i)
          | false => none
        | .s m => some ([n ≤ m], .s (at_ k o i), [])
      | .xs _ len v => match len with
        | .n m => match Nat.ble n m with
          | true => okS (.xp v 0)
          | false => none
        | .s m => some ([n ≤ m], .s (.xp v 0), [])
      | _ => none
    | _, _ => none
  | _ => none
def part_ (P : Program) (T : TypeId) (cs : List Ch) (j : I) : RU :=
  match isAggB P T with
  | some true => match j with
    | .n o => retC (rdA cs o (P.cellsOf T))
    | .s o => retC (rdAI cs 0 o (P.cellsOf T))
  | some false => match j with
    | .n o => retS (rdS cs o)
    | .s o => retS (rdI cs 0 o)
  | none => none
def aIndex (P : Program) (T : TypeId) (x : V) (i : S) : RU :=
  match P.underlying T with
  | some (.array n e) => match x with
    | .w (.agg cs) => match idx (.n n) i with
      | some (p, j) => match part_ P e cs (j.mul (P.cellsOf e)) with
        | some (q, v, u) => some (p ++ q, v, u)
        | none => none
      | none => none
    | _ => none
  | some .string => match x with
    | .w (.s (.str l)) => match idx (.s l.length) i with
      | some (p, j) => some (p, .s (.u8 (l.getD j.val 0)), [])
      | none => none
    | _ => none
  | _ => none
def aFieldV (P : Program) (T : TypeId) (x : V) (fi : Nat) : RU :=
  match P.underlying T with
  | some (.struct fs) => match fs[fi]? with
    | some f => match x with
      | .w (.agg cs) => part_ P f.type cs (.n f.offset)
      | _ => none
    | none => none
  | _ => none
def aExtract (x : V) (i : Nat) : RU :=
  match x with
  | .tup l => match l[i]? with
    | some x => okV (.w x)
    | none => none
  | _ => none
def fits (cs : List Ch) (o n : Nat) : Bool :=
  match findC cs o with
  | some (_, .vec (.n m) _, i, _) => Nat.ble (i + n) m
  | _ => false
def lay (cs : List Ch) (o : Nat) (v : V) : Option (List Ch) :=
  match v with
  | .w (.s s) => match wrS cs o s with
    | some ([], cs') => some cs'
    | _ => none
  | .w (.agg new) => match szL new with
    | some n => match wrA cs o n new with
      | some ([], cs') => some cs'
      | some (_, cs') => match fits cs o n with
        | true => some cs'
        | false => none
      | _ => none
    | none => none
  | .tup _ => none
def layAll (place : Nat → Option (Nat × Nat)) : List (Nat × V) → List Ch → Option (List Ch)
  | [], cs => some cs
  | (i, v) :: r, cs => match place i with
    | none => none
    | some (o, n) => match v.chs with
      | none => none
      | some c => match isSz c n with
        | false => none
        | true => match lay cs o v with
          | none => none
          | some cs' => layAll place r cs'
noncomputable def frcL {α β : Type} (l : List α) : (List α → β) → β :=
  List.rec (motive := fun _ => (List α → β) → β) (fun k => k []) (fun x _ ih k => ih fun r => k (x :: r)) l
theorem frcL_eq {α β : Type} : ∀ (l : List α) (k : List α → β), frcL l k = k l
  | [], k => rfl
  | x :: r, k => by
    show frcL r (fun r => k (x :: r)) = _
    rw [frcL_eq r]
noncomputable def Vec.frc {β : Type} (v : Vec) (k : Vec → β) : β :=
  match v with
  | .u8 l => frcL l fun l => k (.u8 l)
  | .u16 l => frcL l fun l => k (.u16 l)
  | .u32 l => frcL l fun l => k (.u32 l)
  | .u64 l => frcL l fun l => k (.u64 l)
  | .i64 l => frcL l fun l => k (.i64 l)
  | .bo l => frcL l fun l => k (.bo l)
  | .sl l => k (.sl l)
  | .va l => k (.va l)
theorem Vec.frc_eq {β : Type} (v : Vec) (k : Vec → β) : v.frc k = k v := by cases v <;> simp [Vec.frc, frcL_eq]
noncomputable def frcC {β : Type} : List Ch → (List Ch → β) → β
  | [], k => k []
  | .vec n v :: r, k => v.frc fun v => frcC r fun r => k (.vec n v :: r)
  | c :: r, k => frcC r fun r => k (c :: r)
theorem frcC_eq {β : Type} : ∀ (l : List Ch) (k : List Ch → β), frcC l k = k l
  | [], k => rfl
  | .vec n v :: r, k => by rw [frcC, Vec.frc_eq, frcC_eq r]
  | .one s :: r, k => by rw [frcC, frcC_eq r]; intro n v h; cases h
def V.isS : V → Bool
  | .w (.s _) => true
  | _ => false
def allSc : List (Nat × V) → Bool
  | [] => true
  | (_, v) :: r => match v.isS with
    | true => allSc r
    | false => false
noncomputable def frcP {β : Type} (parts : List (Nat × V)) (l : List Ch) (k : List Ch → β) : β :=
  match allSc parts with
  | true => frcC l k
  | false => frcL l k
theorem frcP_eq {β : Type} (parts : List (Nat × V)) (l : List Ch) (k : List Ch → β) : frcP parts l k = k l := by
  unfold frcP
  split
  · exact frcC_eq _ _
  · exact frcL_eq _ _
def placeF (P : Program) (fs : Array Field) (i : Nat) : Option (Nat × Nat) :=
  match fs[i]? with
  | some f => match P.info? f.type with
    | some _ => some (f.offset, P.cellsOf f.type)
    | none => none
  | none => none
def infoAll (P : Program) : List Field → Bool
  | [] => true
  | f :: r => match P.info? f.type with
    | some _ => infoAll P r
    | none => false
noncomputable def aBuild (P : Program) (T : TypeId) (parts : List (Nat × V)) : RU :=
  match zeroC P T with
  | none => none
  | some z => match P.underlying T with
    | some (.struct fs) => match infoAll P fs.toList with
      | false => none
      | true => match layAll (placeF P fs) parts z with
        | some cs => okV (.agg cs)
        | none => none
    | some (.array _ e) => match Nat.blt 0 (P.cellsOf e) with
      | false => none
      | true => match layAll (fun i => some (i * P.cellsOf e, P.cellsOf e)) parts z with
        | some cs => frcP parts cs fun cs => okV (.agg cs)
        | none => none
    | _ => none
noncomputable def aBuildSlice (P : Program) (T : TypeId) (len : Nat) (parts : List (Nat × V)) (f : Nat) : RU :=
  match P.underlying T with
  | some (.slice e) => match Nat.blt 0 (P.cellsOf e), Nat.ble (len * P.cellsOf e) 65536 with
    | true, true => match zerosOf P e (.n len) with
      | none => none
      | some z => match layAll (fun i => some (i * P.cellsOf e, P.cellsOf e)) parts z with
        | some cs => frcP parts cs fun cs => some ([], .s (.sl f 0 (.n 0) (.n len) (P.cellsOf e)), [(f, some cs)])
        | none => none
    | _, _ => none
  | _ => none
end Go.Eng
