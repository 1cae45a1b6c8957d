/-
  What the law rests on, part 1. No condition.
-/
import Derived.Orders
import Derived.KernelRfl
import Derived.Laws.Entries
import Derived.Laws.AppendOwn
import Derived.Laws.IdiomCopy
import Derived.Laws.IdiomStrings
import Derived.MapKept
import Derived.Laws.Strings
import Derived.Laws.StructEq
import Derived.Laws.BytesString
import Derived.Lib.Overlaps
import Derived.Lib.UnsafeStr
import Derived.Maps.RangeRun
import Derived.Tactics
import Derived.OrdersHeld

namespace Go.Vc

abbrev Heap := Array Obj

/-- A cell of a heap. -/
def hcell (H : Heap) (b o : Nat) : Option Value :=
  match H[b]? with
  | some (.cells c _ _) => c[o]?
  | _ => none

def hfrozen (H : Heap) (b o : Nat) : Bool :=
  match H[b]? with
  | some (.cells _ _ (lo, hi)) => lo ≤ o && o < hi
  | _ => false

def hset (H : Heap) (b o : Nat) (v : Value) : Heap :=
  H.modify b fun
    | .cells c e f => .cells (c.setIfInBounds o v) e f
    | x => x

def hsets (H : Heap) (b o : Nat) : List Value → Heap
  | [] => H
  | v :: r => hsets (hset H b o v) b (o + 1) r

/-- A cell that is there and may be written. -/
def Cell (H : Heap) (b o : Nat) : Prop := (∃ v, hcell H b o = some v) ∧ hfrozen H b o = false

def Cells (H : Heap) (b o : Nat) : Nat → Prop
  | 0 => True
  | n + 1 => Cell H b o ∧ Cells H b (o + 1) n

def Puts (H : Heap) (b o : Nat) (vs : List Value) (H' : Heap) : Prop := H' = hsets H b o vs

/-- A new block. -/
def New (H : Heap) (b : Nat) (vs : List Value) (e : TypeId) (H' : Heap) : Prop := b = H.size ∧ H' = H.push (.cells vs.toArray e)

/-- The cells that a slice or string shows, as a list ('n' elements of 'size' cells). -/
def SRow (H : Heap) (size n : Nat) (v : Value) (xs : List Value) : Prop :=
  xs.length = n * size ∧
  match v with
  | .slice (some a) _ _ => (xs = [] ∨ a.spot = none) ∧ ∀ j u, xs[j]? = some u → hcell H a.block (a.off + j) = some u
  | .slice none _ _ => xs = []
  | .string s => xs = s.data.toList.map fun b => .int .u8 b.toNat
  | _ => False

def vlen : Value → Nat
  | .slice _ n _ => n
  | .string s => s.size
  | _ => 0

/-- What 'append' leaves. -/
def App (H : Heap) (size : Nat) (e : TypeId) (z : List Value) (a : Option Addr) (len cap : Nat) (old news : List Value) (n : Nat) (a' : Option Addr) (cap' : Nat) (H' : Heap) : Prop :=
  (len + n ≤ cap ∧ a' = a ∧ cap' = cap ∧ match a with | some ad => H' = hsets H ad.block (ad.off + len * size) news | none => H' = H) ∨
  (cap < len + n ∧ a' = some ⟨H.size, 0, none⟩ ∧ len + n ≤ cap' ∧ cap' ≤ maxLen ∧ H' = H.push (.cells (old ++ news ++ (List.replicate (cap' - (len + n)) z).flatten).toArray e))

def In64 (z : Int) : Prop := -9223372036854775808 ≤ z ∧ z ≤ 9223372036854775807

/-- Where an operand comes from. -/
inductive Src where
  | t (n : Nat)
  | c (v : Value)

/-- A value, or a Bool that is known, or one that says whether something holds. -/
inductive SV where
  | v (x : Value)
  | b (x : Bool)
  | p (φ : Prop)

noncomputable def SV.toV : SV → Value
  | .v x => x
  | .b x => .bool x
  | .p φ => .bool (@decide φ (Classical.propDecidable φ))

def SV.prop : SV → Option Prop
  | .b true => some True
  | .b false => some False
  | .p φ => some φ
  | .v (.bool x) => some (x = true)
  | .v _ => none

def branch (s : SV) (K : Bool → Prop) : Prop :=
  match s with
  | .b x => K x
  | .p φ => (φ → K true) ∧ (¬ φ → K false)
  | .v (.bool x) => (x = true → K true) ∧ (x = false → K false)
  | .v _ => False

abbrev Sym := List (Nat × SV)

def Sym.get : Sym → Nat → Option SV
  | [], _ => none
  | (i, s) :: r, t => match Nat.beq i t with | true => some s | false => Sym.get r t

def Sym.put (S : Sym) (d : Option Nat) (s : SV) : Sym :=
  match d with
  | some d => (d, s) :: S
  | none => S

def ev (S : Sym) : Src → Option SV
  | .t n => S.get n
  | .c (.bool x) => some (.b x)
  | .c x => some (.v x)

def withS (S : Sym) (x : Src) (K : SV → Prop) : Prop :=
  match ev S x with
  | some s => K s
  | none => False

def withV (S : Sym) (x : Src) (K : Value → Prop) : Prop :=
  match ev S x with
  | some s => K s.toV
  | none => False

def withI (S : Sym) (x : Src) (K : IntKind → Int → Prop) : Prop :=
  match ev S x with
  | some (.v (.int k n)) => K k n
  | _ => False

def withB (S : Sym) (x : Src) (K : Prop → Prop) : Prop :=
  match ev S x with
  | some s => match s.prop with | some φ => K φ | none => False
  | none => False

def withVs (S : Sym) : List Src → (List Value → Prop) → Prop
  | [], K => K []
  | x :: r, K => withV S x fun v => withVs S r fun vs => K (v :: vs)

/-! ### Operations without a heap -/

inductive POp where
  | mov (x : Src)
  | pick (c a b : Src)
  | bin (op : BinOp) (x y : Src)
  | beq (neg : Bool) (x y : Src)
  | peq (neg k : Bool) (x y : Src)
  | leq (neg : Bool) (x y : Src)
  | not (x : Src)
  | neg (x : Src)
  | nilchk (x : Src)
  | faddr (x : Src) (off : Nat)
  | iaddr (size : Nat) (x i : Src)
  | aaddr (len size : Nat) (x i : Src)
  | fld (off : Nat) (agg : Option Nat) (x : Src)
  | idxs (x i : Src)
  | ext (i : Nat) (x : Src)
  | conv (k : IntKind) (x : Src)
  | lens (x : Src)
  | caps (x : Src)
  | lent (x : Src)
  | mx (x y : Src)
  | mn (x y : Src)
  | slc (size : Nat) (x : Src) (lo hi mx : Option Src)
  | slct (x : Src) (lo hi : Option Src)
  | build (z : List Value) (parts : List (Nat × Nat × Src))
  | mkfn (fn : Fn) (first cap : List Src)
  | mkif (t : TypeId) (x : Src)
  | aeq (neg : Bool) (offs : List (Nat × Nat)) (x y : Src)
  | ifn (neg : Bool) (x : Src)
  | fbin (op : BinOp) (x y : Src)
  | fmn (x y : Src)
  | i2f (x : Src)
  | f2i (x : Src)
  | f2f (x : Src)
  | bnot (x : Src)
  | idxi (len : Nat) (x i : Src)
  | idxt (len : Nat) (x i : Src)
  | fbits (x : Src)
  | ffrom (x : Src)
  | floor (x : Src)
  | slca (n size : Nat) (x : Src) (lo hi : Option Src)
  | ife (neg : Bool) (ok : List Nat) (x y : Src)

/-! Numbers of the kind float64, by their words. -/
def FEq (a b : Nat) : Prop := Ieee.double.order a b = some .eq
def FLt (a b : Nat) : Prop := Ieee.double.order a b = some .lt
def FGt (a b : Nat) : Prop := Ieee.double.order a b = some .gt
def FNan (a : Nat) : Prop := (Ieee.double.read a).isNaN = true
def fMin (a b : Nat) : Nat := if Ieee.double.order a b = some .lt then a else if Ieee.double.order a b = some .gt then b else if (Ieee.double.read a).neg then a else b

def binF (op : BinOp) (a b : Nat) (K : SV → Prop) : Prop :=
  match op with
  | .eql => K (.p (FEq a b))
  | .neq => K (.p (¬ FEq a b))
  | .lss => K (.p (FLt a b))
  | .leq => K (.p (FLt a b ∨ FEq a b))
  | .gtr => K (.p (FGt a b))
  | .geq => K (.p (FGt a b ∨ FEq a b))
  | .add => ∃ r, Ieee.double.add a b = some r ∧ K (.v (.float .f64 r))
  | .sub => ∃ r, Ieee.double.sub a b = some r ∧ K (.v (.float .f64 r))
  | .mul => ∃ r, Ieee.double.mul a b = some r ∧ K (.v (.float .f64 r))
  | .quo => ∃ r, Ieee.double.div a b = some r ∧ K (.v (.float .f64 r))
  | _ => False

/-- All of these are whole numbers of the kind int. -/
def intsL : List Value → Option (List Int)
  | [] => some []
  | v :: r => match v with
    | .int .i64 n => match intsL r with
      | some l => some (n :: l)
      | none => none
    | _ => none

/-- All of these are strings. -/
def strsL : List Value → Option (List ByteArray)
  | [] => some []
  | v :: r => match v with
    | .string n => match strsL r with
      | some l => some (n :: l)
      | none => none
    | _ => none

def withF (S : Sym) (x : Src) (K : Nat → Prop) : Prop :=
  match ev S x with
  | some (.v (.float .f64 b)) => K b
  | _ => False

def arith (k : IntKind) (z : Int) (K : SV → Prop) : Prop :=
  match k with
  | .i64 => In64 z ∧ K (.v (.int .i64 z))
  | k => ∀ q, q = k.wrap z → K (.v (.int k q))

def binI (op : BinOp) (k k' : IntKind) (a b : Int) (K : SV → Prop) : Prop :=
  match op with
  | .shl => 0 ≤ b ∧ ∀ q, q = k.wrap (a * 2 ^ (min b.toNat k.bits)) → K (.v (.int k q))
  | .shr => 0 ≤ b ∧ ∀ q, q = a.fdiv (2 ^ (min b.toNat k.bits)) → K (.v (.int k q))
  | op => match decide (k = k') with
    | false => False
    | true => match op with
      | .add => arith k (a + b) K
      | .sub => arith k (a - b) K
      | .mul => arith k (a * b) K
      | .quo => b ≠ 0 ∧ ∀ q, q = k.wrap (a.tdiv b) → K (.v (.int k q))
      | .rem => b ≠ 0 ∧ ∀ q, q = a.tmod b → K (.v (.int k q))
      | .and => ∀ q, q = bits .and k a b → K (.v (.int k q))
      | .or => ∀ q, q = bits .or k a b → K (.v (.int k q))
      | .xor => ∀ q, q = bits .xor k a b → K (.v (.int k q))
      | .andNot => ∀ q, q = bits .andNot k a b → K (.v (.int k q))
      | .eql => K (.p (a = b))
      | .neq => K (.p (a ≠ b))
      | .lss => K (.p (a < b))
      | .leq => K (.p (a ≤ b))
      | .gtr => K (.p (b < a))
      | .geq => K (.p (b ≤ a))
      | _ => False

def binT (op : BinOp) (a b : ByteArray) (K : SV → Prop) : Prop :=
  match op with
  | .add => In64 ((a.size + b.size : Nat) : Int) ∧ K (.v (.string (a ++ b)))
  | .eql => K (.p (a = b))
  | .neq => K (.p (a ≠ b))
  | .lss => K (.p (Op.bytesLess a.toList b.toList = true))
  | .leq => K (.p (Op.bytesLess a.toList b.toList = true ∨ a = b))
  | .gtr => K (.p (¬ (Op.bytesLess a.toList b.toList = true ∨ a = b)))
  | .geq => K (.p (¬ Op.bytesLess a.toList b.toList = true))
  | _ => False

def oneIf (neg : Bool) (φ : Prop) : Prop := match neg with | true => ¬ φ | false => φ

def placed (cells : List Value) (off : Nat) : List Value → List Value
  | [] => cells
  | v :: r => placed (cells.set off v) (off + 1) r

/-- The one cell of a value. -/
def oneV (v : Value) (K : Value → Prop) : Prop :=
  match v with
  | .agg cs => match cs.toList with | [u] => K u | _ => False
  | .tuple _ => False
  | v => K v

def fillV (v : Value) (size : Nat) (K : List Value → Prop) : Prop :=
  match Nat.beq size 1 with
  | true => oneV v fun u => K [u]
  | false => match Nat.beq v.cells.toList.length size with | true => K v.cells.toList | false => False

def filled (S : Sym) (K : List Value → Prop) : List (Nat × Nat × Src) → List Value → Prop
  | [], cells => K cells
  | (off, size, x) :: r, cells => withV S x fun v => fillV v size fun vs => match Nat.ble (off + size) cells.length with
    | true => filled S K r (placed cells off vs)
    | false => False

def withO (S : Sym) (x : Option Src) (K : Option (IntKind × Int) → Prop) : Prop :=
  match x with
  | none => K none
  | some x => withI S x fun k n => K (some (k, n))

def eqI (x y : Option Value) (K : Prop → Prop) : Prop :=
  match x, y with
  | some (.int k a), some (.int k' b) => match decide (k = k') with | true => K (a = b) | false => False
  | _, _ => False

def eqB (x y : Option Value) (K : Prop → Prop) : Prop :=
  match x, y with
  | some (.bool a), some (.bool b) => K (a = b)
  | _, _ => False

def eqT (x y : Option Value) (K : Prop → Prop) : Prop :=
  match x, y with
  | some (.string a), some (.string b) => K (a = b)
  | _, _ => False

/-- Two parts are the same (tag 0: numbers, 1: Bools, 2: strings). -/
def eq1 (tag : Nat) (x y : Option Value) (K : Prop → Prop) : Prop :=
  match tag with
  | 0 => eqI x y K
  | 1 => eqB x y K
  | 2 => eqT x y K
  | _ => False

def eqL (xs ys : List Value) : List (Nat × Nat) → (Prop → Prop) → Prop
  | [], K => K True
  | (o, g) :: r, K => eq1 g xs[o]? ys[o]? fun φ => match r with
    | [] => K φ
    | _ => eqL xs ys r fun ψ => K (φ ∧ ψ)

/-- The word that all sums of a walk are told with their wrap. -/
def wideKey : Nat := 4294967295

def binW (op : BinOp) (k k' : IntKind) (a b : Int) (K : SV → Prop) : Prop :=
  match op with
  | .add => match decide (k = k') with
    | true => ∀ q, q = k.wrap (a + b) → K (.v (.int k q))
    | false => False
  | .sub => match decide (k = k') with
    | true => ∀ q, q = k.wrap (a - b) → K (.v (.int k q))
    | false => False
  | .mul => match decide (k = k') with
    | true => ∀ q, q = k.wrap (a * b) → K (.v (.int k q))
    | false => False
  | op => binI op k k' a b K

/-- A place that is known. -/
def withA (a : Option Addr) (K : Nat → Nat → Prop) : Prop :=
  match a with
  | some ⟨b, o, none⟩ => K b o
  | _ => False

def psem (p : POp) (S : Sym) (K : SV → Prop) : Prop :=
  match p with
  | .mov x => withS S x K
  | .pick c a b => withS S c fun s => branch s fun x => match x with | true => withS S a K | false => withS S b K
  | .bin op x y => match ev S x, ev S y with
    | some (.v (.int k a)), some (.v (.int k' b)) => match S.get wideKey with
      | some _ => binW op k k' a b K
      | none => binI op k k' a b K
    | some (.v (.string a)), some (.v (.string b)) => binT op a b K
    | _, _ => False
  | .beq n x y => withB S x fun φ => withB S y fun ψ => K (.p (oneIf n (φ ↔ ψ)))
  | .peq n k x y => match ev S x, ev S y with
    | some (.v (.pointer a)), some (.v (.pointer none)) => K (.p (oneIf n (a = none)))
    | some (.v (.pointer none)), some (.v (.pointer a)) => K (.p (oneIf n (a = none)))
    | some (.v (.pointer (some a))), some (.v (.pointer (some b))) => k = true ∧ a = b ∧ K (.p (oneIf n True))
    | _, _ => False
  | .leq n x y => match ev S x, ev S y with
    | some (.v (.slice a _ _)), some (.v (.slice none _ _)) => K (.p (oneIf n (a = none)))
    | _, _ => False
  | .not x => match ev S x with
    | some (.b x) => K (.b (!x))
    | some (.p φ) => K (.p (¬ φ))
    | some (.v (.bool x)) => K (.p (x = false))
    | _ => False
  | .neg x => withI S x fun k n => arith k (0 - n) K
  | .nilchk x => match ev S x with
    | some (.v (.pointer a)) => ∃ b o, a = some ⟨b, o, none⟩ ∧ K (.v (.pointer (some ⟨b, o, none⟩)))
    | some (.v (.func (.func f) x y)) => K (.v (.func (.func f) x y))
    | _ => False
  | .faddr x off => match ev S x with
    | some (.v (.pointer a)) => withA a fun b o => K (.v (.pointer (some ⟨b, (match off with | 0 => o | n + 1 => o + (n + 1)), none⟩)))
    | _ => False
  | .iaddr size x i => match ev S x with
    | some (.v (.slice a len _)) => withI S i fun _ n => 0 ≤ n ∧ n < len ∧ ∃ b o, a = some ⟨b, o, none⟩ ∧ K (.v (.pointer (some ⟨b, (match size with | 1 => o + n.toNat | s => o + n.toNat * s), none⟩)))
    | _ => False
  | .aaddr len size x i => match ev S x with
    | some (.v (.pointer (some ⟨b, o, none⟩))) => withI S i fun _ n => 0 ≤ n ∧ n < len ∧ K (.v (.pointer (some ⟨b, (match size with | 1 => o + n.toNat | s => o + n.toNat * s), none⟩)))
    | _ => False
  | .fld off agg x => match ev S x with
    | some (.v (.agg cs)) => match agg with
      | some n => K (.v (.agg ((cs.toList.drop off).take n).toArray))
      | none => match cs.toList[off]? with
        | some v => K (.v v)
        | none => False
    | _ => False
  | .idxs x i => match ev S x with
    | some (.v (.string s)) => withI S i fun _ n => 0 ≤ n ∧ n < s.size ∧ ∀ q, q = ((s.data.toList.getD n.toNat 0).toNat : Int) → K (.v (.int .u8 q))
    | _ => False
  | .ext i x => match ev S x with
    | some (.v (.tuple vs)) => match vs.toList[i]? with
      | some v => K (.v v)
      | none => False
    | _ => False
  | .conv k x => withI S x fun k0 n => match k with
    | .i64 => match k0 with
      | .u64 => ∀ q, q = IntKind.i64.wrap n → K (.v (.int .i64 q))
      | _ => In64 n ∧ K (.v (.int .i64 n))
    | k => ∀ q, q = k.wrap n → K (.v (.int k q))
  | .lens x => match ev S x with
    | some (.v (.slice _ n _)) => K (.v (.int .i64 n))
    | _ => False
  | .caps x => match ev S x with
    | some (.v (.slice _ _ n)) => K (.v (.int .i64 n))
    | _ => False
  | .lent x => match ev S x with
    | some (.v (.string s)) => K (.v (.int .i64 s.size))
    | _ => False
  | .mx x y => withI S x fun k a => withI S y fun _ b => K (.v (.int k (max a b)))
  | .mn x y => withI S x fun k a => withI S y fun _ b => K (.v (.int k (min a b)))
  | .slc size x lo hi m => match ev S x with
    | some (.v (.slice a len cap)) => withO S m fun m => withO S hi fun hi => withO S lo fun lo =>
      match m, hi, lo with
      | none, none, none => K (.v (.slice a len cap))
      | none, some (_, h), none => 0 ≤ h ∧ h ≤ cap ∧ K (.v (.slice a h.toNat cap))
      | none, none, some (_, l) => 0 ≤ l ∧ l ≤ len ∧ ∀ a', a' = (if cap = l.toNat then a else a.map (·.add (l.toNat * size))) → K (.v (.slice a' (len - l.toNat) (cap - l.toNat)))
      | none, some (_, h), some (_, l) => 0 ≤ l ∧ l ≤ h ∧ h ≤ cap ∧ ∀ a', a' = (if cap = l.toNat then a else a.map (·.add (l.toNat * size))) → K (.v (.slice a' (h.toNat - l.toNat) (cap - l.toNat)))
      | some (_, m), some (_, h), none => 0 ≤ h ∧ h ≤ m ∧ m ≤ cap ∧ K (.v (.slice a h.toNat m.toNat))
      | some (_, m), some (_, h), some (_, l) => 0 ≤ l ∧ l ≤ h ∧ h ≤ m ∧ m ≤ cap ∧ ∀ a', a' = (if m.toNat = l.toNat then a else a.map (·.add (l.toNat * size))) → K (.v (.slice a' (h.toNat - l.toNat) (m.toNat - l.toNat)))
      | _, _, _ => False
    | _ => False
  | .slct x lo hi => match ev S x with
    | some (.v (.string s)) => withO S hi fun hi => withO S lo fun lo =>
      match hi, lo with
      | some (_, h), none => 0 ≤ h ∧ h ≤ s.size ∧ K (.v (.string (s.extract 0 h.toNat)))
      | none, some (_, l) => 0 ≤ l ∧ l ≤ s.size ∧ K (.v (.string (s.extract l.toNat s.size)))
      | some (_, h), some (_, l) => 0 ≤ l ∧ l ≤ h ∧ h ≤ s.size ∧ K (.v (.string (s.extract l.toNat h.toNat)))
      | none, none => False
    | _ => False
  | .build z parts => filled S (fun cells => K (.v (.agg cells.toArray))) parts z
  | .mkfn fn first cap => withVs S first fun a => withVs S cap fun c => K (.v (.func fn a.toArray c.toArray))
  | .mkif t x => withV S x fun v => K (.v (.iface t v))
  | .aeq n offs x y => match ev S x, ev S y with
    | some (.v (.agg xs)), some (.v (.agg ys)) => eqL xs.toList ys.toList offs fun φ => K (.p (oneIf n φ))
    | _, _ => False
  | .ifn n x => withV S x fun v => (v = .nilIface ∨ ∃ t u, v = .iface t u) ∧ K (.p (oneIf n (v = .nilIface)))
  | .fbin op x y => withF S x fun a => withF S y fun b => binF op a b K
  | .fmn x y => withF S x fun a => withF S y fun b => ¬ FNan a ∧ ¬ FNan b ∧ ∀ r, r = fMin a b → K (.v (.float .f64 r))
  | .i2f x => withI S x fun _ n => ∀ r, r = FloatKind.f64.nearest n → K (.v (.float .f64 r))
  | .f2i x => withF S x fun a => ∃ n, (Ieee.double.read a).toInt .zero = some n ∧ In64 n ∧ K (.v (.int .i64 n))
  | .bnot x => withI S x fun k n => ∀ q, q = bits .xor k (match k.signed with | true => -1 | false => k.max) n → K (.v (.int k q))
  | .idxi len x i => match ev S x with
    | some (.v (.agg cs)) => match intsL cs.toList with
      | some l => withI S i fun _ n => 0 ≤ n ∧ n < len ∧ n < (l.length : Nat) ∧ ∀ q, q = l.getD n.toNat 0 → K (.v (.int .i64 q))
      | none => False
    | _ => False
  | .idxt len x i => match ev S x with
    | some (.v (.agg cs)) => match strsL cs.toList with
      | some l => withI S i fun _ n => 0 ≤ n ∧ n < len ∧ n < (l.length : Nat) ∧ ∀ q, q = l.getD n.toNat .empty → K (.v (.string q))
      | none => False
    | _ => False
  | .f2f x => withF S x fun a => K (.v (.float .f64 a))
  | .fbits x => withF S x fun a => K (.v (.int .u64 a))
  | .ffrom x => withI S x fun k n => match k with
    | .u64 => K (.v (.float .f64 n.toNat))
    | _ => False
  | .floor x => withF S x fun a => ¬ FNan a ∧ ∀ r, r = FloatKind.f64.encode ((Ieee.double.read a).integral .down) → K (.v (.float .f64 r))

  | .slca n size x lo hi => match ev S x with
    | some (.v (.pointer (some ⟨b, o, none⟩))) => withO S hi fun hi => withO S lo fun lo =>
      match hi, lo with
      | none, none => K (.v (.slice (some ⟨b, o, none⟩) n n))
      | some (_, h), none => 0 ≤ h ∧ h ≤ n ∧ K (.v (.slice (some ⟨b, o, none⟩) h.toNat n))
      | none, some (_, l) => 0 ≤ l ∧ l ≤ n ∧ ∀ q : Nat, q = (if n = l.toNat then o else o + l.toNat * size) → K (.v (.slice (some ⟨b, q, none⟩) (n - l.toNat) (n - l.toNat)))
      | some (_, h), some (_, l) => 0 ≤ l ∧ l ≤ h ∧ h ≤ n ∧ ∀ q : Nat, q = (if n = l.toNat then o else o + l.toNat * size) → K (.v (.slice (some ⟨b, q, none⟩) (h.toNat - l.toNat) (n - l.toNat)))
    | _ => False
  | .ife n ok x y => match ev S x, ev S y with
    | some (.v (.iface t (.int k a))), some (.v (.iface t' (.int k' b))) => match ok.contains t with
      | true => match Nat.beq t t' with
        | true => match decide (k = k') with | true => K (.p (oneIf n (a = b))) | false => False
        | false => K (.b n)
      | false => False
    | _, _ => False

/-! ### Maps whose keys are of the kind int -/

/-- Block r is a map whose entries are, in order of birth, these pairs. -/
def MapIs (H : Heap) (r : Nat) (l : List (Int × Value)) : Prop :=
  ∃ es clock, H[r]? = some (.map es clock) ∧ es.toList.map (fun e => (e.key, e.val)) = l.map (fun p => (.int .i64 p.1, p.2)) ∧ MapKept.Stamped es clock

def mapGet (l : List (Int × Value)) (k : Int) (z : Value) : Value := match l with
  | [] => z
  | p :: r => if p.1 = k then p.2 else mapGet r k z

def mapHas (l : List (Int × Value)) (k : Int) : Bool := l.any fun p => p.1 == k

def mapSet (l : List (Int × Value)) (k : Int) (v : Value) : List (Int × Value) := match l with
  | [] => [(k, v)]
  | p :: r => if p.1 = k then (k, v) :: r else p :: mapSet r k v

/-- Block r is now a map with these pairs. -/
def mapDel (l : List (Int × Value)) (k : Int) : List (Int × Value) := match l with
  | [] => []
  | p :: r => if p.1 = k then r else p :: mapDel r k
/-- A map's block turned. -/
def MapPut (H : Heap) (r : Nat) (l : List (Int × Value)) (H' : Heap) : Prop :=
  ∃ es clock, es.toList.map (fun e => (e.key, e.val)) = l.map (fun p => (.int .i64 p.1, p.2)) ∧ H' = H.setIfInBounds r (.map es clock) ∧ MapKept.Stamped es clock

/-- A new map, empty. -/
def NewMap (H : Heap) (r : Nat) (H' : Heap) : Prop := r = H.size ∧ H' = H.push (.map #[] 0)

/-- Block b is a row of cells; it is marked as come of a string. -/
def IsCells (H : Heap) (b : Nat) : Prop := ∃ cs e f, H[b]? = some (.cells cs e f)
def MarkTo (H : Heap) (b : Nat) (H' : Heap) : Prop := ∃ cs e lo hi, H[b]? = some (.cells cs e (lo, hi)) ∧ H' = H.setIfInBounds b (.cells cs e (if lo == hi then (cs.size, cs.size + 1) else (min lo cs.size, max hi (cs.size + 1))))

/-- A new walk over a string's runes; where it stands; a step of it. -/
def NewIter (H : Heap) (r : Nat) (s : ByteArray) (H' : Heap) : Prop := r = H.size ∧ H' = H.push (.stringIter s 0)
def IterAt (H : Heap) (r : Nat) (s : ByteArray) (n : Nat) : Prop := H[r]? = some (.stringIter s n)
def IterPut (H : Heap) (r : Nat) (s : ByteArray) (n : Nat) (H' : Heap) : Prop := H' = H.setIfInBounds r (.stringIter s n)

/-- Where a walk over a map stands: block r walks over the map in block m, which holds the pairs l; these keys have come. -/
def MIter (H : Heap) (r m : Nat) (l : List (Int × Value)) (done : List Int) : Prop :=
  ∃ es clock seen, ∃ ds : List MapEntry, H[r]? = some (.mapIter (some m) clock seen clock) ∧ H[m]? = some (.map es clock) ∧ es.toList.map (fun e => (e.key, e.val)) = l.map (fun p => (.int .i64 p.1, p.2)) ∧ MapKept.Stamped es clock ∧
    seen.toList = ds.map (fun e => e.born) ∧ ds.map (fun e => e.key) = done.map (fun k => Value.int .i64 k) ∧ ∀ e ∈ ds, e ∈ es.toList
def NewMIter (H : Heap) (r m : Nat) (l : List (Int × Value)) (H' : Heap) : Prop := r = H.size ∧ H'.size = H.size + 1 ∧ (∀ k, k < H.size → H'[k]? = H[k]?) ∧ MIter H' r m l []
def MStep (H : Heap) (r m : Nat) (l : List (Int × Value)) (done : List Int) (k : Int) (H' : Heap) : Prop := H'.size = H.size ∧ (∀ j, j ≠ r → H'[j]? = H[j]?) ∧ MIter H' r m l (done ++ [k])

/-- A new row of a string's bytes. -/
def NewB (H : Heap) (b : Nat) (s : ByteArray) (c : Nat) (e : TypeId) (H' : Heap) : Prop :=
  b = H.size ∧ s.size ≤ c ∧ H' = H.push (.cells (bytesRow s c) e ((bytesRow s c).size, (bytesRow s c).size + 1))

/-! ### Operations that read the heap -/

inductive ROp where
  | load (z : List Value) (agg : Bool) (x : Src)
  | b2s (x : Src)
  | mget (z : Value) (x k : Src)
  | mget2 (z : Value) (x k : Src)
  | mlen (x : Src)
  | ovl (x y : Src)

/-- A scalar of the shape of 'z'. -/
def ex1 (z : Value) (K : Value → Prop) : Prop :=
  match z with
  | .int k _ => ∃ n, K (.int k n)
  | .bool _ => ∃ n, K (.bool n)
  | .string _ => ∃ s, K (.string s)
  | .float k _ => ∃ n, K (.float k n)
  | .pointer _ => ∃ a, K (.pointer a)
  | .slice _ _ _ => ∃ a n m, K (.slice a n m)
  | .map _ => ∃ r, K (.map r)
  | .nilFunc => ∃ f a b, K (.func (.func f) a b)
  | _ => ∃ v, K v

/-- The same, or whatever there is. -/
def exO (z : Option Value) (K : Value → Prop) : Prop :=
  match z with
  | some z => ex1 z K
  | none => ∃ v, K v

/-- Cells from (b, o) on, of the shapes z. 'F': what the heap must go on to say, if another heap is to give the same. -/
def exL (H : Heap) (b : Nat) : List Value → Nat → (List Value → Prop) → Prop
  | [], _, K => K []
  | z :: r, o, K => ex1 z fun v => hcell H b o = some v ∧ exL H b r (o + 1) fun vs => K (v :: vs)

/-- The cells from (b, o) on are just these. -/
def isL (H : Heap) (b : Nat) : Nat → List Value → Prop
  | _, [] => True
  | o, v :: r => hcell H b o = some v ∧ match r with | [] => True | _ => isL H b (o + 1) r

/-- Two slices in two blocks; the first is plain memory, the second's block has cells. -/
def Apart (H : Heap) (p q : Option Addr) : Prop :=
  ∃ a i b j, p = some ⟨a, i, none⟩ ∧ q = some ⟨b, j, none⟩ ∧ a ≠ b ∧ (∃ cs e f, H[a]? = some (.cells cs e f) ∧ hfrozen H a i = false ∧ hfrozen H a cs.size = false) ∧ ∃ cs e f, H[b]? = some (.cells cs e f) ∧ cs.size ≠ 0

def rsem (r : ROp) (S : Sym) (H : Heap) (K : SV → (Heap → Prop) → Prop) : Prop :=
  match r with
  | .load z agg x => match ev S x with
    | some (.v (.pointer a)) => withA a fun b o => exL H b z o fun vs => match agg, vs with
      | true, vs => K (.v (.agg vs.toArray)) fun H' => isL H' b o vs
      | false, [v] => K (.v v) fun H' => isL H' b o [v]
      | false, _ => False
    | _ => False
  | .b2s x => match ev S x with
    | some (.v (.slice a n m)) => ∃ l : List UInt8, SRow H 1 n (.slice a n m) (l.map fun b => .int .u8 b.toNat) ∧ K (.v (.string ⟨l.toArray⟩)) fun H' => SRow H' 1 n (.slice a n m) (l.map fun b => .int .u8 b.toNat)
    | _ => False

  | .mget z x k => match ev S x, ev S k with
    | some (.v (.map a)), some (.v (.int .i64 n)) => ∃ r l, a = some r ∧ MapIs H r l ∧ ex1 z fun v => v = mapGet l n z ∧ K (.v v) fun H' => MapIs H' r l
    | _, _ => False
  | .mget2 z x k => match ev S x, ev S k with
    | some (.v (.map a)), some (.v (.int .i64 n)) => ∃ r l, a = some r ∧ MapIs H r l ∧ ex1 z fun v => v = mapGet l n z ∧ K (.v (.tuple #[v, .bool (mapHas l n)])) fun H' => MapIs H' r l
    | _, _ => False
  | .mlen x => match ev S x with
    | some (.v (.map a)) => ∃ r l, a = some r ∧ MapIs H r l ∧ K (.v (.int .i64 (l.length : Int))) fun H' => MapIs H' r l
    | _ => False
  | .ovl x y => match ev S x, ev S y with
    | some (.v (.slice p _ _)), some (.v (.slice q _ _)) => Apart H p q ∧ K (.v (.bool false)) fun H' => Apart H' p q
    | _, _ => False

/-- Block b is a row of these bytes, and perhaps more, of the type e. -/
def Bytes (H : Heap) (b : Nat) (e : TypeId) (l : List UInt8) : Prop :=
  ∃ (cs : Array Value) (f : Nat × Nat), H[b]? = some (.cells cs e f) ∧ l.length ≤ cs.size ∧ ∀ (j : Nat) (x : UInt8), l[j]? = some x → cs[j]? = some (Value.int .u8 ((UInt8.toNat x : Nat) : Int))

/-- Block b may be turned; the others are not. -/
def Froz (H : Heap) (b : Nat) (H' : Heap) : Prop := H'.size = H.size ∧ ∀ k, k ≠ b → H'[k]? = H[k]?

/-! ### Operations that turn the heap -/

inductive EOp where
  | store (n : Nat) (x v : Src)
  | box (e : TypeId) (x : Src)
  | alloc (e : TypeId) (z : List Value)
  | bslice (e : TypeId) (size len : Nat) (z : List Value) (parts : List (Nat × Nat × Src))
  | mkslice (e : TypeId) (size bytes : Nat) (z : List Value) (l c : Src)
  | app (e : TypeId) (size bytes : Nat) (z : List Value) (s x : Src)
  | appz (e : TypeId) (size bytes : Nat) (z : List Value) (s x : Src)
  | s2b (e : TypeId) (x : Src)
  | copy (size : Nat) (d x : Src)
  | call (f : FuncId) (args : List Src) (z : Value)
  | callv (f : Src) (args : List Src) (z : Value)
  | mnew
  | mput (x k v : Src)
  | mdel (x k : Src)
  | clr (size : Nat) (z : List Value) (x : Src)
  | copyt (d x : Src)
  | ustr (e : TypeId) (x n : Src)
  | mark (x : Src)
  | riter (x : Src)
  | rnext (x : Src)
  | mriter (x : Src)
  | mnext (x : Src)
  | mentry (z : Option Value) (x : Src)
  | panic (x : Src)
  | stuck

structure Sim (w w' : World) : Prop where
  os : w'.os = w.os
  tape : w'.tape = w.tape
  output : w'.output = w.output

/-- THE CONTRACT OF A FUNCTION: from every world with this heap it returns, and R holds of what it returns and of the heap then. -/
def Does (P : Program) (f : FuncId) (args : List Value) (H : Heap) (R : Value → Heap → Prop) : Prop :=
  ∀ w : World, w.heap = H → Calls P f args.toArray w fun e w' => ∃ v, e = .returned v ∧ Sim w w' ∧ R v w'.heap

/-- The same, and it may panic: then X holds of what it panics with and of the heap then. -/
def DoesX (P : Program) (f : FuncId) (args : List Value) (H : Heap) (R : Value → Heap → Prop) (X : Value → Heap → Prop) : Prop :=
  ∀ w : World, w.heap = H → Calls P f args.toArray w fun e w' => (∃ v, e = .returned v ∧ Sim w w' ∧ R v w'.heap) ∨ ∃ p, e = .panicked [{ v := p, recovered := false }] ∧ Sim w w' ∧ X p w'.heap

/-- What is asked of a call. -/
abbrev CallP := FuncId → List Value → Heap → (Value → Heap → Prop) → Prop
class Fits (P : Program) (C : CallP) (X : Value → Heap → Prop) : Prop where
  fits : ∀ {f args H R}, C f args H R → DoesX P f args H R X
instance fitsDoes (P : Program) : Fits P (Does P) (fun _ _ => False) where
  fits h := fun w hw => (h w hw).mono fun _ _ h => .inl h
instance fitsDoesX (P : Program) (X : Value → Heap → Prop) : Fits P (fun f args H R => DoesX P f args H R X) X where
  fits h := h

/-- Scalars of the shapes of 'z'. -/
def exVs : List Value → (List Value → Prop) → Prop
  | [], K => K []
  | z :: r, K => ex1 z fun v => exVs r fun vs => K (v :: vs)

/-- Values of the shapes of 'z'. -/
def exTs : List Value → (List Value → Prop) → Prop
  | [], K => K []
  | z :: r, K => match z with
    | .agg cs => exVs cs.toList fun us => exTs r fun vs => K (.agg us.toArray :: vs)
    | z => ex1 z fun v => exTs r fun vs => K (v :: vs)

/-- A result of the shape of 'z'. -/
def exR (z : Value) (v : Value) (K : Value → Prop) : Prop :=
  match z with
  | .tuple zs => exTs zs.toList fun vs => v = .tuple vs.toArray ∧ K (.tuple vs.toArray)
  | .agg zs => exVs zs.toList fun vs => v = .agg vs.toArray ∧ K (.agg vs.toArray)
  | z => ex1 z fun u => v = u ∧ K u

/-- The cells of so many zero elements. -/
def mkCells (size : Nat) (z : List Value) (c : Nat) : List Value :=
  match size with
  | 1 => List.replicate c (z.headD undef)
  | _ => (List.replicate c z).flatten

/-- Function f has a body that can be entered, and Q. -/
def hasB (P : Program) (f : FuncId) (Q : Prop) : Prop :=
  match P.funcs[f]? with
  | some fn => match fn.body.isSome && !(fn.name == "runtime.NumGoroutine") with
    | true => Q
    | false => False
  | none => False

/-- 'v' fits one cell. -/
def oneP (v : Value) (K : Prop) : Prop :=
  match v with
  | .agg _ => False
  | .tuple _ => False
  | _ => K

def onesP : List Value → Prop → Prop
  | [], K => K
  | v :: r, K => oneP v (onesP r K)

/-- The cells behind a slice's length may be written. -/
def roomOf (H : Heap) (a : Option Addr) (off n : Nat) : Prop :=
  match a with
  | some ad => ad.spot = none ∧ Cells H ad.block (ad.off + off) n
  | none => True

/-- What 'copy' leaves. -/
def Copied (H : Heap) (a : Option Addr) (news : List Value) (H' : Heap) : Prop :=
  match a with
  | some ad => H' = hsets H ad.block ad.off news
  | none => H' = H

def esem (P : Program) (C : CallP) (X : Value → Heap → Prop) (e : EOp) (S : Sym) (H : Heap) (K : SV → Heap → Prop) : Prop :=
  match e with
  | .store n x v => match ev S x with
    | some (.v (.pointer a)) => withA a fun b o => withV S v fun v => match Nat.beq v.cells.toList.length n with
      | true => onesP v.cells.toList (Cells H b o n ∧ ∀ H', Puts H b o v.cells.toList H' → K (.v undef) H')
      | false => False
    | _ => False
  | .box e x => withV S x fun v => ∀ b H', New H b v.cells.toList e H' → K (.v (.pointer (some ⟨b, 0, none⟩))) H'
  | .alloc e z => ∀ b H', New H b z e H' → K (.v (.pointer (some ⟨b, 0, none⟩))) H'
  | .bslice e size len z parts => filled S (fun cells => ∀ b H', New H b cells e H' → K (.v (.slice (some ⟨b, 0, none⟩) len len)) H') parts (mkCells size z len)
  | .mkslice e size bytes z l c => withI S l fun _ l => withI S c fun _ c => 0 ≤ l ∧ l ≤ c ∧ bytes * c ≤ 281474976710656 ∧
      ∀ b H', New H b (mkCells size z c.toNat) e H' → K (.v (.slice (some ⟨b, 0, none⟩) l.toNat c.toNat)) H'
  | .app e size bytes z s x => match ev S s with
    | some (.v (.slice a len cap)) => withV S x fun x => ∃ old news, SRow H size len (.slice a len cap) old ∧ SRow H size (vlen x) x news ∧ (∀ u ∈ news, u.oneCell' = true) ∧ (len + vlen x) * bytes ≤ 140737488355328 ∧
        (len + vlen x ≤ cap → roomOf H a (len * size) (vlen x * size)) ∧
        ∀ a' cap' H', App H size e z a len cap old news (vlen x) a' cap' H' → K (.v (.slice a' (len + vlen x) cap')) H'
    | _ => False
  | .appz e size bytes z s x => match ev S s with
    | some (.v (.slice a len cap)) => withI S x fun _ n => ∃ old, SRow H size len (.slice a len cap) old ∧ 0 ≤ n ∧ (len + n.toNat) * bytes ≤ 140737488355328 ∧
        (len + n.toNat ≤ cap → onesP z (roomOf H a (len * size) (n.toNat * size))) ∧
        ∀ a' cap' H', App H size e z a len cap old (mkCells size z n.toNat) n.toNat a' cap' H' → K (.v (.slice a' (len + n.toNat) cap')) H'
    | _ => False
  | .s2b e x => match ev S x with
    | some (.v (.string s)) => ∀ c b H', NewB H b s c e H' → K (.v (.slice (some ⟨b, 0, none⟩) s.size c)) H'
    | _ => False
  | .mnew => ∀ r H', NewMap H r H' → K (.v (.map (some r))) H'
  | .mput x k v => match ev S x, ev S k with
    | some (.v (.map a)), some (.v (.int .i64 n)) => withV S v fun v => ∃ r l, a = some r ∧ MapIs H r l ∧ ∀ H', MapPut H r (mapSet l n v) H' → K (.v undef) H'
    | _, _ => False
  | .mdel x k => match ev S x, ev S k with
    | some (.v (.map a)), some (.v (.int .i64 n)) => ∃ r l, a = some r ∧ MapIs H r l ∧ ∀ H', MapPut H r (mapDel l n) H' → K (.v (.tuple #[])) H'
    | _, _ => False
  | .clr size z x => match ev S x with
    | some (.v (.slice a n _)) => onesP z (roomOf H a 0 (n * size) ∧ ∀ H', Copied H a (mkCells size z n) H' → K (.v (.tuple #[])) H')
    | _ => False
  | .copyt d x => match ev S d, ev S x with
    | some (.v (.slice a len _)), some (.v (.string s)) => roomOf H a 0 (min s.size len) ∧
        ∀ H', Copied H a ((s.extract 0 (min s.size len)).data.toList.map fun b => .int .u8 b.toNat) H' → K (.v (.int .i64 (min s.size len : Nat))) H'
    | _, _ => False
  | .ustr e x n => match ev S x with
    | some (.v (.pointer (some ⟨b, o, none⟩))) => withI S n fun _ n => ∃ l : List UInt8, l ≠ [] ∧ o = 0 ∧ n = l.length ∧ In64 n ∧ Bytes H b e l ∧ ∀ H', Froz H b H' → K (.v (.string ⟨l.toArray⟩)) H'
    | _ => False
  | .stuck => False
  | .mark x => match ev S x with
    | some (.v (.slice a n c)) => ∃ b o, a = some ⟨b, o, none⟩ ∧ IsCells H b ∧ ∀ H', MarkTo H b H' → K (.v (.slice a n c)) H'
    | _ => False
  | .riter x => match ev S x with
    | some (.v (.string s)) => ∀ r H', NewIter H r s H' → K (.v (.pointer (some ⟨r, 0, none⟩))) H'
    | _ => False
  | .rnext x => match ev S x with
    | some (.v (.pointer (some ⟨r, 0, none⟩))) => ∃ s pos, IterAt H r s pos ∧ (pos < s.size → ∀ q H', q = ((Utf8.decode s pos).1 : Int) → IterPut H r s (pos + (Utf8.decode s pos).2) H' → K (.v (.tuple #[.bool true, .int .i64 pos, .int .i32 q])) H') ∧ (¬ pos < s.size → K (.v (.tuple #[.bool false])) H)
    | _ => False
  | .mriter x => match ev S x with
    | some (.v (.map a)) => ∃ m l, a = some m ∧ MapIs H m l ∧ ∀ r H', NewMIter H r m l H' → K (.v (.pointer (some ⟨r, 0, none⟩))) H'
    | _ => False
  | .mnext x => match ev S x with
    | some (.v (.pointer (some ⟨r, 0, none⟩))) => ∃ m l done, MIter H r m l done ∧ (∀ k v H', (k, v) ∈ l → k ∉ done → MStep H r m l done k H' → K (.v (.tuple #[.bool true, .int .i64 k, v])) H') ∧ ((∀ p ∈ l, p.1 ∈ done) → K (.v (.tuple #[.bool false])) H)
    | _ => False
  | .mentry z x => match ev S x with
    | some (.v (.pointer (some ⟨r, 0, none⟩))) => ∃ m l done k, MIter H r m l (done ++ [k]) ∧ exO z fun v => (k, v) ∈ l ∧ K (.v (.tuple #[.int .i64 k, v])) H
    | _ => False
  | .panic x => match ev S x with
    | some (.v (.iface t v)) => X (.iface t v) H
    | _ => False
  | .copy size d x => match ev S d, ev S x with
    | some (.v (.slice a len _)), some (.v (.slice p l c)) => ∃ news, SRow H size (min l len) (.slice p l c) news ∧ (∀ u ∈ news, u.oneCell' = true) ∧ roomOf H a 0 (min l len * size) ∧
        ∀ H', Copied H a news H' → K (.v (.int .i64 (min l len : Nat))) H'
    | _, _ => False
  | .call f args z => withVs S args fun args => C f args H fun v H' => exR z v fun v => K (.v v) H'
  | .callv x args z => match ev S x with
    | some (.v (.func (.func f) first cap)) => hasB P f (withVs S args fun args => C f (first.toList ++ args ++ cap.toList) H fun v H' => exR z v fun v => K (.v v) H')
    | _ => False

end Go.Vc

namespace Go.Vc

def src : Operand → Src
  | .tmp t => .t t
  | .const v => .c v
  | .global g => .c (.pointer (some ⟨g, 0, none⟩))
  | .func f => .c (.func (.func f) #[] #[])

def isAggT (P : Program) (t : TypeId) : Bool :=
  match P.underlying t with
  | some (.struct _) | some (.array _ _) => true
  | _ => false

def zeroOf (P : Program) (t : TypeId) : Option Value := (P.info? t).bind (·.zero)

def scalarT (P : Program) (t : TypeId) : Bool := (P.underlying t).isSome && !isAggT P t

def compParts (P : Program) (fs : Array Field) (parts : List (Nat × Operand)) : Option (List (Nat × Nat × Src)) :=
  match parts with
  | [] => some []
  | (i, x) :: r => match fs[i]? with
    | some f => match P.info? f.type with
      | some _ => (compParts P fs r).map ((f.offset, P.cellsOf f.type, src x) :: ·)
      | none => none
    | none => none

def compParts' (size : Nat) (parts : List (Nat × Operand)) : List (Nat × Nat × Src) := parts.map fun (i, x) => (i * size, size, src x)

/-- All fields' types are there. -/
def allInfo (P : Program) (fs : Array Field) : Bool := fs.toList.all fun f => (P.info? f.type).isSome

def tagOf (P : Program) (t : TypeId) : Nat :=
  match P.underlying t with
  | some (.int _) => 0
  | some .bool => 1
  | some .string => 2
  | _ => 3

def fieldTag (P : Program) (f : Field) : Nat × Nat := (f.offset, tagOf P f.type)

/-- Fields that can be compared one by one. -/
def plainFields (fs : List Field) : Bool := fs.all fun f => !(f.name == "_")

/-- Functions of floats without a body. -/
def compX (P : Program) (f : FuncId) (as : List Operand) : Option POp :=
  match P.funcs[f]? with
  | some fn => match fn.body with
    | some _ => none
    | none => match as, fn.origin == "" with
      | [x], true => match fn.name == "math.Float64bits" with
        | true => some (.fbits (src x))
        | false => match fn.name == "math.Float64frombits" with
          | true => some (.ffrom (src x))
          | false => match fn.name == "math.archFloor" with
            | true => some (.floor (src x))
            | false => none
      | _, _ => none
  | none => none

def intType (P : Program) (t : TypeId) : Bool :=
  match P.underlying t, P.info? t with
  | some (.int _), some i => i.comparable
  | _, _ => false

def intTypes (P : Program) : List Nat := (List.range P.types.size).filter (intType P)

def compP (P : Program) (o : Op) : Option POp :=
  match o with
  | .move x | .assign x => some (.mov (src x))
  | .pick c a b => some (.pick (src c) (src a) (src b))
  | .binOp op t x y _ => match P.underlying t with
    | some (.int _) | some .string => some (.bin op (src x) (src y))
    | some (.float .f64) => some (.fbin op (src x) (src y))
    | some .bool => match op with
      | .eql => some (.beq false (src x) (src y))
      | .neq => some (.beq true (src x) (src y))
      | _ => none
    | some (.pointer e) => match op with
      | .eql => some (.peq false (P.info? e).isSome (src x) (src y))
      | .neq => some (.peq true (P.info? e).isSome (src x) (src y))
      | _ => none
    | some (.slice _) => match op with
      | .eql => some (.leq false (src x) (src y))
      | .neq => some (.leq true (src x) (src y))
      | _ => none
    | some (.interface _) => match y with
      | .const .nilIface => match op with
        | .eql => some (.ifn false (src x))
        | .neq => some (.ifn true (src x))
        | _ => none
      | _ => match op with
        | .eql => some (.ife false (intTypes P) (src x) (src y))
        | .neq => some (.ife true (intTypes P) (src x) (src y))
        | _ => none
    | some (.struct fs) => match plainFields fs.toList && !P.eqGuardType P.depth t && !P.stoodInHeld t with
      | true => match op with
        | .eql => some (.aeq false (fs.toList.map (fieldTag P)) (src x) (src y))
        | .neq => some (.aeq true (fs.toList.map (fieldTag P)) (src x) (src y))
        | _ => none
      | false => none
    | _ => none
  | .unOp op _ x => match op with
    | .not => some (.not (src x))
    | .neg => some (.neg (src x))
    | .xor => some (.bnot (src x))
    | _ => none
  | .nilCheck x => some (.nilchk (src x))
  | .fieldAddr t x f => match P.underlying t with
    | some (.struct fs) => match fs[f]? with
      | some fd => match (P.info? fd.type).isSome && !Nat.beq (P.cellsOf fd.type) 0 with
        | true => some (.faddr (src x) fd.offset)
        | false => none
      | none => none
    | _ => none
  | .indexAddr t x i => match P.underlying t with
    | some (.slice e) => match (P.info? e).isSome with
      | true => some (.iaddr (P.cellsOf e) (src x) (src i))
      | false => none
    | some (.array n e) => match (P.info? e).isSome with
      | true => some (.aaddr n (P.cellsOf e) (src x) (src i))
      | false => none
    | _ => none
  | .field t x f => match P.underlying t with
    | some (.struct fs) => match fs[f]? with
      | some fd => match isAggT P fd.type with
        | true => match (P.info? fd.type).isSome with
          | true => some (.fld fd.offset (some (P.cellsOf fd.type)) (src x))
          | false => none
        | false => match (P.underlying fd.type).isSome with
          | true => some (.fld fd.offset none (src x))
          | false => none
      | none => none
    | _ => none
  | .index t x i => match P.underlying t with
    | some .string => some (.idxs (src x) (src i))
    | some (.array n e) => match P.underlying e with
      | some (.int .i64) => match (P.info? e).isSome && Nat.beq (P.cellsOf e) 1 with
        | true => some (.idxi n (src x) (src i))
        | false => none
      | some .string => match (P.info? e).isSome && Nat.beq (P.cellsOf e) 1 with
        | true => some (.idxt n (src x) (src i))
        | false => none
      | _ => none
    | _ => none
  | .extract x i => some (.ext i (src x))
  | .convert s d x => match P.underlying s, P.underlying d with
    | some (.int _), some (.int k) => some (.conv k (src x))
    | some (.int _), some (.float .f64) => some (.i2f (src x))
    | some (.float .f64), some (.int .i64) => some (.f2i (src x))
    | some (.float .f64), some (.float .f64) => some (.f2f (src x))
    | _, _ => none
  | .slice t x lo hi m => match P.underlying t with
    | some (.slice e) => match (P.info? e).isSome with
      | true => some (.slc (P.cellsOf e) (src x) (lo.map src) (hi.map src) (m.map src))
      | false => none
    | some .string => match m with
      | none => some (.slct (src x) (lo.map src) (hi.map src))
      | some _ => none
    | some (.array n e) => match m with
      | none => match (P.info? e).isSome with
        | true => some (.slca n (P.cellsOf e) (src x) (lo.map src) (hi.map src))
        | false => none
      | some _ => none
    | _ => none
  | .build t parts => match P.underlying t, zeroOf P t with
    | some (.struct fs), some z => match allInfo P fs with
      | true => (compParts P fs parts.toList).map (.build z.cells.toList ·)
      | false => none
    | some (.array _ e), some z => match (P.info? e).isSome with
      | true => some (.build z.cells.toList (compParts' (P.cellsOf e) parts.toList))
      | false => none
    | _, _ => none
  | .makeFunc fn first cap => some (.mkfn fn (first.toList.map src) (cap.toList.map src))
  | .makeInterface t x => match P.underlying t with
    | some (.interface _) => none
    | some _ => some (.mkif t (src x))
    | none => none
  | .call { callee := .builtin b, args := as, argTypes := ts } => match b, as.toList, ts.toList with
    | .len, [x], [t] => match P.underlying t with
      | some (.slice _) => some (.lens (src x))
      | some .string => some (.lent (src x))
      | _ => none
    | .cap, [x], [t] => match P.underlying t with
      | some (.slice _) => some (.caps (src x))
      | _ => none
    | .max, [x, y], _ => some (.mx (src x) (src y))
    | .min, [x, y], [t, _] => match P.underlying t with
      | some (.float .f64) => some (.fmn (src x) (src y))
      | _ => some (.mn (src x) (src y))
    | _, _, _ => none
  | .call { callee := .value (.func f), args := as, argTypes := _ } => compX P f as.toList
  | _ => none

/-- slices.overlaps, at slices of a type that is there. -/
def ovlOk (P : Program) (fn : Func) : Bool :=
  match fn.body with
  | some _ => false
  | none => match fn.origin == "slices.overlaps" with
    | false => false
    | true => match fn.params.toList, fn.resultTypes.toList with
      | [t, t'], [_] => match P.underlying t with
        | some (.slice e) => Nat.beq t t' && (P.info? e).isSome && !(fn.name == "runtime.NumGoroutine") && (Extern.allGenericRows.lookup fn.name).isNone && (Extern.allTypedRows.lookup fn.name).isNone && (Extern.allRows.lookup fn.name).isNone && (Extern.allNextRows.lookup fn.name).isNone
        | _ => false
      | _, _ => false

def compR (P : Program) (o : Op) : Option ROp :=
  match o with
  | .load t x => match zeroOf P t, P.underlying t with
    | some z, some (.struct _) => match Nat.beq z.cells.toList.length (P.cellsOf t) with
      | true => some (.load z.cells.toList true (src x))
      | false => none
    | some z, some (.array _ _) => match Nat.beq z.cells.toList.length (P.cellsOf t) with
      | true => some (.load z.cells.toList true (src x))
      | false => none
    | some z, some _ => some (.load [z] false (src x))
    | _, _ => none
  | .convert s d x => match P.underlying s, P.underlying d with
    | some (.slice e), some .string => match P.underlying e with
      | some (.int .u8) => some (.b2s (src x))
      | _ => none
    | _, _ => none
  | .lookup t x k false => match P.underlying t with
    | some (.map kt e) => match P.underlying kt, zeroOf P e with
      | some (.int .i64), some z => some (.mget z (src x) (src k))
      | _, _ => none
    | _ => none
  | .lookup t x k true => match P.underlying t with
    | some (.map kt e) => match P.underlying kt, zeroOf P e with
      | some (.int .i64), some z => some (.mget2 z (src x) (src k))
      | _, _ => none
    | _ => none
  | .call { callee := .builtin .len, args := as, argTypes := ts } => match as.toList, ts.toList with
    | [x], [t] => match P.underlying t with
      | some (.map _ _) => some (.mlen (src x))
      | _ => none
    | _, _ => none
  | .call { callee := .value (.func f), args := as, argTypes := _ } => match P.funcs[f]? with
    | some fn => match ovlOk P fn, as.toList with
      | true, [x, y] => some (.ovl (src x) (src y))
      | _, _ => none
    | none => none
  | _ => none


def compApp (P : Program) (e : TypeId) (s x : Operand) : Option EOp :=
  match zeroOf P e, P.info? e with
  | some z, some i => match !Nat.beq i.bytes 0 with
    | true => some (.app e i.size i.bytes z.cells.toList (src s) (src x))
    | false => none
  | _, _ => none

def compAppz (P : Program) (e : TypeId) (s x : Operand) : Option EOp :=
  match zeroOf P e, P.info? e with
  | some z, some i => match Nat.beq i.size z.cells.toList.length && !Nat.beq i.size 0 && !Nat.beq i.bytes 0 with
    | true => some (.appz e i.size i.bytes z.cells.toList (src s) (src x))
    | false => none
  | _, _ => none

def compE0 (P : Program) (o : Op) (t : TypeId) : Option EOp :=
  match o with
  | .store t x v => match P.info? t with
    | some i => some (.store i.size (src x) (src v))
    | none => none
  | .box e x => some (.box e (src x))
  | .alloc e => match zeroOf P e with
    | some z => some (.alloc e z.cells.toList)
    | none => none
  | .buildSlice t len parts => match P.underlying t with
    | some (.slice e) => match zeroOf P e, P.info? e with
      | some z, some i => match Nat.beq i.size z.cells.toList.length && !Nat.beq i.size 0 && Nat.ble (len * i.size) 65536 with
        | true => some (.bslice e i.size len z.cells.toList (compParts' i.size parts.toList))
        | false => none
      | _, _ => none
    | _ => none
  | .makeSlice t l c => match P.underlying t with
    | some (.slice e) => match zeroOf P e, P.info? e with
      | some z, some i => match Nat.beq i.size z.cells.toList.length && !Nat.beq i.size 0 && !Nat.beq i.bytes 0 with
        | true => some (.mkslice e i.size i.bytes z.cells.toList (src l) (src c))
        | false => none
      | _, _ => none
    | _ => none
  | .call { callee := .builtin b, args := as, argTypes := ts } => match b, as.toList, ts.toList with
    | .append, [s, x], [t, t'] => match P.underlying t, P.underlying t' with
      | some (.slice e), some (.slice _) => compApp P e s x
      | some (.slice e), some .string => compApp P e s x
      | some (.slice e), some (.int .i64) => compAppz P e s x
      | _, _ => none
    | .copy, [d, x], [t, t'] => match P.underlying t, P.underlying t' with
      | some (.slice e), some (.slice _) => match P.info? e with
        | some i => some (.copy i.size (src d) (src x))
        | none => none
      | some (.slice e), some .string => match P.info? e with
        | some i => match Nat.beq i.size 1 with
          | true => some (.copyt (src d) (src x))
          | false => none
        | none => none
      | _, _ => none
    | .unsafeString, [x, n], [t, _] => match P.underlying t with
      | some (.pointer e) => match Nat.beq (P.cellsOf e) 1 with
        | true => some (.ustr e (src x) (src n))
        | false => none
      | _ => none
    | .clear, [x], [t] => match P.underlying t with
      | some (.slice e) => match zeroOf P e, P.info? e with
        | some z, some i => match Nat.beq i.size z.cells.toList.length with
          | true => some (.clr i.size z.cells.toList (src x))
          | false => none
        | _, _ => none
      | _ => none
    | .delete, [m, k], [t, _] => match P.underlying t with
      | some (.map kt _) => match P.underlying kt with
        | some (.int .i64) => some (.mdel (src m) (src k))
        | _ => none
      | _ => none
    | .panic, [x], [_] => some (.panic (src x))
    | _, _, _ => none
  | .call { callee := .value (.func f), args := as, argTypes := _ } => match P.funcs[f]?, zeroOf P t with
    | some fn, some z => match fn.body.isSome && !(fn.name == "runtime.NumGoroutine") with
      | true => some (.call f (as.toList.map src) z)
      | false => none
    | _, _ => none
  | .call { callee := .value (.tmp x), args := as, argTypes := _ } => match zeroOf P t with
    | some z => some (.callv (.t x) (as.toList.map src) z)
    | none => none
  | .convert s d x => match P.underlying s, P.underlying d with
    | some .string, some (.slice e) => match P.underlying e with
      | some (.int .u8) => some (.s2b e (src x))
      | _ => none
    | some (.slice e), some (.slice _) => match P.underlying e, Nat.beq s d with
      | some (.int .u8), true => some (.mark (src x))
      | _, _ => none
    | _, _ => none
  | .range t x => match P.underlying t with
    | some .string => some (.riter (src x))
    | some (.map kt _) => match P.underlying kt with
      | some (.int .i64) => some (.mriter (src x))
      | _ => none
    | _ => none
  | .panic x => some (.panic (src x))
  | .next x true => some (.rnext (src x))
  | .next x false => some (.mnext (src x))
  | .makeMap t none => match P.underlying t with
    | some (.map _ _) => some .mnew
    | _ => none
  | .mapUpdate t m k v => match P.underlying t with
    | some (.map kt _) => match P.underlying kt with
      | some (.int .i64) => some (.mput (src m) (src k) (src v))
      | _ => none
    | _ => none
  | _ => none

/-- What isn't served: nothing can be shown of it. (h: the shape of what a step over a map hands out.) -/
def compE (P : Program) (h : Option Value) (o : Op) (t : TypeId) : Option EOp :=
  match o with
  | .entry x => some (.mentry h (src x))
  | _ => match compE0 P o t with
    | some e => some e
    | none => some .stuck

/-- The shape of what is taken out of what comes here. -/
def hintL (P : Program) (d : Nat) : List Oper → Option Value
  | [] => none
  | q :: r => match q.op with
    | .extract (.tmp t) 1 => match Nat.beq t d with
      | true => zeroOf P q.type
      | false => hintL P d r
    | _ => hintL P d r

def hintE (P : Program) (ops : Array Oper) (o : Oper) : Option Value :=
  match o.op with
  | .entry _ => match o.dst with
    | some d => hintL P d ops.toList
    | none => none
  | _ => none

end Go.Vc

namespace Go.Vc

theorem withA_sound {a : Option Addr} {K : Nat → Nat → Prop} (h : withA a K) : ∃ b o, a = some ⟨b, o, none⟩ ∧ K b o := by
  unfold withA at h
  split at h
  · exact ⟨_, _, rfl, h⟩
  · exact h.elim


def Agree (S : Sym) (a : Act) : Prop := ∀ t s, S.get t = some s → a.tmps.getD t undef = s.toV

theorem ev_sound {S : Sym} {a : Act} (h : Agree S a) {x : Operand} {s : SV} (he : ev S (src x) = some s) : a.eval x = s.toV := by
  cases x with
  | tmp t => exact h t s he
  | const v => cases v <;> (simp only [src, ev, Option.some.injEq] at he; subst he; rfl)
  | global g => simp only [src, ev, Option.some.injEq] at he; subst he; rfl
  | func f => simp only [src, ev, Option.some.injEq] at he; subst he; rfl

theorem withS_sound {S : Sym} {a : Act} (h : Agree S a) {x : Operand} {K : SV → Prop} (hk : withS S (src x) K) : ∃ s, a.eval x = s.toV ∧ K s := by
  unfold withS at hk
  split at hk
  · rename_i s he; exact ⟨s, ev_sound h he, hk⟩
  · exact hk.elim

theorem withV_sound {S : Sym} {a : Act} (h : Agree S a) {x : Operand} {K : Value → Prop} (hk : withV S (src x) K) : K (a.eval x) := by
  unfold withV at hk
  split at hk
  · rename_i s he; rw [ev_sound h he]; exact hk
  · exact hk.elim

theorem withI_sound {S : Sym} {a : Act} (h : Agree S a) {x : Operand} {K : IntKind → Int → Prop} (hk : withI S (src x) K) : ∃ k n, a.eval x = .int k n ∧ K k n := by
  unfold withI at hk
  split at hk
  · rename_i k n he; exact ⟨k, n, ev_sound h he, hk⟩
  · exact hk.elim

theorem prop_sound {s : SV} {φ : Prop} (h : s.prop = some φ) : ∃ b, s.toV = .bool b ∧ (b = true ↔ φ) := by
  cases s with
  | v x => cases x <;> simp only [SV.prop, Option.some.injEq, reduceCtorEq] at h; subst h; exact ⟨_, rfl, Iff.rfl⟩
  | b x => cases x <;> (simp only [SV.prop, Option.some.injEq] at h; subst h; exact ⟨_, rfl, by simp⟩)
  | p ψ => simp only [SV.prop, Option.some.injEq] at h; subst h; exact ⟨_, rfl, by simp⟩

theorem withB_sound {S : Sym} {a : Act} (h : Agree S a) {x : Operand} {K : Prop → Prop} (hk : withB S (src x) K) : ∃ b φ, a.eval x = .bool b ∧ (b = true ↔ φ) ∧ K φ := by
  unfold withB at hk
  split at hk
  · rename_i s he
    split at hk
    · rename_i φ hp
      obtain ⟨b, h1, h2⟩ := prop_sound hp
      exact ⟨b, φ, (ev_sound h he).trans h1, h2, hk⟩
    · exact hk.elim
  · exact hk.elim

theorem withVs_sound {S : Sym} {a : Act} (h : Agree S a) : ∀ (xs : List Operand) {K : List Value → Prop}, withVs S (xs.map src) K → K (xs.map a.eval)
  | [], _, hk => hk
  | x :: r, K, hk => by
    have h1 := withV_sound h (x := x) (K := fun v => withVs S (r.map src) fun vs => K (v :: vs)) hk
    exact withVs_sound h r h1

theorem branch_sound {s : SV} {K : Bool → Prop} (h : branch s K) : ∃ b, s.toV = .bool b ∧ K b := by
  cases s with
  | v x =>
    cases x <;> simp only [branch] at h
    rename_i b
    cases b
    · exact ⟨false, rfl, h.2 rfl⟩
    · exact ⟨true, rfl, h.1 rfl⟩
  | b x => exact ⟨x, rfl, h⟩
  | p φ =>
    simp only [branch] at h
    by_cases hp : φ
    · exact ⟨true, by simp [SV.toV, hp], h.1 hp⟩
    · exact ⟨false, by simp [SV.toV, hp], h.2 hp⟩

theorem toV_p {φ : Prop} {b : Bool} (h : b = true ↔ φ) : (SV.p φ).toV = .bool b := by
  cases b
  · have : ¬ φ := fun hp => by simpa using h.2 hp
    simp [SV.toV, this]
  · have := h.1 rfl
    simp [SV.toV, this]

theorem arith_sound {k : IntKind} {z : Int} {K : SV → Prop} (h : arith k z K) : ∃ s, K s ∧ s.toV = .int k (k.wrap z) := by
  cases k <;> simp only [arith] at h <;> first
    | exact ⟨_, h _ rfl, rfl⟩
    | (obtain ⟨⟨h1, h2⟩, hk⟩ := h
       refine ⟨_, hk, ?_⟩
       simp only [SV.toV, IntKind.wrap, IntKind.bits, IntKind.signed]
       congr 1
       simp only [Bool.true_and, ge_iff_le, decide_eq_true_eq]
       split <;> omega)

theorem wrap_of_in64 {n : Int} (h : In64 n) : IntKind.i64.wrap n = n := by
  obtain ⟨h1, h2⟩ := h
  simp only [IntKind.wrap, IntKind.bits, IntKind.signed, Bool.true_and, ge_iff_le, decide_eq_true_eq]
  split <;> omega

section
variable {P : Program} {w : World}

theorem shift_shl_any (k yk : IntKind) (x y : Int) (h : 0 ≤ y) : Op.shift .shl k x yk y = pure (.int k (k.wrap (x * 2 ^ (min y.toNat k.bits)))) := by
  unfold Op.shift
  rw [if_neg (by omega)]
theorem shift_shr_any (k yk : IntKind) (x y : Int) (h : 0 ≤ y) : Op.shift .shr k x yk y = pure (.int k (x.fdiv (2 ^ (min y.toNat k.bits)))) := by
  unfold Op.shift
  rw [if_neg (by omega)]

theorem decide_any {p : Prop} (i j : Decidable p) : @decide p i = @decide p j := by
  congr

theorem binI_sound {op : BinOp} {k k' : IntKind} {a b : Int} {K : SV → Prop} (t : TypeId) (x y : Operand) (h : binI op k k' a b K) :
    ∃ s, K s ∧ ∀ w, (do eqGuard op t x y (.int k a) (.int k' b); binOp op t (.int k a) (.int k' b) : Sem Value).run P w = .ok s.toV w := by
  have hg : eqGuard op t x y (.int k a) (.int k' b) = pure () := eqGuard_at_int ..
  simp only [hg, pure_bind]
  by_cases hs : op = .shl
  · subst hs
    simp only [binI] at h
    refine ⟨_, h.2 _ rfl, fun w => ?_⟩
    rw [binOp_shl, shift_shl_any _ _ _ _ h.1]; rfl
  by_cases hr : op = .shr
  · subst hr
    simp only [binI] at h
    refine ⟨_, h.2 _ rfl, fun w => ?_⟩
    rw [binOp_shr, shift_shr_any _ _ _ _ h.1]; rfl
  by_cases hk : k = k'
  · subst hk
    cases op <;> simp only [binI, decide_true] at h <;> first
      | exact (hs rfl).elim
      | exact (hr rfl).elim
      | exact h.elim
      | (obtain ⟨s, h1, h2⟩ := arith_sound h
         refine ⟨s, h1, fun w => ?_⟩
         rw [h2]
         first | rw [binOp_add] | rw [binOp_sub] | rw [binOp_mul]
         simp [Op.intArith])
      | (refine ⟨_, h.2 _ rfl, fun w => ?_⟩
         first | rw [binOp_quo] | rw [binOp_rem]
         simp [Op.intDiv, h.1, SV.toV])
      | (refine ⟨_, h _ rfl, fun w => ?_⟩
         first | rw [binOp_and, intBits_and] | rw [binOp_or, intBits_or] | rw [binOp_xor, intBits_xor] | rw [binOp_andNot, intBits_andNot]
         rfl)
      | (refine ⟨_, h, fun w => ?_⟩
         first | rw [binOp_eql] | rw [binOp_neq] | rw [binOp_lss] | rw [binOp_leq] | rw [binOp_gtr] | rw [binOp_geq]
         rw [toV_p (b := _)]
         · rfl
         · simp)
  · exfalso
    cases op <;> simp_all [binI]

theorem bytes_eq_iff (a b : ByteArray) : a.toList = b.toList ↔ a = b := by
  constructor
  · intro h
    rw [ByteArray.toList_eq, ByteArray.toList_eq] at h
    cases a; cases b
    simp only [ByteArray.mk.injEq]
    exact Array.toList_inj.1 h
  · rintro rfl; rfl

theorem binT_sound {op : BinOp} {a b : ByteArray} {K : SV → Prop} (t : TypeId) (x y : Operand) (h : binT op a b K) :
    ∃ s, K s ∧ ∀ w, (do eqGuard op t x y (.string a) (.string b); binOp op t (.string a) (.string b) : Sem Value).run P w = .ok s.toV w := by
  have hg : eqGuard op t x y (.string a) (.string b) = pure () := eqGuard_at_string ..
  simp only [hg, pure_bind]
  have hb : ∀ op, (binOp op t (.string a) (.string b)) = Op.stringOp op a b := by intro op; cases op <;> rfl
  have he := bytes_eq_iff a b
  rw [hb]
  cases op <;> simp only [binT] at h <;> first
    | exact h.elim
    | (refine ⟨_, h.2, fun w => ?_⟩
       have := h.1.2
       simp only [Op.stringOp]
       rw [if_neg (by rw [IntKind.max_i64]; omega)]
       rfl)
    | (refine ⟨_, h, fun w => ?_⟩
       simp only [Op.stringOp, Sem.run_pure]
       rw [toV_p (b := _)]
       simp [he])
end
end Go.Vc

namespace Go.Vc

section
variable {P : Program}

theorem run_sizeOf {t : TypeId} (h : (P.info? t).isSome = true) (w : World) : (sizeOf t).run P w = .ok (P.cellsOf t) w := by
  obtain ⟨i, hi⟩ := Option.isSome_iff_exists.1 h
  simp [sizeOf, typeInfo, Program.cellsOf, hi]

theorem addr_add (b o n : Nat) : Addr.add ⟨b, o, none⟩ n = ⟨b, (match n with | 0 => o | n + 1 => o + (n + 1)), none⟩ := by
  cases n <;> simp [Addr.add]

/-- What a pure operation of the region must do. -/
def PSound (P : Program) (a : Act) (o : Oper) (K : SV → Prop) : Prop := ∃ s, K s ∧ ∀ w, (execOp a.eval o).run P w = .ok (.value s.toV) w

theorem psound_val {a : Act} {o : Oper} {K : SV → Prop} {x : Sem Value} (he : execOp a.eval o = (do pure (.value (← x)))) {s : SV} (hk : K s) (hx : ∀ w, x.run P w = .ok s.toV w) : PSound P a o K :=
  ⟨s, hk, fun w => by rw [he]; simp [hx w]⟩

theorem fillV_sound {v : Value} {size : Nat} {K : List Value → Prop} (h : fillV v size K) : v.cells.toList.length = size ∧ K v.cells.toList := by
  unfold fillV at h
  split at h
  · rename_i hb
    have hb := Nat.eq_of_beq_eq_true hb
    subst hb
    unfold oneV at h
    split at h
    · rename_i cs
      split at h
      · rename_i u he
        simp only [Value.cells, he]
        exact ⟨rfl, h⟩
      · exact h.elim
    · exact h.elim
    · rename_i h1 h2
      have : v.cells = #[v] := by
        cases v <;> first | rfl | exact (h1 _ rfl).elim | exact (h2 _ rfl).elim
      rw [this]
      exact ⟨rfl, h⟩
  · split at h
    · rename_i hb
      exact ⟨Nat.eq_of_beq_eq_true hb, h⟩
    · exact h.elim

theorem filled_sound {S : Sym} {a : Act} (ha : Agree S a) (fs : Array Field) (places : Array (Nat × Nat)) (hp : ∀ (i : Nat) (f : Field), fs[i]? = some f → (P.info? f.type).isSome = true → places[i]? = some (f.offset, P.cellsOf f.type)) :
    ∀ (parts : List (Nat × Operand)) (l : List (Nat × Nat × Src)) (cells : List Value) (K : List Value → Prop), compParts P fs parts = some l → filled S K l cells →
      ∃ cs, Instr.fill (places[·]?) cells.toArray (parts.map fun (i, x) => (i, a.eval x)) = some cs ∧ K cs.toList
  | [], l, cells, K, hc, hf => by
    simp only [compParts, Option.some.injEq] at hc
    subst hc
    exact ⟨cells.toArray, rfl, hf⟩
  | (i, x) :: r, l, cells, K, hc, hf => by
    simp only [compParts] at hc
    split at hc
    · rename_i f hfi
      split at hc
      · rename_i inf hinf
        cases hr : compParts P fs r with
        | none => simp [hr] at hc
        | some l' =>
          simp only [hr, Option.map_some, Option.some.injEq] at hc
          subst hc
          simp only [filled] at hf
          have h1 := withV_sound ha hf
          obtain ⟨hsz', h1⟩ := fillV_sound h1
          split at h1
          · rename_i hsz
            have hb0 := Nat.le_of_ble_eq_true hsz
            have hpl := hp i f hfi (by simp [hinf])
            have hplaced : ∀ (vs : List Value) (o : Nat) (cs : List Value), placed cs o vs = (vs.zipIdx o).foldl (fun cs (c, j) => cs.set j c) cs := by
              intro vs
              induction vs with
              | nil => intros; rfl
              | cons v vs ih => intro o cs; simp only [placed, List.zipIdx_cons, List.foldl_cons]; exact ih _ _
            obtain ⟨cs, h2, h3⟩ := filled_sound ha fs places hp r l' _ K hr h1
            refine ⟨cs, ?_, h3⟩
            simp only [List.map_cons, Instr.fill, hpl]
            rw [if_neg]
            · have e : (placed cells f.offset (a.eval x).cells.toList).toArray = (a.eval x).cells.zipIdx.foldl (fun cs (c, j) => cs.setIfInBounds (f.offset + j) c) cells.toArray := by
                rw [hplaced]
                generalize (a.eval x).cells = vs
                rw [← Array.foldl_toList, Array.toList_zipIdx]
                have : ∀ (us : List Value) (j : Nat) (cs : List Value), ((us.zipIdx (f.offset + j)).foldl (fun cs (c, j) => cs.set j c) cs).toArray = (us.zipIdx j).foldl (fun cs (c, j) => cs.setIfInBounds (f.offset + j) c) cs.toArray := by
                  intro us
                  induction us with
                  | nil => intros; rfl
                  | cons u us ih =>
                    intro j cs
                    simp only [List.zipIdx_cons, List.foldl_cons]
                    rw [Nat.add_assoc, ih]
                    simp
                exact this vs.toList 0 cells
              rw [← e]
              exact h2
            · simp only [Array.length_toList] at hsz'
              simp only [ne_eq, List.size_toArray, gt_iff_lt, Bool.or_eq_true, decide_eq_true_eq, not_or, Decidable.not_not, Nat.not_lt]
              exact ⟨hsz', by omega⟩
          · exact h1.elim
      · cases hc
    · cases hc
end
end Go.Vc

namespace Go.Vc

section
variable {P : Program} {S : Sym} {a : Act}

theorem withO_sound (h : Agree S a) {x : Option Operand} {K : Option (IntKind × Int) → Prop} (hk : withO S (x.map src) K) :
    (x = none ∧ K none) ∨ ∃ o k n, x = some o ∧ a.eval o = .int k n ∧ K (some (k, n)) := by
  cases x with
  | none => exact .inl ⟨rfl, hk⟩
  | some o =>
    obtain ⟨k, n, h1, h2⟩ := withI_sound h (x := o) (K := fun k n => K (some (k, n))) hk
    exact .inr ⟨o, k, n, rfl, h1, h2⟩

theorem ev_some {x : Operand} {s : SV} (h : Agree S a) (he : ev S (src x) = some s) : a.eval x = s.toV := ev_sound h he

theorem binW_sound {op : BinOp} {k k' : IntKind} {a b : Int} {K : SV → Prop} (t : TypeId) (x y : Operand) (h : binW op k k' a b K) :
    ∃ s, K s ∧ ∀ w, (do eqGuard op t x y (.int k a) (.int k' b); binOp op t (.int k a) (.int k' b) : Sem Value).run P w = .ok s.toV w := by
  have hg : eqGuard op t x y (.int k a) (.int k' b) = pure () := eqGuard_at_int ..
  unfold binW at h
  split at h
  · split at h
    · rename_i hk
      obtain rfl := of_decide_eq_true hk
      refine ⟨_, h _ rfl, fun w => ?_⟩
      simp only [hg, pure_bind]
      simp [binOp, SV.toV, Op.intArith]
    · exact h.elim
  · split at h
    · rename_i hk
      obtain rfl := of_decide_eq_true hk
      refine ⟨_, h _ rfl, fun w => ?_⟩
      simp only [hg, pure_bind]
      simp [binOp, SV.toV, Op.intArith]
    · exact h.elim
  · split at h
    · rename_i hk
      obtain rfl := of_decide_eq_true hk
      refine ⟨_, h _ rfl, fun w => ?_⟩
      simp only [hg, pure_bind]
      simp [binOp, SV.toV, Op.intArith]
    · exact h.elim
  · exact binI_sound t x y h

theorem bin_sound {op : BinOp} {x y : Operand} {K : SV → Prop} (t : TypeId) (ha : Agree S a) (h : psem (.bin op (src x) (src y)) S K) :
    ∃ s, K s ∧ ∀ w, (do eqGuard op t x y (a.eval x) (a.eval y); binOp op t (a.eval x) (a.eval y) : Sem Value).run P w = .ok s.toV w := by
  simp only [psem] at h
  split at h
  · rename_i k m k' m' h1 h2
    rw [ev_some ha h1, ev_some ha h2]
    split at h
    · exact binW_sound t x y h
    · exact binI_sound t x y h
  · rename_i s s' h1 h2
    rw [ev_some ha h1, ev_some ha h2]
    exact binT_sound t x y h
  · exact h.elim

theorem run_equalIn_bool (d : Nat) {t : TypeId} (ht : P.underlying t = some .bool) (x y : Bool) (w : World) : (Op.equalIn (d + 1) t (.bool x) (.bool y)).run P w = .ok (x == y) w := by
  simp [Op.equalIn, run_underlying ht]
theorem run_equalIn_ptr (d : Nat) {t e : TypeId} (ht : P.underlying t = some (.pointer e)) (x : Option Addr) (w : World) : (Op.equalIn (d + 1) t (.pointer x) (.pointer none)).run P w = .ok x.isNone w := by
  cases x <;> simp [Op.equalIn, run_underlying ht]
theorem run_equalIn_ptr' (d : Nat) {t e : TypeId} (ht : P.underlying t = some (.pointer e)) (x : Option Addr) (w : World) : (Op.equalIn (d + 1) t (.pointer none) (.pointer x)).run P w = .ok x.isNone w := by
  cases x <;> simp [Op.equalIn, run_underlying ht]
theorem run_equalIn_slice (d : Nat) {t e : TypeId} (ht : P.underlying t = some (.slice e)) (x : Option Addr) (n m n' m' : Nat) (w : World) : (Op.equalIn (d + 1) t (.slice x n m) (.slice none n' m')).run P w = .ok x.isNone w := by
  cases x <;> simp [Op.equalIn, run_underlying ht]
theorem run_equal_bool {t : TypeId} (ht : P.underlying t = some .bool) (x y : Bool) (w : World) : (Op.equal t (.bool x) (.bool y)).run P w = .ok (x == y) w := run_equalIn_bool 9999 ht x y w
theorem run_equal_ptr {t e : TypeId} (ht : P.underlying t = some (.pointer e)) (x : Option Addr) (w : World) : (Op.equal t (.pointer x) (.pointer none)).run P w = .ok x.isNone w := run_equalIn_ptr 9999 ht x w
theorem run_equal_ptr' {t e : TypeId} (ht : P.underlying t = some (.pointer e)) (x : Option Addr) (w : World) : (Op.equal t (.pointer none) (.pointer x)).run P w = .ok x.isNone w := run_equalIn_ptr' 9999 ht x w
theorem run_equalIn_same (d : Nat) {t e : TypeId} (ht : P.underlying t = some (.pointer e)) {i : TypeInfo} (hi : P.info? e = some i) (a : Addr) (w : World) : (Op.equalIn (d + 1) t (.pointer (some a)) (.pointer (some a))).run P w = .ok true w := by
  simp [Op.equalIn, run_underlying ht, sameAddr, sizeOf, typeInfo, hi]
theorem run_equal_same {t e : TypeId} (ht : P.underlying t = some (.pointer e)) {i : TypeInfo} (hi : P.info? e = some i) (a : Addr) (w : World) : (Op.equal t (.pointer (some a)) (.pointer (some a))).run P w = .ok true w := run_equalIn_same 9999 ht hi a w
theorem run_equal_slice {t e : TypeId} (ht : P.underlying t = some (.slice e)) (x : Option Addr) (n m n' m' : Nat) (w : World) : (Op.equal t (.slice x n m) (.slice none n' m')).run P w = .ok x.isNone w := run_equalIn_slice 9999 ht x n m n' m' w

theorem oneIf_bool {neg b : Bool} {φ : Prop} (h : b = true ↔ φ) : (SV.p (oneIf neg φ)).toV = .bool (if neg then !b else b) := by
  apply toV_p
  cases neg <;> simp [oneIf, ← h]

theorem psound_sliceBound {x : Value} {k : IntKind} {i : Int} {y : Nat} {c : BoundsCode} (w : World) (hx : x = .int k i) (h0 : 0 ≤ i) (h1 : i ≤ y) : (Instr.sliceBound x y c).run P w = .ok i.toNat w := by
  subst hx
  simp [Instr.sliceBound, asIntOf, h0, h1]

theorem beq_sound {op : BinOp} {n : Bool} {x y : Operand} {K : SV → Prop} {t : TypeId} (ht : P.underlying t = some .bool) (ho : op = if n then .neq else .eql) (ha : Agree S a) (h : psem (.beq n (src x) (src y)) S K) :
    ∃ s, K s ∧ ∀ w, (do eqGuard op t x y (a.eval x) (a.eval y); binOp op t (a.eval x) (a.eval y) : Sem Value).run P w = .ok s.toV w := by
  simp only [psem] at h
  obtain ⟨b, φ, h1, h2, h⟩ := withB_sound ha h
  obtain ⟨c, ψ, h3, h4, h⟩ := withB_sound ha h
  refine ⟨_, h, fun w => ?_⟩
  rw [h1, h3, eqGuard_at_bool, pure_bind, oneIf_bool (b := b == c) (by rw [beq_iff_eq, ← h2, ← h4, ← Bool.eq_iff_iff])]
  subst ho
  cases n
  · simp [binOp, run_equal_bool ht]
  · simp [binOp, run_equal_bool ht]

theorem peq_sound {op : BinOp} {n : Bool} {x y : Operand} {K : SV → Prop} {t e : TypeId} (ht : P.underlying t = some (.pointer e)) (ho : op = if n then .neq else .eql) (ha : Agree S a) (h : psem (.peq n (P.info? e).isSome (src x) (src y)) S K) :
    ∃ s, K s ∧ ∀ w, (do eqGuard op t x y (a.eval x) (a.eval y); binOp op t (a.eval x) (a.eval y) : Sem Value).run P w = .ok s.toV w := by
  simp only [psem] at h
  subst ho
  split at h
  · rename_i p h1 h2
    refine ⟨_, h, fun w => ?_⟩
    rw [oneIf_bool (b := p.isNone) (by simp), ev_some ha h1, ev_some ha h2]
    simp only [SV.toV]
    rw [eqGuard_at_pointer, pure_bind]
    cases n <;> simp [binOp, run_equal_ptr ht]
  · rename_i p hn h1 h2
    refine ⟨_, h, fun w => ?_⟩
    rw [oneIf_bool (b := p.isNone) (by simp), ev_some ha h1, ev_some ha h2]
    simp only [SV.toV]
    rw [eqGuard_at_pointer, pure_bind]
    cases n <;> simp [binOp, run_equal_ptr' ht]
  · rename_i p q h1 h2
    obtain ⟨hk, rfl, h⟩ := h
    obtain ⟨i, hi⟩ := Option.isSome_iff_exists.1 hk
    refine ⟨_, h, fun w => ?_⟩
    rw [oneIf_bool (b := true) (by simp), ev_some ha h1, ev_some ha h2]
    simp only [SV.toV]
    rw [eqGuard_at_pointer, pure_bind]
    cases n <;> simp [binOp, run_equal_same ht hi]
  · exact h.elim

theorem leq_sound {op : BinOp} {n : Bool} {x y : Operand} {K : SV → Prop} {t e : TypeId} (ht : P.underlying t = some (.slice e)) (ho : op = if n then .neq else .eql) (ha : Agree S a) (h : psem (.leq n (src x) (src y)) S K) :
    ∃ s, K s ∧ ∀ w, (do eqGuard op t x y (a.eval x) (a.eval y); binOp op t (a.eval x) (a.eval y) : Sem Value).run P w = .ok s.toV w := by
  simp only [psem] at h
  subst ho
  split at h
  · rename_i p _ _ _ _ h1 h2
    refine ⟨_, h, fun w => ?_⟩
    rw [oneIf_bool (b := p.isNone) (by simp), ev_some ha h1, ev_some ha h2]
    simp only [SV.toV]
    rw [eqGuard_at_slice, pure_bind]
    cases n <;> simp [binOp, run_equal_slice ht]
  · exact h.elim

theorem eqB_sound {x y : Option Value} {K : Prop → Prop} (h : eqB x y K) : ∃ a b, x = some (.bool a) ∧ y = some (.bool b) ∧ K (a = b) := by
  unfold eqB at h
  split at h
  · exact ⟨_, _, rfl, rfl, h⟩
  · exact h.elim
theorem eqT_sound {x y : Option Value} {K : Prop → Prop} (h : eqT x y K) : ∃ a b, x = some (.string a) ∧ y = some (.string b) ∧ K (a = b) := by
  unfold eqT at h
  split at h
  · exact ⟨_, _, rfl, rfl, h⟩
  · exact h.elim
theorem eqI_sound {x y : Option Value} {K : Prop → Prop} (h : eqI x y K) : ∃ k a b, x = some (.int k a) ∧ y = some (.int k b) ∧ K (a = b) := by
  unfold eqI at h
  split at h
  · split at h
    · rename_i hk
      obtain rfl := of_decide_eq_true hk
      exact ⟨_, _, _, rfl, rfl, h⟩
    · exact h.elim
  · exact h.elim

theorem eq1_sound {t : TypeId} {x y : Option Value} {K : Prop → Prop} (h : eq1 (tagOf P t) x y K) : ∃ (a b : Value) (φ : Prop) (c : Bool), x = some a ∧ y = some b ∧ K φ ∧ (c = true ↔ φ) ∧ scalarT P t = true ∧
    ∀ (d : Nat) (w : World), (Op.equalIn (d + 1) t a b).run P w = .ok c w := by
  unfold tagOf at h
  split at h
  · rename_i ki ht
    obtain ⟨k, a, b, h1, h2, h3⟩ := eqI_sound h
    exact ⟨_, _, _, (a == b), h1, h2, h3, by simp, by simp [scalarT, isAggT, ht], fun d w => run_equalIn_int w d t k _ a b ht⟩
  · rename_i ht
    obtain ⟨a, b, h1, h2, h3⟩ := eqB_sound h
    exact ⟨_, _, _, (a == b), h1, h2, h3, by simp, by simp [scalarT, isAggT, ht], fun d w => run_equalIn_bool' w d t a b ht⟩
  · rename_i ht
    obtain ⟨a, b, h1, h2, h3⟩ := eqT_sound h
    exact ⟨_, _, _, (a.toList == b.toList), h1, h2, h3, by rw [beq_iff_eq]; exact bytes_eq_iff a b, by simp [scalarT, isAggT, ht], fun d w => run_equalIn_string w d t a b ht⟩
  · exact h.elim

theorem run_part_scalar {t : TypeId} (h : scalarT P t = true) {cs : Array Value} {off : Nat} {v : Value} (hv : cs[off]? = some v) (w : World) : (part t cs off).run P w = .ok v w := by
  have hag : (isAgg t).run P w = .ok false w := by
    unfold scalarT isAggT at h
    cases hu : P.underlying t with
    | none => simp [hu] at h
    | some d => cases d <;> first | (simp [hu] at h; done) | (simp [isAgg, run_underlying hu]; done)
  simp [part, hag, hv]

theorem eqL_sound {xs ys : Array Value} (d : Nat) : ∀ {fs : List Field} {K : Prop → Prop}, plainFields fs = true → eqL xs.toList ys.toList (fs.map (fieldTag P)) K →
    ∃ φ c, K φ ∧ (c = true ↔ φ) ∧ ∀ w, (Op.eqFields (d + 1) xs ys fs).run P w = .ok c w
  | [], K, _, h => ⟨_, true, h, by simp, fun w => by simp [Op.eqFields]⟩
  | f :: r, K, hp, h => by
    simp only [plainFields, List.all_cons, Bool.and_eq_true] at hp
    have hne : f.name ≠ "_" := by simpa using hp.1
    simp only [List.map_cons, eqL, fieldTag] at h
    obtain ⟨a, b, φ, c, hx, hy, hk, hc, hs, hr⟩ := eq1_sound (P := P) h
    have hx' : xs[f.offset]? = some a := by simpa using hx
    have hy' : ys[f.offset]? = some b := by simpa using hy
    have step : ∀ w, (Op.eqFields (d + 1) xs ys (f :: r)).run P w = if c = false then .ok false w else (Op.eqFields (d + 1) xs ys r).run P w := by
      intro w
      simp only [Op.eqFields, hne, ne_eq, not_false_eq_true, if_true, Sem.run_bind, run_part_scalar hs hx', run_part_scalar hs hy', Result.andThen_ok, hr d w]
      cases c <;> simp
    cases r with
    | nil =>
      simp only [List.map_nil] at hk
      refine ⟨φ, c, hk, hc, fun w => ?_⟩
      rw [step]
      cases c <;> simp [Op.eqFields]
    | cons g r' =>
      simp only [List.map_cons] at hk
      obtain ⟨ψ, c', hk', hc', hr'⟩ := eqL_sound d (fs := g :: r') hp.2 hk
      refine ⟨_, c && c', hk', by rw [Bool.and_eq_true, hc, hc'], fun w => ?_⟩
      rw [step, hr']
      cases c <;> simp

theorem aeq_sound {op : BinOp} {n : Bool} {x y : Operand} {K : SV → Prop} {t : TypeId} {fs : Array Field} (ht : P.underlying t = some (.struct fs)) (hpl : plainFields fs.toList = true) (hg : P.eqGuardType P.depth t = false) (hst : P.stoodInHeld t = false)
    (ho : op = if n then .neq else .eql) (ha : Agree S a) (h : psem (.aeq n (fs.toList.map (fieldTag P)) (src x) (src y)) S K) :
    ∃ s, K s ∧ ∀ w, (do eqGuard op t x y (a.eval x) (a.eval y); binOp op t (a.eval x) (a.eval y) : Sem Value).run P w = .ok s.toV w := by
  simp only [psem] at h
  subst ho
  split at h
  · rename_i xs ys h1 h2
    obtain ⟨φ, c, hk, hc, hr⟩ := eqL_sound (P := P) 9998 hpl h
    refine ⟨_, hk, fun w => ?_⟩
    rw [oneIf_bool hc, ev_some ha h1, ev_some ha h2]
    have hfs : P.fieldsOf t = fs := by simp [Program.fieldsOf, ht]
    have he := run_equalIn_struct (P := P) w 9999 t xs ys (by rw [hfs]; exact ht) hst
    rw [hfs, hr] at he
    simp only [SV.toV, Sem.run_bind, run_eqGuard_agg w _ t x y xs ys hg, Result.andThen_ok]
    cases n
    · simp only [Bool.false_eq_true, if_false]
      rw [run_eql_struct, he]
      rfl
    · simp only [if_true]
      rw [run_neq_struct, he]
      rfl
  · exact h.elim

theorem not_sound {x : Operand} {K : SV → Prop} (ha : Agree S a) (h : psem (.not (src x)) S K) : ∃ s, K s ∧ ∀ w, (Op.unary .not (a.eval x)).run P w = .ok s.toV w := by
  simp only [psem] at h
  split at h
  · rename_i b he; exact ⟨_, h, fun w => by rw [ev_some ha he]; rfl⟩
  · rename_i φ he
    refine ⟨_, h, fun w => ?_⟩
    rw [ev_some ha he]
    by_cases hp : φ <;> simp [SV.toV, hp, Op.unary]
  · rename_i b he
    refine ⟨_, h, fun w => ?_⟩
    rw [ev_some ha he]
    cases b <;> simp [SV.toV, Op.unary]
  · exact h.elim

theorem neg_sound {x : Operand} {K : SV → Prop} (ha : Agree S a) (h : psem (.neg (src x)) S K) : ∃ s, K s ∧ ∀ w, (Op.unary .neg (a.eval x)).run P w = .ok s.toV w := by
  simp only [psem] at h
  obtain ⟨k, n, h1, h⟩ := withI_sound ha h
  obtain ⟨s, h2, h3⟩ := arith_sound h
  exact ⟨s, h2, fun w => by rw [h1, h3]; rfl⟩

theorem addr_addIf (b o n : Nat) : Addr.add ⟨b, o, none⟩ n = ⟨b, (match n with | 0 => o | n + 1 => o + (n + 1)), none⟩ := by
  cases n <;> simp [Addr.add]

theorem faddr_sound {t : TypeId} {x : Operand} {f : Nat} {fs : Array Field} {fd : Field} {K : SV → Prop} (ht : P.underlying t = some (.struct fs)) (hf : fs[f]? = some fd) (hi : (P.info? fd.type).isSome = true) (hs : P.cellsOf fd.type ≠ 0)
    (ha : Agree S a) (h : psem (.faddr (src x) fd.offset) S K) : ∃ s, K s ∧ ∀ w, (Instr.fieldAt t (a.eval x) f).run P w = .ok s.toV w := by
  simp only [psem] at h
  split at h
  · rename_i p he
    obtain ⟨b, o, rfl, h⟩ := withA_sound h
    refine ⟨_, h, fun w => ?_⟩
    rw [ev_some ha he]
    simp only [SV.toV, Instr.fieldAt, Sem.run_bind, run_underlying ht, Result.andThen_ok, hf, Instr.sureAddr, fieldPlace, run_sizeOf hi, hs, if_false, Sem.run_pure, addr_addIf] <;> rfl
  · exact h.elim

theorem iaddr_sound {t e : TypeId} {x i : Operand} {K : SV → Prop} (ht : P.underlying t = some (.slice e)) (hi : (P.info? e).isSome = true) (ha : Agree S a) (h : psem (.iaddr (P.cellsOf e) (src x) (src i)) S K) :
    ∃ s, K s ∧ ∀ w, (Instr.indexAt t (a.eval x) (a.eval i)).run P w = .ok s.toV w := by
  simp only [psem] at h
  split at h
  · rename_i p len cap he
    obtain ⟨k, n, h1, h0, hn, b, o, hp, h⟩ := withI_sound ha h
    refine ⟨_, h, fun w => ?_⟩
    subst hp
    rw [ev_some ha he, h1]
    simp only [SV.toV, Instr.indexAt, asIntOf, Sem.run_bind, Sem.run_pure, Result.andThen_ok, run_underlying ht]
    rw [if_pos ⟨h0, hn⟩]
    simp only [Sem.run_bind, run_sizeOf hi, Result.andThen_ok, Sem.run_pure]
    congr 3
    rw [Addr.add_lit]
    split
    · rename_i h1; rw [h1, Nat.mul_one]
    · rfl
  · exact h.elim

theorem aaddr_sound {t e : TypeId} {len : Nat} {x i : Operand} {K : SV → Prop} (ht : P.underlying t = some (.array len e)) (hi : (P.info? e).isSome = true) (ha : Agree S a) (h : psem (.aaddr len (P.cellsOf e) (src x) (src i)) S K) :
    ∃ s, K s ∧ ∀ w, (Instr.indexAt t (a.eval x) (a.eval i)).run P w = .ok s.toV w := by
  simp only [psem] at h
  split at h
  · rename_i b o he
    obtain ⟨k, n, h1, h0, hn, h⟩ := withI_sound ha h
    refine ⟨_, h, fun w => ?_⟩
    rw [ev_some ha he, h1]
    simp only [SV.toV, Instr.indexAt, asIntOf, Sem.run_bind, Sem.run_pure, Result.andThen_ok, run_underlying ht, Instr.sureAddr]
    rw [if_pos ⟨h0, hn⟩]
    simp only [Sem.run_bind, run_sizeOf hi, Result.andThen_ok, Sem.run_pure]
    congr 3
    rw [Addr.add_lit]
    split
    · rename_i h1; rw [h1, Nat.mul_one]
    · rfl
  · exact h.elim
end
end Go.Vc

namespace Go.Vc

section
variable {P : Program} {S : Sym} {a : Act}

theorem nilchk_sound {o : Oper} {x : Operand} {K : SV → Prop} (ho : o.op = .nilCheck x) (ha : Agree S a) (h : psem (.nilchk (src x)) S K) : PSound P a o K := by
  simp only [psem] at h
  split at h
  · rename_i p he
    obtain ⟨b, q, rfl, h⟩ := h
    refine ⟨_, h, fun w => ?_⟩
    simp only [execOp, ho, ev_some ha he, SV.toV]
    rfl
  · rename_i f c d he
    refine ⟨_, h, fun w => ?_⟩
    simp only [execOp, ho, ev_some ha he, SV.toV]
    rfl
  · exact h.elim

theorem fld_sound {t : TypeId} {x : Operand} {f : Nat} {fs : Array Field} {fd : Field} {K : SV → Prop} {ag : Option Nat} (ht : P.underlying t = some (.struct fs)) (hf : fs[f]? = some fd)
    (hag : (ag = some (P.cellsOf fd.type) ∧ (P.info? fd.type).isSome = true ∧ isAggT P fd.type = true) ∨ (ag = none ∧ scalarT P fd.type = true))
    (ha : Agree S a) (h : psem (.fld fd.offset ag (src x)) S K) : ∃ s, K s ∧ ∀ w, (Instr.field t (a.eval x) f).run P w = .ok s.toV w := by
  simp only [psem] at h
  split at h
  · rename_i cs he
    rcases hag with ⟨rfl, hi, hg⟩ | ⟨rfl, hg⟩
    · refine ⟨_, h, fun w => ?_⟩
      rw [ev_some ha he]
      have hag : (isAgg fd.type).run P w = .ok true w := by
        unfold isAggT at hg
        split at hg
        · rename_i hu; simp [isAgg, run_underlying hu]
        · rename_i hu; simp [isAgg, run_underlying hu]
        · cases hg
      simp only [SV.toV, Instr.field, Sem.run_bind, run_underlying ht, Result.andThen_ok, hf, asAgg, Sem.run_pure, part, hag, if_true, run_sizeOf hi]
      congr 2
      apply Array.ext'
      simp [Array.toList_extract, List.take_drop]
    · simp only at h
      split at h
      · rename_i v hv
        refine ⟨_, h, fun w => ?_⟩
        rw [ev_some ha he]
        have hag : (isAgg fd.type).run P w = .ok false w := by
          unfold scalarT isAggT at hg
          cases hu : P.underlying fd.type with
          | none => simp [hu] at hg
          | some d => cases d <;> first | (simp [hu] at hg; done) | (simp [isAgg, run_underlying hu]; done)
        have hv' : cs[fd.offset]? = some v := by simpa using hv
        simp only [SV.toV, Instr.field, Sem.run_bind, run_underlying ht, Result.andThen_ok, hf, asAgg, Sem.run_pure, part, hag, Bool.false_eq_true, if_false, hv']
      · exact h.elim
  · exact h.elim

theorem idxs_sound {t : TypeId} {x i : Operand} {K : SV → Prop} (ht : P.underlying t = some .string) (ha : Agree S a) (h : psem (.idxs (src x) (src i)) S K) :
    ∃ s, K s ∧ ∀ w, (Instr.index t (a.eval x) (a.eval i)).run P w = .ok s.toV w := by
  simp only [psem] at h
  split at h
  · rename_i s he
    obtain ⟨k, n, h1, h0, hn, h⟩ := withI_sound ha h
    refine ⟨_, h _ rfl, fun w => ?_⟩
    rw [ev_some ha he, h1]
    have hlt : n.toNat < s.size := by omega
    have hlt' : n.toNat < s.data.size := hlt
    have hg : s[n.toNat]? = some s[n.toNat] := by
      exact getElem?_pos s n.toNat hlt
    simp only [SV.toV, Instr.index, asIntOf, Sem.run_bind, Sem.run_pure, Result.andThen_ok, run_underlying ht]
    rw [if_pos h0, hg]
    have e : s.data.toList.getD n.toNat 0 = s[n.toNat] := by
      rw [List.getD_eq_getElem?_getD, Array.getElem?_toList, Array.getElem?_eq_getElem hlt']
      rfl
    rw [e]
    rfl
  · exact h.elim

theorem ext_sound {x : Operand} {i : Nat} {K : SV → Prop} (ha : Agree S a) (h : psem (.ext i (src x)) S K) : ∃ s, K s ∧ ∀ w, (Instr.extract (a.eval x) i).run P w = .ok s.toV w := by
  simp only [psem] at h
  split at h
  · rename_i vs he
    split at h
    · rename_i v hv
      refine ⟨_, h, fun w => ?_⟩
      rw [ev_some ha he]
      have hv' : vs[i]? = some v := by simpa using hv
      simp [SV.toV, Instr.extract, hv']
    · exact h.elim
  · exact h.elim

theorem conv_sound {s d : TypeId} {k k0 : IntKind} {x : Operand} {K : SV → Prop} (hs : P.underlying s = some (.int k0)) (hd : P.underlying d = some (.int k)) (ha : Agree S a) (h : psem (.conv k (src x)) S K) :
    ∃ u, K u ∧ ∀ w, (convert s d (a.eval x)).run P w = .ok u.toV w := by
  simp only [psem] at h
  obtain ⟨k1, n, h1, h⟩ := withI_sound ha h
  have hr : ∀ w, (convert s d (.int k1 n)).run P w = .ok (.int k (k.wrap n)) w := fun w => by simp [convert, run_underlying hs, run_underlying hd, Conv.intToInt]
  rw [h1]
  cases k <;> simp only at h <;> first
    | exact ⟨_, h _ rfl, fun w => hr w⟩
    | (split at h
       · exact ⟨_, h _ rfl, fun w => hr w⟩
       · exact ⟨_, h.2, fun w => by rw [hr, wrap_of_in64 h.1]; rfl⟩)

theorem lens_sound {t ty e : TypeId} {x : Operand} {K : SV → Prop} (ht : P.underlying t = some (.slice e)) (ha : Agree S a) (h : psem (.lens (src x)) S K) :
    ∃ s, K s ∧ ∀ w, (Builtin.len_ #[t] ty #[a.eval x]).run P w = .ok s.toV w := by
  simp only [psem] at h
  split at h
  · rename_i p n m he
    refine ⟨_, h, fun w => ?_⟩
    rw [ev_some ha he]
    simp [Builtin.len_, run_underlying ht, SV.toV, goInt]
  · exact h.elim

theorem caps_sound {t ty e : TypeId} {x : Operand} {K : SV → Prop} (ht : P.underlying t = some (.slice e)) (ha : Agree S a) (h : psem (.caps (src x)) S K) :
    ∃ s, K s ∧ ∀ w, (Builtin.cap_ #[t] ty #[a.eval x]).run P w = .ok s.toV w := by
  simp only [psem] at h
  split at h
  · rename_i p n m he
    refine ⟨_, h, fun w => ?_⟩
    rw [ev_some ha he]
    simp [Builtin.cap_, run_underlying ht, SV.toV, goInt]
  · exact h.elim

theorem lent_sound {t ty : TypeId} {x : Operand} {K : SV → Prop} (ht : P.underlying t = some .string) (ha : Agree S a) (h : psem (.lent (src x)) S K) :
    ∃ s, K s ∧ ∀ w, (Builtin.len_ #[t] ty #[a.eval x]).run P w = .ok s.toV w := by
  simp only [psem] at h
  split at h
  · rename_i b he
    refine ⟨_, h, fun w => ?_⟩
    rw [ev_some ha he]
    simp [Builtin.len_, run_underlying ht, SV.toV, goInt]
  · exact h.elim

theorem mx_sound {ts : Array TypeId} {ty : TypeId} {x y : Operand} {K : SV → Prop} (ha : Agree S a) (h : psem (.mx (src x) (src y)) S K) :
    ∃ s, K s ∧ ∀ w, (Builtin.max_ ts ty #[a.eval x, a.eval y]).run P w = .ok s.toV w := by
  simp only [psem] at h
  obtain ⟨k, n, h1, h⟩ := withI_sound ha h
  obtain ⟨k', m, h2, h⟩ := withI_sound ha h
  refine ⟨_, h, fun w => ?_⟩
  rw [h1, h2]
  simp only [SV.toV, Builtin.max_, List.foldlM_cons, List.foldlM_nil, Builtin.max2, Sem.run_bind, Sem.run_pure, Result.andThen_ok]
  congr 2
  split <;> omega

theorem mn_sound {ts : Array TypeId} {ty : TypeId} {x y : Operand} {K : SV → Prop} (ha : Agree S a) (h : psem (.mn (src x) (src y)) S K) :
    ∃ s, K s ∧ ∀ w, (Builtin.min_ ts ty #[a.eval x, a.eval y]).run P w = .ok s.toV w := by
  simp only [psem] at h
  obtain ⟨k, n, h1, h⟩ := withI_sound ha h
  obtain ⟨k', m, h2, h⟩ := withI_sound ha h
  refine ⟨_, h, fun w => ?_⟩
  rw [h1, h2]
  simp only [SV.toV, Builtin.min_, List.foldlM_cons, List.foldlM_nil, Builtin.min2, Sem.run_bind, Sem.run_pure, Result.andThen_ok]
  congr 2
  split <;> omega

theorem slc_sound {t e : TypeId} {x : Operand} {lo hi m : Option Operand} {K : SV → Prop} (ht : P.underlying t = some (.slice e)) (hi' : (P.info? e).isSome = true) (ha : Agree S a)
    (h : psem (.slc (P.cellsOf e) (src x) (lo.map src) (hi.map src) (m.map src)) S K) :
    ∃ s, K s ∧ ∀ w, (Instr.sliceAt t (a.eval x) (lo.map a.eval) (hi.map a.eval) (m.map a.eval)).run P w = .ok s.toV w := by
  simp only [psem] at h
  split at h
  · rename_i p len cap he
    rw [ev_some ha he]
    have hz : ∀ (q : Option Addr) (n : Nat), (q.map fun x => x.add 0) = q := fun q n => by cases q <;> simp [Addr.add]
    rcases withO_sound (x := m) ha h with ⟨hm0, g1⟩ | ⟨om, km, nm, hm0, em, g1⟩ <;> rcases withO_sound (x := hi) ha g1 with ⟨hh0, g2⟩ | ⟨oh, kh, nh, hh0, eh, g2⟩ <;> rcases withO_sound (x := lo) ha g2 with ⟨hl0, g3⟩ | ⟨ol, kl, nl, hl0, el, g3⟩ <;> clear h g1 g2 <;> subst hm0 <;> subst hh0 <;> subst hl0 <;> (have h := g3) <;> clear g3 <;> simp only at h
    · refine ⟨_, h, fun w => ?_⟩
      simp only [SV.toV, Instr.sliceAt, Instr.slice, Instr.sliceBounds, Option.map_none, Sem.run_bind, run_underlying ht, Result.andThen_ok, Sem.run_pure, run_sizeOf hi', Nat.zero_mul, hz p cap, ite_self, Nat.sub_zero, Option.isSome_none]
    · obtain ⟨h0, h1, h⟩ := h
      refine ⟨_, h _ rfl, fun w => ?_⟩
      simp only [SV.toV, Instr.sliceAt, Instr.slice, Instr.sliceBounds, Option.map_none, Option.map_some, Sem.run_bind, run_underlying ht, Result.andThen_ok, Sem.run_pure, run_sizeOf hi', Option.isSome_none, psound_sliceBound w el h0 h1]
    · obtain ⟨h0, h1, h⟩ := h
      refine ⟨_, h, fun w => ?_⟩
      simp only [SV.toV, Instr.sliceAt, Instr.slice, Instr.sliceBounds, Option.map_none, Option.map_some, Sem.run_bind, run_underlying ht, Result.andThen_ok, Sem.run_pure, run_sizeOf hi', Nat.zero_mul, hz p cap, ite_self, Nat.sub_zero, Option.isSome_none, psound_sliceBound w eh h0 h1]
    · obtain ⟨h0, h1, h2, h⟩ := h
      refine ⟨_, h _ rfl, fun w => ?_⟩
      have eh' := psound_sliceBound (P := P) (c := .sliceAcap) w eh (by omega) h2
      have el' := psound_sliceBound (P := P) (y := nh.toNat) (c := .sliceB) w el h0 (by omega)
      simp only [SV.toV, Instr.sliceAt, Instr.slice, Instr.sliceBounds, Option.map_none, Option.map_some, Sem.run_bind, run_underlying ht, Result.andThen_ok, Sem.run_pure, run_sizeOf hi', Option.isSome_none, if_true, if_false, Bool.false_eq_true, eh', el']
    · obtain ⟨h0, h1, h2, h⟩ := h
      refine ⟨_, h, fun w => ?_⟩
      have em' := psound_sliceBound (P := P) (c := .slice3Acap) w em (by omega) h2
      have eh' := psound_sliceBound (P := P) (y := nm.toNat) (c := .slice3B) w eh h0 (by omega)
      simp only [SV.toV, Instr.sliceAt, Instr.slice, Instr.sliceBounds, Option.map_none, Option.map_some, Sem.run_bind, run_underlying ht, Result.andThen_ok, Sem.run_pure, run_sizeOf hi', Nat.zero_mul, hz p cap, ite_self, Nat.sub_zero, if_true, em', eh']
    · obtain ⟨h0, h1, h2, h3, h⟩ := h
      refine ⟨_, h _ rfl, fun w => ?_⟩
      have em' := psound_sliceBound (P := P) (c := .slice3Acap) w em (by omega) h3
      have eh' := psound_sliceBound (P := P) (y := nm.toNat) (c := .slice3B) w eh (by omega) (by omega)
      have el' := psound_sliceBound (P := P) (y := nh.toNat) (c := .slice3C) w el h0 (by omega)
      simp only [SV.toV, Instr.sliceAt, Instr.slice, Instr.sliceBounds, Option.map_some, Sem.run_bind, run_underlying ht, Result.andThen_ok, Sem.run_pure, run_sizeOf hi', Option.isSome_some, if_true, em', eh', el']
  · exact h.elim

theorem slct_sound {t : TypeId} {x : Operand} {lo hi : Option Operand} {K : SV → Prop} (ht : P.underlying t = some .string) (ha : Agree S a)
    (h : psem (.slct (src x) (lo.map src) (hi.map src)) S K) :
    ∃ s, K s ∧ ∀ w, (Instr.sliceAt t (a.eval x) (lo.map a.eval) (hi.map a.eval) none).run P w = .ok s.toV w := by
  simp only [psem] at h
  split at h
  · rename_i s he
    rw [ev_some ha he]
    rcases withO_sound (x := hi) ha h with ⟨hh0, g2⟩ | ⟨oh, kh, nh, hh0, eh, g2⟩ <;> rcases withO_sound (x := lo) ha g2 with ⟨hl0, g3⟩ | ⟨ol, kl, nl, hl0, el, g3⟩ <;> clear h g2 <;> subst hh0 <;> subst hl0 <;> (have h := g3) <;> clear g3 <;> simp only at h
    · obtain ⟨h0, h1, h⟩ := h
      refine ⟨_, h, fun w => ?_⟩
      simp only [SV.toV, Instr.sliceAt, Instr.slice, Instr.sliceBounds, Option.map_none, Option.map_some, Sem.run_bind, run_underlying ht, Result.andThen_ok, Sem.run_pure, Option.isSome_none, if_false, Bool.false_eq_true, psound_sliceBound w el h0 h1]
    · obtain ⟨h0, h1, h⟩ := h
      refine ⟨_, h, fun w => ?_⟩
      simp only [SV.toV, Instr.sliceAt, Instr.slice, Instr.sliceBounds, Option.map_none, Option.map_some, Sem.run_bind, run_underlying ht, Result.andThen_ok, Sem.run_pure, Option.isSome_none, if_false, Bool.false_eq_true, psound_sliceBound w eh h0 h1]
    · obtain ⟨h0, h1, h2, h⟩ := h
      refine ⟨_, h, fun w => ?_⟩
      have eh' := psound_sliceBound (P := P) (c := .sliceAlen) w eh (by omega) h2
      have el' := psound_sliceBound (P := P) (y := nh.toNat) (c := .sliceB) w el h0 (by omega)
      simp only [SV.toV, Instr.sliceAt, Instr.slice, Instr.sliceBounds, Option.map_some, Sem.run_bind, run_underlying ht, Result.andThen_ok, Sem.run_pure, Option.isSome_none, if_false, Bool.false_eq_true, eh', el']
  · exact h.elim

theorem slca_sound {t e : TypeId} {n : Nat} {x : Operand} {lo hi : Option Operand} {K : SV → Prop} (ht : P.underlying t = some (.array n e)) (hi' : (P.info? e).isSome = true) (ha : Agree S a)
    (h : psem (.slca n (P.cellsOf e) (src x) (lo.map src) (hi.map src)) S K) :
    ∃ s, K s ∧ ∀ w, (Instr.sliceAt t (a.eval x) (lo.map a.eval) (hi.map a.eval) none).run P w = .ok s.toV w := by
  simp only [psem] at h
  split at h
  · rename_i b o he
    rw [ev_some ha he]
    rcases withO_sound (x := hi) ha h with ⟨hh0, g2⟩ | ⟨oh, kh, nh, hh0, eh, g2⟩ <;> rcases withO_sound (x := lo) ha g2 with ⟨hl0, g3⟩ | ⟨ol, kl, nl, hl0, el, g3⟩ <;> clear h g2 <;> subst hh0 <;> subst hl0 <;> (have h := g3) <;> clear g3 <;> simp only at h
    · refine ⟨_, h, fun w => ?_⟩
      simp only [SV.toV, Instr.sliceAt, Instr.sureAddr, Instr.sliceBounds, Option.map_none, Sem.run_bind, pure_bind, run_underlying ht, Result.andThen_ok, Sem.run_pure, run_sizeOf hi', Nat.zero_mul, Addr.add_lit, Nat.add_zero, ite_self, Nat.sub_zero]
    · obtain ⟨h0, h1, h⟩ := h
      refine ⟨_, h _ rfl, fun w => ?_⟩
      have el' := psound_sliceBound (P := P) (y := n) (c := .sliceB) w el h0 (by omega)
      simp only [SV.toV, Instr.sliceAt, Instr.sureAddr, Instr.sliceBounds, Option.map_none, Option.map_some, Sem.run_bind, pure_bind, run_underlying ht, Result.andThen_ok, Sem.run_pure, run_sizeOf hi', Option.isSome_none, if_false, Bool.false_eq_true, el', Addr.add_lit]
      split <;> rfl
    · obtain ⟨h0, h1, h⟩ := h
      refine ⟨_, h, fun w => ?_⟩
      have eh' := psound_sliceBound (P := P) (y := n) (c := .sliceAlen) w eh h0 (by omega)
      simp only [SV.toV, Instr.sliceAt, Instr.sureAddr, Instr.sliceBounds, Option.map_none, Option.map_some, Sem.run_bind, pure_bind, run_underlying ht, Result.andThen_ok, Sem.run_pure, run_sizeOf hi', Nat.zero_mul, Addr.add_lit, Nat.add_zero, ite_self, Nat.sub_zero, if_false, Bool.false_eq_true, eh']
    · obtain ⟨h0, h1, h2, h⟩ := h
      refine ⟨_, h _ rfl, fun w => ?_⟩
      have eh' := psound_sliceBound (P := P) (y := n) (c := .sliceAlen) w eh (by omega) h2
      have el' := psound_sliceBound (P := P) (y := nh.toNat) (c := .sliceB) w el h0 (by omega)
      simp only [SV.toV, Instr.sliceAt, Instr.sureAddr, Instr.sliceBounds, Option.map_some, Sem.run_bind, pure_bind, run_underlying ht, Result.andThen_ok, Sem.run_pure, run_sizeOf hi', Option.isSome_none, if_false, Bool.false_eq_true, eh', el', Addr.add_lit]
      split <;> rfl
  · exact h.elim

theorem ife_sound {op : BinOp} {n : Bool} {x y : Operand} {K : SV → Prop} {t : TypeId} {ms} (ht : P.underlying t = some (.interface ms))
    (ho : op = if n then .neq else .eql) (ha : Agree S a) (h : psem (.ife n (intTypes P) (src x) (src y)) S K) :
    ∃ s, K s ∧ ∀ w, (do eqGuard op t x y (a.eval x) (a.eval y); binOp op t (a.eval x) (a.eval y) : Sem Value).run P w = .ok s.toV w := by
  simp only [psem] at h
  subst ho
  split at h
  · rename_i tx k p ty k' q h1 h2
    rw [ev_some ha h1, ev_some ha h2]
    simp only [SV.toV]
    split at h
    · rename_i hct
      have hty : intType P tx = true := by
        have : tx ∈ intTypes P := by simpa using hct
        exact (List.mem_filter.1 this).2
      unfold intType at hty
      split at hty
      · rename_i kk i hu hi
        have hgd : ∀ w, (eqGuard (if n then BinOp.neq else BinOp.eql) t x y (.iface tx (.int k p)) (.iface ty (.int k' q))).run P w = .ok () w := by
          intro w; cases n <;> rfl
        have heq : ∀ w, (Op.equal t (.iface tx (.int k p)) (.iface ty (.int k' q))).run P w = (if tx ≠ ty then (pure false : Sem Bool) else Op.equalIn 9999 tx (.int k p) (.int k' q)).run P w := by
          intro w
          have gen : ∀ d, (Op.equalIn (d + 1) t (.iface tx (.int k p)) (.iface ty (.int k' q))).run P w = (if tx ≠ ty then (pure false : Sem Bool) else Op.equalIn d tx (.int k p) (.int k' q)).run P w := by
            intro d
            conv => lhs; unfold Op.equalIn
            simp only [Sem.run_bind, run_underlying ht, Result.andThen_ok]
            split
            · rfl
            · simp [typeInfo, hi, hty]
          exact gen 9999
        split at h
        · rename_i hb
          have hb := Nat.eq_of_beq_eq_true hb
          subst hb
          split at h
          · rename_i hk
            have hk := of_decide_eq_true hk
            subst hk
            refine ⟨_, h, fun w => ?_⟩
            have hin : (Op.equalIn 9999 tx (.int k p) (.int k q)).run P w = .ok (p == q) w := by
              show (Op.equalIn (9998 + 1) tx _ _).run P w = _
              unfold Op.equalIn
              simp [run_underlying hu]
            simp only [Sem.run_bind, hgd, Result.andThen_ok]
            cases n
            · simp only [Bool.false_eq_true, if_false, binOp, Sem.run_bind, heq, ne_eq, not_true_eq_false, hin, Result.andThen_ok, Sem.run_pure, oneIf]
              by_cases e : p = q <;> simp [e]
            · simp only [if_true, binOp, Sem.run_bind, heq, ne_eq, not_true_eq_false, if_false, hin, Result.andThen_ok, Sem.run_pure, oneIf]
              by_cases e : p = q <;> simp [e]
          · exact h.elim
        · rename_i hb
          have hne : tx ≠ ty := by
            rintro rfl
            rw [Nat.beq_refl] at hb
            cases hb
          refine ⟨_, h, fun w => ?_⟩
          simp only [Sem.run_bind, hgd, Result.andThen_ok]
          cases n
          · simp only [Bool.false_eq_true, if_false, binOp, Sem.run_bind, heq, ne_eq, hne, not_false_eq_true, if_true, Result.andThen_ok, Sem.run_pure]
          · simp only [if_true, binOp, Sem.run_bind, heq, ne_eq, hne, not_false_eq_true, Result.andThen_ok, Sem.run_pure]
            rfl
      · cases hty
    · exact h.elim
  · exact h.elim
end
end Go.Vc

namespace Go.Vc

section
variable {P : Program} {S : Sym} {a : Act}

theorem withF_sound (h : Agree S a) {x : Operand} {K : Nat → Prop} (hk : withF S (src x) K) : ∃ n, a.eval x = .float .f64 n ∧ K n := by
  unfold withF at hk
  split at hk
  · rename_i n he; exact ⟨n, ev_sound h he, hk⟩
  · exact hk.elim

theorem filled'_sound (ha : Agree S a) (size : Nat) : ∀ (parts : List (Nat × Operand)) (cells : List Value) (K : List Value → Prop), filled S K (compParts' size parts) cells →
      ∃ cs, Instr.fill (fun i => some (i * size, size)) cells.toArray (parts.map fun (i, x) => (i, a.eval x)) = some cs ∧ K cs.toList
  | [], cells, K, hf => ⟨cells.toArray, rfl, hf⟩
  | (i, x) :: r, cells, K, hf => by
    simp only [compParts', List.map_cons, filled] at hf
    have h1 := withV_sound ha hf
    obtain ⟨hsz', h1⟩ := fillV_sound h1
    split at h1
    · rename_i hsz
      have hb0 := Nat.le_of_ble_eq_true hsz
      have hplaced : ∀ (vs : List Value) (o : Nat) (cs : List Value), placed cs o vs = (vs.zipIdx o).foldl (fun cs (c, j) => cs.set j c) cs := by
        intro vs
        induction vs with
        | nil => intros; rfl
        | cons v vs ih => intro o cs; simp only [placed, List.zipIdx_cons, List.foldl_cons]; exact ih _ _
      obtain ⟨cs, h2, h3⟩ := filled'_sound ha size r _ K h1
      refine ⟨cs, ?_, h3⟩
      simp only [List.map_cons, Instr.fill]
      rw [if_neg]
      · have e : (placed cells (i * size) (a.eval x).cells.toList).toArray = (a.eval x).cells.zipIdx.foldl (fun cs (c, j) => cs.setIfInBounds (i * size + j) c) cells.toArray := by
          rw [hplaced]
          generalize (a.eval x).cells = vs
          rw [← Array.foldl_toList, Array.toList_zipIdx]
          have : ∀ (us : List Value) (j : Nat) (cs : List Value), ((us.zipIdx (i * size + j)).foldl (fun cs (c, j) => cs.set j c) cs).toArray = (us.zipIdx j).foldl (fun cs (c, j) => cs.setIfInBounds (i * size + j) c) cs.toArray := by
            intro us
            induction us with
            | nil => intros; rfl
            | cons u us ih =>
              intro j cs
              simp only [List.zipIdx_cons, List.foldl_cons]
              rw [Nat.add_assoc, ih]
              simp
          exact this vs.toList 0 cells
        rw [← e]
        exact h2
      · simp only [Array.length_toList] at hsz'
        simp only [ne_eq, List.size_toArray, gt_iff_lt, Bool.or_eq_true, decide_eq_true_eq, not_or, Decidable.not_not, Nat.not_lt]
        exact ⟨hsz', by omega⟩
    · exact h1.elim

theorem buildA_sound {t e : TypeId} {z : Value} {n : Nat} {parts : Array (Nat × Operand)} {K : SV → Prop} (ht : P.underlying t = some (.array n e)) (hz : zeroOf P t = some z) (hi : (P.info? e).isSome = true)
    (ha : Agree S a) (h : psem (.build z.cells.toList (compParts' (P.cellsOf e) parts.toList)) S K) :
    ∃ s, K s ∧ ∀ w, (Instr.build t (parts.map fun (i, x) => (i, a.eval x))).run P w = .ok s.toV w := by
  simp only [psem] at h
  obtain ⟨cs, h1, h2⟩ := filled'_sound ha (P.cellsOf e) parts.toList _ _ h
  refine ⟨_, h2, fun w => ?_⟩
  have hzv : (zeroValue t).run P w = .ok z w := by
    unfold zeroOf at hz
    cases hi : P.info? t with
    | none => simp [hi] at hz
    | some i =>
      simp only [hi, Option.bind_some] at hz
      simp [zeroValue, typeInfo, hi, hz]
  simp only [Instr.build, Sem.run_bind, hzv, Result.andThen_ok, run_underlying ht, run_sizeOf hi]
  have e : (parts.map fun (i, x) => (i, a.eval x)).toList = parts.toList.map fun (i, x) => (i, a.eval x) := by simp
  rw [e]
  simp only [Array.toArray_toList] at h1
  rw [h1]
  simp [SV.toV]

theorem bnot_sound {x : Operand} {K : SV → Prop} (ha : Agree S a) (h : psem (.bnot (src x)) S K) : ∃ s, K s ∧ ∀ w, (Op.unary .xor (a.eval x)).run P w = .ok s.toV w := by
  simp only [psem] at h
  obtain ⟨k, n, h1, h⟩ := withI_sound ha h
  refine ⟨_, h _ rfl, fun w => ?_⟩
  rw [h1]
  simp only [Op.unary, intBits_xor, Sem.run_pure, SV.toV]
  cases k.signed <;> rfl

theorem intsL_get : ∀ {vs : List Value} {l : List Int}, intsL vs = some l → ∀ i, i < l.length → vs[i]? = some (.int .i64 (l.getD i 0))
  | [], l, h, i, hi => by
    simp only [intsL, Option.some.injEq] at h
    subst h; simp at hi
  | v :: r, l, h, i, hi => by
    simp only [intsL] at h
    split at h
    · split at h
      · rename_i n l' hr
        simp only [Option.some.injEq] at h
        subst h
        cases i with
        | zero => rfl
        | succ i => simpa using intsL_get hr i (by simpa using hi)
      · cases h
    · cases h

theorem idxi_sound {t e : TypeId} {len : Nat} {x i : Operand} {K : SV → Prop} (ht : P.underlying t = some (.array len e)) (he : P.underlying e = some (.int .i64)) (hi : (P.info? e).isSome = true) (hs : P.cellsOf e = 1) (ha : Agree S a) (h : psem (.idxi len (src x) (src i)) S K) :
    ∃ s, K s ∧ ∀ w, (Instr.index t (a.eval x) (a.eval i)).run P w = .ok s.toV w := by
  simp only [psem] at h
  split at h
  · rename_i cs hx
    split at h
    · rename_i l hl
      obtain ⟨k, n, h1, h0, hn, hnl, h⟩ := withI_sound ha h
      refine ⟨_, h _ rfl, fun w => ?_⟩
      rw [ev_some ha hx, h1]
      have hg := intsL_get hl n.toNat (by omega)
      rw [Array.getElem?_toList] at hg
      have hag : (isAgg e).run P w = .ok false w := by simp [isAgg, run_underlying he]
      simp only [SV.toV, Instr.index, asIntOf, Sem.run_bind, Sem.run_pure, Result.andThen_ok, run_underlying ht]
      rw [if_pos ⟨h0, hn⟩]
      simp only [Sem.run_bind, run_sizeOf hi, Result.andThen_ok, part, hag, Bool.false_eq_true, if_false, hs, Nat.mul_one, hg, Sem.run_pure]
    · exact h.elim
  · exact h.elim

theorem strsL_get : ∀ {vs : List Value} {l : List ByteArray}, strsL vs = some l → ∀ i, i < l.length → vs[i]? = some (.string (l.getD i .empty))
  | [], l, h, i, hi => by
    simp only [strsL, Option.some.injEq] at h
    subst h; simp at hi
  | v :: r, l, h, i, hi => by
    simp only [strsL] at h
    split at h
    · split at h
      · rename_i n l' hr
        simp only [Option.some.injEq] at h
        subst h
        cases i with
        | zero => rfl
        | succ i => simpa using strsL_get hr i (by simpa using hi)
      · cases h
    · cases h

theorem idxt_sound {t e : TypeId} {len : Nat} {x i : Operand} {K : SV → Prop} (ht : P.underlying t = some (.array len e)) (he : P.underlying e = some .string) (hi : (P.info? e).isSome = true) (hs : P.cellsOf e = 1) (ha : Agree S a) (h : psem (.idxt len (src x) (src i)) S K) :
    ∃ s, K s ∧ ∀ w, (Instr.index t (a.eval x) (a.eval i)).run P w = .ok s.toV w := by
  simp only [psem] at h
  split at h
  · rename_i cs hx
    split at h
    · rename_i l hl
      obtain ⟨k, n, h1, h0, hn, hnl, h⟩ := withI_sound ha h
      refine ⟨_, h _ rfl, fun w => ?_⟩
      rw [ev_some ha hx, h1]
      have hg := strsL_get hl n.toNat (by omega)
      rw [Array.getElem?_toList] at hg
      have hag : (isAgg e).run P w = .ok false w := by simp [isAgg, run_underlying he]
      simp only [SV.toV, Instr.index, asIntOf, Sem.run_bind, Sem.run_pure, Result.andThen_ok, run_underlying ht]
      rw [if_pos ⟨h0, hn⟩]
      simp only [Sem.run_bind, run_sizeOf hi, Result.andThen_ok, part, hag, Bool.false_eq_true, if_false, hs, Nat.mul_one, hg, Sem.run_pure]
    · exact h.elim
  · exact h.elim

theorem run_equalIn_nil (d : Nat) {t : TypeId} {ms : Array (String × TypeId)} (ht : P.underlying t = some (.interface ms)) (v : Value) (h : v = .nilIface ∨ ∃ t u, v = .iface t u) (w : World) : (Op.equalIn (d + 1) t v .nilIface).run P w = .ok (match v with | .nilIface => true | _ => false) w := by
  rcases h with rfl | ⟨t', u, rfl⟩ <;> simp [Op.equalIn, run_underlying ht]
theorem run_equal_nil {t : TypeId} {ms : Array (String × TypeId)} (ht : P.underlying t = some (.interface ms)) (v : Value) (h : v = .nilIface ∨ ∃ t u, v = .iface t u) (w : World) : (Op.equal t v .nilIface).run P w = .ok (match v with | .nilIface => true | _ => false) w := run_equalIn_nil 9999 ht v h w

theorem ifn_sound {op : BinOp} {n : Bool} {x : Operand} {K : SV → Prop} {t : TypeId} {ms : Array (String × TypeId)} (ht : P.underlying t = some (.interface ms)) (ho : op = if n then .neq else .eql) (ha : Agree S a) (h : psem (.ifn n (src x)) S K) :
    ∃ s, K s ∧ ∀ w, (do eqGuard op t x (.const .nilIface) (a.eval x) (a.eval (.const .nilIface)); binOp op t (a.eval x) (a.eval (.const .nilIface)) : Sem Value).run P w = .ok s.toV w := by
  simp only [psem] at h
  obtain ⟨h1, h⟩ := withV_sound ha h
  have hy : a.eval (.const .nilIface) = .nilIface := rfl
  rw [hy]
  refine ⟨_, h, fun w => ?_⟩
  rcases h1 with h1 | ⟨t', u, h1⟩
  · rw [h1]
    rw [oneIf_bool (b := true) (by simp)]
    have he := run_equal_nil ht .nilIface (.inl rfl) w
    cases n <;> (simp only [ho] at *; simp [eqGuard, binOp, he])
  · rw [h1]
    rw [oneIf_bool (b := false) (by simp)]
    have he := run_equal_nil ht (.iface t' u) (.inr ⟨_, _, rfl⟩) w
    cases n <;> (simp only [ho] at *; simp [eqGuard, binOp, he])

theorem fbin_sound {op : BinOp} {x y : Operand} {K : SV → Prop} (t : TypeId) (ha : Agree S a) (h : psem (.fbin op (src x) (src y)) S K) :
    ∃ s, K s ∧ ∀ w, (do eqGuard op t x y (a.eval x) (a.eval y); binOp op t (a.eval x) (a.eval y) : Sem Value).run P w = .ok s.toV w := by
  simp only [psem] at h
  obtain ⟨m, h1, h⟩ := withF_sound ha h
  obtain ⟨n, h2, h⟩ := withF_sound ha h
  rw [h1, h2]
  have hg : eqGuard op t x y (.float .f64 m) (.float .f64 n) = pure () := eqGuard_at_float ..
  simp only [hg, pure_bind]
  have hf : FloatKind.f64.format = Ieee.double := rfl
  cases op <;> simp only [binF] at h <;> first
    | exact h.elim
    | (obtain ⟨r, h3, h⟩ := h
       refine ⟨_, h, fun w => ?_⟩
       simp [binOp, Op.floatArith, hf, h3, SV.toV])
    | (refine ⟨_, h, fun w => ?_⟩
       simp only [binOp, Op.floatCmp, hf, ne_eq, not_true_eq_false, if_false, Sem.run_pure]
       rw [toV_p (b := _)]
       simp [FEq, FLt, FGt])

theorem order_none {a b : Nat} (h1 : ¬ FNan a) (h2 : ¬ FNan b) : Ieee.double.order a b ≠ none := by
  unfold FNan at h1 h2
  unfold Ieee.Format.order
  generalize Ieee.double.read a = x at *
  generalize Ieee.double.read b = y at *
  cases x <;> cases y <;> simp_all [Ieee.Datum.isNaN, Ieee.Datum.order]

theorem fmn_sound {ts : Array TypeId} {ty : TypeId} {x y : Operand} {K : SV → Prop} (ha : Agree S a) (h : psem (.fmn (src x) (src y)) S K) :
    ∃ s, K s ∧ ∀ w, (Builtin.min_ ts ty #[a.eval x, a.eval y]).run P w = .ok s.toV w := by
  simp only [psem] at h
  obtain ⟨m, h1, h⟩ := withF_sound ha h
  obtain ⟨n, h2, h3, h4, h⟩ := withF_sound ha h
  rw [h1, h2]
  refine ⟨_, h _ rfl, fun w => ?_⟩
  have hn := order_none h3 h4
  have hf : FloatKind.f64.format = Ieee.double := rfl
  have hd : ∀ x, FloatKind.f64.decode x = Ieee.double.read x := fun _ => rfl
  simp only [Builtin.min_, List.foldlM_cons, List.foldlM_nil, Builtin.min2, hf]
  unfold fMin
  cases ho : Ieee.double.order m n with
  | none => exact absurd ho hn
  | some o => cases o <;> simp [SV.toV, hd]

theorem i2f_sound {s d : TypeId} {k0 : IntKind} {x : Operand} {K : SV → Prop} (hs : P.underlying s = some (.int k0)) (hd : P.underlying d = some (.float .f64)) (ha : Agree S a) (h : psem (.i2f (src x)) S K) :
    ∃ v, K v ∧ ∀ w, (convert s d (a.eval x)).run P w = .ok v.toV w := by
  simp only [psem] at h
  obtain ⟨k, n, h1, h⟩ := withI_sound ha h
  refine ⟨_, h _ rfl, fun w => ?_⟩
  rw [h1]
  simp [convert, run_underlying hs, run_underlying hd, Conv.intToFloat, SV.toV]

theorem f2i_sound {s d : TypeId} {x : Operand} {K : SV → Prop} (hs : P.underlying s = some (.float .f64)) (hd : P.underlying d = some (.int .i64)) (ha : Agree S a) (h : psem (.f2i (src x)) S K) :
    ∃ v, K v ∧ ∀ w, (convert s d (a.eval x)).run P w = .ok v.toV w := by
  simp only [psem] at h
  obtain ⟨m, h1, n, h2, h3, h⟩ := withF_sound ha h
  refine ⟨_, h, fun w => ?_⟩
  rw [h1]
  have hx : FloatKind.f64.decode m = Ieee.double.read m := rfl
  have hb : IntKind.i64.min ≤ n ∧ n ≤ IntKind.i64.max := ⟨h3.1, h3.2⟩
  simp only [convert, run_underlying hs, run_underlying hd, Sem.run_bind, Result.andThen_ok, Conv.floatToInt, SV.toV, hx, h2]
  rw [if_pos hb]
  rfl

theorem f2f_sound {s d : TypeId} {x : Operand} {K : SV → Prop} (hs : P.underlying s = some (.float .f64)) (hd : P.underlying d = some (.float .f64)) (ha : Agree S a) (h : psem (.f2f (src x)) S K) :
    ∃ v, K v ∧ ∀ w, (convert s d (a.eval x)).run P w = .ok v.toV w := by
  simp only [psem] at h
  obtain ⟨m, h1, h⟩ := withF_sound ha h
  refine ⟨_, h, fun w => ?_⟩
  rw [h1]
  simp [convert, run_underlying hs, run_underlying hd, Conv.floatToFloat, SV.toV]

theorem no_next {fn : Func} {n : String} (hn : fn.name = n) (ho : fn.origin = "") (h1 : Extern.allNextRows.lookup n = none) (h2 : Extern.allNextRows.lookup "" = none) : Extern.findNext fn = none := by
  simp [Extern.findNext, hn, ho, h1, h2]

theorem a_row {fn : Func} {n : String} {r : Array Value → Sem Value} (hn : fn.name = n) (h1 : Extern.allGenericRows.lookup n = none) (h2 : Extern.allTypedRows.lookup n = none) (h3 : Extern.allRows.lookup n = some r) : Extern.find fn = some r := by
  simp [Extern.find, hn, h1, h2, h3]

theorem next_nil : Extern.allNextRows.lookup "" = none := by kernel_rfl
theorem bits_next : Extern.allNextRows.lookup "math.Float64bits" = none := by kernel_rfl
theorem bits_row1 : Extern.allGenericRows.lookup "math.Float64bits" = none := by kernel_rfl
theorem bits_row2 : Extern.allTypedRows.lookup "math.Float64bits" = none := by kernel_rfl
theorem bits_row3 : Extern.allRows.lookup "math.Float64bits" = some Extern.MathFloatBits.float64bits := by kernel_rfl
theorem from_next : Extern.allNextRows.lookup "math.Float64frombits" = none := by kernel_rfl
theorem from_row1 : Extern.allGenericRows.lookup "math.Float64frombits" = none := by kernel_rfl
theorem from_row2 : Extern.allTypedRows.lookup "math.Float64frombits" = none := by kernel_rfl
theorem from_row3 : Extern.allRows.lookup "math.Float64frombits" = some Extern.MathFloatBits.float64frombits := by kernel_rfl
theorem floor_next : Extern.allNextRows.lookup "math.archFloor" = none := by kernel_rfl
theorem floor_row1 : Extern.allGenericRows.lookup "math.archFloor" = none := by kernel_rfl
theorem floor_row2 : Extern.allTypedRows.lookup "math.archFloor" = none := by kernel_rfl
theorem floor_row3 : Extern.allRows.lookup "math.archFloor" = some (Extern.MathFloor.toIntegral "math.archFloor" .down) := by kernel_rfl

theorem ext_call {o : Oper} {f : FuncId} {x : Operand} {ts : Array TypeId} {fn : Func} {r : Array Value → Sem Value} (ho : o.op = .call { callee := .value (.func f), args := #[x], argTypes := ts })
    (hf : P.funcs[f]? = some fn) (hb : fn.body = none) (hn : (fn.name == "runtime.NumGoroutine") = false) (h1 : Extern.findNext fn = none) (h2 : Extern.find fn = some r) (w : World) :
    (execOp a.eval o).run P w = (do pure (.value (← r #[a.eval x])) : Sem Next).run P w := by
  simp only [execOp, ho, resolve, Sem.run_bind, Act.eval, Deferred.ofValue, Sem.run_pure, Result.andThen_ok, invoke, callFunc, run_program, hf, hn, hb, Bool.false_eq_true, if_false]
  simp [h1, h2, Act.eval]

theorem floor_at (nm : String) (way : Ieee.Toward) : ∃ N : Nat → Bool → Nat → Sem Value, ∀ m : Nat, Extern.MathFloor.toIntegral nm way #[.float .f64 m] =
    match FloatKind.f64.decode m with
    | .nan s t => N m s t
    | d => pure (.float .f64 (FloatKind.f64.encode (d.integral way))) :=
  ⟨_, fun _ => rfl⟩

theorem ext_fn_sound {o : Oper} {f : FuncId} {as : Array Operand} {ts : Array TypeId} {p : POp} {K : SV → Prop} (ho : o.op = .call { callee := .value (.func f), args := as, argTypes := ts })
    (hc : compX P f as.toList = some p) (ha : Agree S a) (h : psem p S K) : PSound P a o K := by
  obtain ⟨as⟩ := as
  unfold compX at hc
  split at hc
  · rename_i fn hf
    split at hc
    · cases hc
    · rename_i hb
      split at hc
      · rename_i x ho' hx horg
        simp only at hx
        subst hx
        have horg' : fn.origin = "" := by simpa using horg
        split at hc
        · rename_i hn
          have hn' : fn.name = "math.Float64bits" := by simpa using hn
          simp only [Option.some.injEq] at hc; subst hc
          simp only [psem] at h
          obtain ⟨m, h1, h⟩ := withF_sound ha h
          refine ⟨_, h, fun w => ?_⟩
          rw [ext_call ho hf hb (by rw [hn']; decide) (no_next hn' horg' bits_next next_nil) (a_row hn' bits_row1 bits_row2 bits_row3), h1]
          rfl
        · split at hc
          · rename_i hn
            have hn' : fn.name = "math.Float64frombits" := by simpa using hn
            simp only [Option.some.injEq] at hc; subst hc
            simp only [psem] at h
            obtain ⟨k, m, h1, h⟩ := withI_sound ha h
            split at h
            · refine ⟨_, h, fun w => ?_⟩
              rw [ext_call ho hf hb (by rw [hn']; decide) (no_next hn' horg' from_next next_nil) (a_row hn' from_row1 from_row2 from_row3), h1]
              rfl
            · exact h.elim
          · split at hc
            · rename_i hn
              have hn' : fn.name = "math.archFloor" := by simpa using hn
              simp only [Option.some.injEq] at hc; subst hc
              simp only [psem] at h
              obtain ⟨m, h1, h2, h⟩ := withF_sound ha h
              refine ⟨_, h _ rfl, fun w => ?_⟩
              rw [ext_call ho hf hb (by rw [hn']; decide) (no_next hn' horg' floor_next next_nil) (a_row hn' floor_row1 floor_row2 floor_row3), h1]
              have hd : FloatKind.f64.decode m = Ieee.double.read m := rfl
              unfold FNan at h2
              obtain ⟨N, hN⟩ := floor_at "math.archFloor" .down
              rw [hN, hd]
              generalize Ieee.double.read m = d at *
              cases d
              · rfl
              · rfl
              · exact absurd rfl h2
            · cases hc
      · cases hc
  · cases hc
end
end Go.Vc

namespace Go.Vc

section
variable {P : Program} {S : Sym} {a : Act}

theorem run_zeroValue {t : TypeId} {z : Value} (h : zeroOf P t = some z) (w : World) : (zeroValue t).run P w = .ok z w := by
  unfold zeroOf at h
  cases hi : P.info? t with
  | none => simp [hi] at h
  | some i =>
    simp only [hi, Option.bind_some] at h
    simp [zeroValue, typeInfo, hi, h]

theorem run_mapM_pure {α β : Type} (f : α → Sem β) (g : α → β) (w : World) : ∀ (l : List α), (∀ x ∈ l, (f x).run P w = .ok (g x) w) → (l.mapM f).run P w = .ok (l.map g) w
  | [], _ => by simp
  | x :: r, h => by
    simp [List.mapM_cons, h x (by simp), run_mapM_pure f g w r (fun y hy => h y (by simp [hy]))]

theorem compParts_info {fs : Array Field} : ∀ (parts : List (Nat × Operand)) (l : List (Nat × Nat × Src)), compParts P fs parts = some l → ∀ i x, (i, x) ∈ parts → ∃ f, fs[i]? = some f ∧ (P.info? f.type).isSome = true
  | [], _, _, i, x, h => by cases h
  | (j, y) :: r, l, hc, i, x, h => by
    simp only [compParts] at hc
    split at hc
    · rename_i f hf
      split at hc
      · rename_i inf hinf
        cases hr : compParts P fs r with
        | none => simp [hr] at hc
        | some l' =>
          rcases List.mem_cons.1 h with h | h
          · cases h; exact ⟨f, hf, by simp [hinf]⟩
          · exact compParts_info r l' hr i x h
      · cases hc
    · cases hc

theorem build_sound {t : TypeId} {z : Value} {fs : Array Field} {parts : Array (Nat × Operand)} {l : List (Nat × Nat × Src)} {K : SV → Prop} (ht : P.underlying t = some (.struct fs)) (hz : zeroOf P t = some z) (hall : allInfo P fs = true)
    (hc : compParts P fs parts.toList = some l) (ha : Agree S a) (h : psem (.build z.cells.toList l) S K) :
    ∃ s, K s ∧ ∀ w, (Instr.build t (parts.map fun (i, x) => (i, a.eval x))).run P w = .ok s.toV w := by
  simp only [psem] at h
  have hall' : ∀ f ∈ fs, (P.info? f.type).isSome = true := by
    intro f hf
    exact List.all_eq_true.1 hall f (by simpa using hf)
  obtain ⟨cs, h1, h2⟩ := filled_sound (P := P) ha fs (fs.map fun f => (f.offset, P.cellsOf f.type)) (fun i f hf _ => by simp [hf]) parts.toList l _ _ hc h
  refine ⟨_, h2, fun w => ?_⟩
  have hm : (fs.mapM fun f => do pure (f.offset, ← sizeOf f.type) : Sem (Array (Nat × Nat))).run P w = .ok (fs.map fun f => (f.offset, P.cellsOf f.type)) w := by
    have := run_mapM_pure (P := P) (fun f : Field => do pure (f.offset, ← sizeOf f.type)) (fun f => (f.offset, P.cellsOf f.type)) w fs.toList (fun f hf => by
      simp [run_sizeOf (hall' f (by simpa using hf))])
    rw [← Array.toArray_toList (xs := fs), List.mapM_toArray, Sem.run_map, this]
    simp only [Result.andThen_ok]
    congr 1
    apply Array.ext'
    simp
  simp only [Instr.build, Sem.run_bind, run_zeroValue hz, Result.andThen_ok, run_underlying ht, hm]
  have e : (parts.map fun (i, x) => (i, a.eval x)).toList = parts.toList.map fun (i, x) => (i, a.eval x) := by simp
  rw [e]
  simp only [Array.toArray_toList] at h1
  rw [h1]
  simp [SV.toV]

theorem psound_of {o : Oper} {K : SV → Prop} {x : Sem Value} (he : execOp a.eval o = (do pure (.value (← x)))) (h : ∃ s, K s ∧ ∀ w, x.run P w = .ok s.toV w) : PSound P a o K := by
  obtain ⟨s, hk, hx⟩ := h
  exact ⟨s, hk, fun w => by rw [he]; simp [hx w]⟩

theorem pure_sound {o : Oper} {p : POp} {K : SV → Prop} (hc : compP P o.op = some p) (ha : Agree S a) (h : psem p S K) : PSound P a o K := by
  obtain ⟨dst, op, type, pos, after, guard⟩ := o
  cases op with
  | move x =>
    simp only [compP, Option.some.injEq] at hc; subst hc
    obtain ⟨s, h1, h2⟩ := withS_sound ha h
    exact ⟨s, h2, fun w => by simp [execOp, h1]⟩
  | assign x =>
    simp only [compP, Option.some.injEq] at hc; subst hc
    obtain ⟨s, h1, h2⟩ := withS_sound ha h
    exact ⟨s, h2, fun w => by simp [execOp, h1]⟩
  | pick c x y =>
    simp only [compP, Option.some.injEq] at hc; subst hc
    simp only [psem] at h
    obtain ⟨s, h1, h2⟩ := withS_sound ha h
    obtain ⟨b, h3, h4⟩ := branch_sound h2
    cases b
    · obtain ⟨s', h5, h6⟩ := withS_sound ha h4
      exact ⟨s', h6, fun w => by simp [execOp, h1, h3, asBool, h5]⟩
    · obtain ⟨s', h5, h6⟩ := withS_sound ha h4
      exact ⟨s', h6, fun w => by simp [execOp, h1, h3, asBool, h5]⟩
  | binOp bop t x y ty =>
    simp only [compP] at hc
    split at hc
    · simp only [Option.some.injEq] at hc; subst hc; exact psound_of rfl (bin_sound t ha h)
    · simp only [Option.some.injEq] at hc; subst hc; exact psound_of rfl (bin_sound t ha h)
    · simp only [Option.some.injEq] at hc; subst hc; exact psound_of rfl (fbin_sound t ha h)
    · rename_i ht
      split at hc
      · simp only [Option.some.injEq] at hc; subst hc; exact psound_of rfl (beq_sound ht rfl ha h)
      · simp only [Option.some.injEq] at hc; subst hc; exact psound_of rfl (beq_sound ht rfl ha h)
      · cases hc
    · rename_i e ht
      split at hc
      · simp only [Option.some.injEq] at hc; subst hc; exact psound_of rfl (peq_sound ht rfl ha h)
      · simp only [Option.some.injEq] at hc; subst hc; exact psound_of rfl (peq_sound ht rfl ha h)
      · cases hc
    · rename_i e ht
      split at hc
      · simp only [Option.some.injEq] at hc; subst hc; exact psound_of rfl (leq_sound ht rfl ha h)
      · simp only [Option.some.injEq] at hc; subst hc; exact psound_of rfl (leq_sound ht rfl ha h)
      · cases hc
    · rename_i ms ht
      split at hc
      · split at hc
        · simp only [Option.some.injEq] at hc; subst hc; exact psound_of rfl (ifn_sound ht rfl ha h)
        · simp only [Option.some.injEq] at hc; subst hc; exact psound_of rfl (ifn_sound ht rfl ha h)
        · cases hc
      · split at hc
        · simp only [Option.some.injEq] at hc; subst hc; exact psound_of rfl (ife_sound ht rfl ha h)
        · simp only [Option.some.injEq] at hc; subst hc; exact psound_of rfl (ife_sound ht rfl ha h)
        · cases hc
    · rename_i fs ht
      split at hc
      · rename_i hb
        simp only [Bool.and_eq_true, Bool.not_eq_true'] at hb
        split at hc
        · simp only [Option.some.injEq] at hc; subst hc; exact psound_of rfl (aeq_sound ht hb.1.1 hb.1.2 hb.2 rfl ha h)
        · simp only [Option.some.injEq] at hc; subst hc; exact psound_of rfl (aeq_sound ht hb.1.1 hb.1.2 hb.2 rfl ha h)
        · cases hc
      · cases hc
    · cases hc
  | unOp uop t x =>
    simp only [compP] at hc
    split at hc
    · simp only [Option.some.injEq] at hc; subst hc; exact psound_of rfl (not_sound ha h)
    · simp only [Option.some.injEq] at hc; subst hc; exact psound_of rfl (neg_sound ha h)
    · simp only [Option.some.injEq] at hc; subst hc; exact psound_of rfl (bnot_sound ha h)
    · cases hc
  | nilCheck x =>
    simp only [compP, Option.some.injEq] at hc; subst hc
    exact nilchk_sound rfl ha h
  | fieldAddr t x f =>
    simp only [compP] at hc
    split at hc
    · rename_i fs ht
      split at hc
      · rename_i fd hf
        split at hc
        · rename_i hb
          simp only [Bool.and_eq_true, Bool.not_eq_true'] at hb
          simp only [Option.some.injEq] at hc; subst hc
          exact psound_of rfl (faddr_sound ht hf hb.1 (fun h0 => by rw [h0] at hb; exact absurd hb.2 (by decide)) ha h)
        · cases hc
      · cases hc
    · cases hc
  | indexAddr t x i =>
    simp only [compP] at hc
    split at hc
    · rename_i e ht
      split at hc
      · rename_i hi
        simp only [Option.some.injEq] at hc; subst hc
        exact psound_of rfl (iaddr_sound ht hi ha h)
      · cases hc
    · rename_i n e ht
      split at hc
      · rename_i hi
        simp only [Option.some.injEq] at hc; subst hc
        exact psound_of rfl (aaddr_sound ht hi ha h)
      · cases hc
    · cases hc
  | field t x f =>
    simp only [compP] at hc
    split at hc
    · rename_i fs ht
      split at hc
      · rename_i fd hf
        split at hc
        · rename_i hg
          split at hc
          · rename_i hi
            simp only [Option.some.injEq] at hc; subst hc
            exact psound_of rfl (fld_sound ht hf (.inl ⟨rfl, hi, hg⟩) ha h)
          · cases hc
        · rename_i hg
          split at hc
          · rename_i hi
            simp only [Option.some.injEq] at hc; subst hc
            exact psound_of rfl (fld_sound ht hf (.inr ⟨rfl, by simp [scalarT, hg, hi]⟩) ha h)
          · cases hc
      · cases hc
    · cases hc
  | index t x i =>
    simp only [compP] at hc
    split at hc
    · rename_i ht
      simp only [Option.some.injEq] at hc; subst hc
      exact psound_of rfl (idxs_sound ht ha h)
    · rename_i n e ht
      split at hc
      · rename_i he
        split at hc
        · rename_i hb
          simp only [Bool.and_eq_true] at hb
          simp only [Option.some.injEq] at hc; subst hc
          exact psound_of rfl (idxi_sound ht he hb.1 (Nat.eq_of_beq_eq_true hb.2) ha h)
        · cases hc
      · rename_i he
        split at hc
        · rename_i hb
          simp only [Bool.and_eq_true] at hb
          simp only [Option.some.injEq] at hc; subst hc
          exact psound_of rfl (idxt_sound ht he hb.1 (Nat.eq_of_beq_eq_true hb.2) ha h)
        · cases hc
      · cases hc
    · cases hc
  | extract x i =>
    simp only [compP, Option.some.injEq] at hc; subst hc
    exact psound_of rfl (ext_sound ha h)
  | convert s d x =>
    simp only [compP] at hc
    split at hc
    · rename_i h1 h2
      simp only [Option.some.injEq] at hc; subst hc
      exact psound_of rfl (conv_sound h1 h2 ha h)
    · rename_i h1 h2
      simp only [Option.some.injEq] at hc; subst hc
      exact psound_of rfl (i2f_sound h1 h2 ha h)
    · rename_i h1 h2
      simp only [Option.some.injEq] at hc; subst hc
      exact psound_of rfl (f2i_sound h1 h2 ha h)
    · rename_i h1 h2
      simp only [Option.some.injEq] at hc; subst hc
      exact psound_of rfl (f2f_sound h1 h2 ha h)
    · cases hc
  | slice t x lo hi m =>
    simp only [compP] at hc
    split at hc
    · rename_i e ht
      split at hc
      · rename_i hi'
        simp only [Option.some.injEq] at hc; subst hc
        exact psound_of rfl (slc_sound ht hi' ha h)
      · cases hc
    · rename_i ht
      split at hc
      · simp only [Option.some.injEq] at hc; subst hc
        exact psound_of rfl (slct_sound ht ha h)
      · cases hc
    · rename_i n e ht
      split at hc
      · split at hc
        · rename_i hi'
          simp only [Option.some.injEq] at hc; subst hc
          exact psound_of rfl (slca_sound ht hi' ha h)
        · cases hc
      · cases hc
    · cases hc
  | build t parts =>
    simp only [compP] at hc
    split at hc
    · rename_i fs z ht hz
      split at hc
      · rename_i hall
        cases hr : compParts P fs parts.toList with
        | none => simp [hr] at hc
        | some l =>
          simp only [hr, Option.map_some, Option.some.injEq] at hc; subst hc
          exact psound_of rfl (build_sound ht hz hall hr ha h)
      · cases hc
    · rename_i n e z ht hz
      split at hc
      · rename_i hi
        simp only [Option.some.injEq] at hc; subst hc
        exact psound_of rfl (buildA_sound ht hz hi ha h)
      · cases hc
    · cases hc
  | makeFunc fn first cap =>
    simp only [compP, Option.some.injEq] at hc; subst hc
    simp only [psem] at h
    have h1 := withVs_sound ha cap.toList (withVs_sound ha first.toList h)
    refine ⟨_, h1, fun w => ?_⟩
    have e1 : Array.map a.eval first = (List.map a.eval first.toList).toArray := by apply Array.ext'; simp
    have e2 : Array.map a.eval cap = (List.map a.eval cap.toList).toArray := by apply Array.ext'; simp
    simp [execOp, Instr.makeFunc, SV.toV, e1, e2]
  | makeInterface t x =>
    simp only [compP] at hc
    split at hc
    · cases hc
    · rename_i d hd ht
      simp only [Option.some.injEq] at hc; subst hc
      simp only [psem] at h
      have h1 := withV_sound ha h
      refine psound_of rfl ⟨_, h1, fun w => ?_⟩
      simp only [Instr.makeInterface, Sem.run_bind, run_underlying ht, Result.andThen_ok]
      cases d <;> first | rfl | exact (hd _ rfl).elim
    · cases hc
  | call c =>
    obtain ⟨callee, as, ts⟩ := c
    cases callee with
    | value f =>
      cases f with
      | func f =>
        simp only [compP] at hc
        exact ext_fn_sound rfl hc ha h
      | _ => simp [compP] at hc
    | invoke r m => simp [compP] at hc
    | builtin b =>
      obtain ⟨as⟩ := as
      obtain ⟨ts⟩ := ts
      simp only [compP] at hc
      split at hc
      · rename_i x t
        split at hc
        · rename_i e ht
          simp only [Option.some.injEq] at hc; subst hc
          exact psound_of (by simp [execOp, resolve, invoke, builtin]) (lens_sound (ty := type) ht ha h)
        · rename_i ht
          simp only [Option.some.injEq] at hc; subst hc
          exact psound_of (by simp [execOp, resolve, invoke, builtin]) (lent_sound (ty := type) ht ha h)
        · cases hc
      · rename_i x t
        split at hc
        · rename_i e ht
          simp only [Option.some.injEq] at hc; subst hc
          exact psound_of (by simp [execOp, resolve, invoke, builtin]) (caps_sound (ty := type) ht ha h)
        · cases hc
      · rename_i x y _
        simp only [Option.some.injEq] at hc; subst hc
        exact psound_of (by simp [execOp, resolve, invoke, builtin]) (mx_sound (ts := ts.toArray) (ty := type) ha h)
      · rename_i x y t t2
        split at hc
        · rename_i ht
          simp only [Option.some.injEq] at hc; subst hc
          exact psound_of (by simp [execOp, resolve, invoke, builtin]) (fmn_sound (ts := #[t, t2]) (ty := type) ha h)
        · simp only [Option.some.injEq] at hc; subst hc
          exact psound_of (by simp [execOp, resolve, invoke, builtin]) (mn_sound (ts := #[t, t2]) (ty := type) ha h)
      · cases hc
  | _ => simp [compP] at hc
end
end Go.Vc

namespace Go.Vc

theorem findNow_int {ik : IntKind} (k : Int) : ∀ (es : List MapEntry) (l : List (Int × Value)) (i : Nat), es.map (fun e => (e.key, e.val)) = l.map (fun p => (.int .i64 p.1, p.2)) →
    (Instr.findNow (.int ik) (.int .i64 k) es i = some none ∧ (∀ z, mapGet l k z = z) ∧ (∀ v, mapSet l k v = l ++ [(k, v)]) ∧ mapHas l k = false ∧ ∀ e ∈ es, e.key ≠ .int .i64 k) ∨
    ∃ j e, Instr.findNow (.int ik) (.int .i64 k) es i = some (some (i + j, e.val)) ∧ es[j]? = some e ∧ e.key = .int .i64 k ∧ (∀ z, mapGet l k z = e.val) ∧ mapHas l k = true ∧
      ∀ v, (es.modify j fun e => { e with key := .int .i64 k, val := v }).map (fun e => (e.key, e.val)) = (mapSet l k v).map (fun p => (.int .i64 p.1, p.2))
  | [], [], i, _ => .inl ⟨rfl, fun _ => rfl, fun _ => rfl, rfl, by simp⟩
  | [], _ :: _, _, h => by simp at h
  | _ :: _, [], _, h => by simp at h
  | e :: es, p :: l, i, h => by
    simp only [List.map_cons, List.cons.injEq, Prod.mk.injEq] at h
    obtain ⟨⟨h1, h2⟩, h3⟩ := h
    by_cases hk : p.1 = k
    · refine .inr ⟨0, e, ?_, rfl, by rw [h1, hk], fun z => ?_, by simp [mapHas, hk], fun v => ?_⟩
      · simp [Instr.findNow, Instr.sameNow, h1, hk]
      · simp [mapGet, hk, h2]
      · simp [mapSet, hk, h3]
    · have hne : (k == p.1) = false := by simpa using fun e => hk e.symm
      have hne' : (p.1 == k) = false := by simpa using hk
      have hstep : Instr.findNow (.int ik) (.int .i64 k) (e :: es) i = Instr.findNow (.int ik) (.int .i64 k) es (i + 1) := by
        simp only [Instr.findNow, Instr.sameNow, h1, if_true, hne]
      rcases findNow_int (ik := ik) k es l (i + 1) h3 with ⟨g1, g2, g3, g4, g5⟩ | ⟨j, e', g1, g2, g3, g4, g6, g5⟩
      · refine .inl ⟨by rw [hstep, g1], fun z => by simp [mapGet, hk, g2], fun v => by simp [mapSet, hk, g3], ?_, ?_⟩
        · simp only [mapHas, List.any_cons, hne', Bool.false_or]; exact g4
        · intro x hx
          rcases List.mem_cons.1 hx with rfl | hx
          · rw [h1]; intro he; cases he; exact hk rfl
          · exact g5 x hx
      · refine .inr ⟨j + 1, e', ?_, by simpa using g2, g3, fun z => by simp [mapGet, hk, g4], ?_, fun v => ?_⟩
        · rw [hstep, g1]; congr 3; omega
        · simp only [mapHas, List.any_cons, hne', Bool.false_or]; exact g6
        · have := g5 v
          simp [mapSet, hk, h1, h2, this]

section
variable {P : Program}

theorem run_find_int {kt : TypeId} {ik : IntKind} (hk : P.underlying kt = some (.int ik)) {k : Int} {es : Array MapEntry} {l : List (Int × Value)} (h : es.toList.map (fun e => (e.key, e.val)) = l.map (fun p => (.int .i64 p.1, p.2))) (w : World) :
    ((Instr.findKey kt (.int .i64 k) es.toList).run P w = .ok none w ∧ (∀ z, mapGet l k z = z) ∧ (∀ v, mapSet l k v = l ++ [(k, v)]) ∧ mapHas l k = false ∧ ∀ e ∈ es.toList, e.key ≠ .int .i64 k) ∨
    ∃ j e, (Instr.findKey kt (.int .i64 k) es.toList).run P w = .ok (some (j, e.val)) w ∧ es[j]? = some e ∧ e.key = .int .i64 k ∧ (∀ z, mapGet l k z = e.val) ∧ mapHas l k = true ∧
      ∀ v, ((es.modify j fun e => { e with key := .int .i64 k, val := v }).toList).map (fun e => (e.key, e.val)) = (mapSet l k v).map (fun p => (.int .i64 p.1, p.2)) := by
  rcases findNow_int (ik := ik) k es.toList l 0 h with ⟨g1, g2, g3, g4, g5⟩ | ⟨j, e, g1, g2, g3, g4, g6, g5⟩
  · exact .inl ⟨MapKept.run_findKey hk g1, g2, g3, g4, g5⟩
  · refine .inr ⟨j, e, by simpa using MapKept.run_findKey hk g1, by simpa using g2, g3, g4, g6, fun v => ?_⟩
    rw [Array.toList_modify]
    exact g5 v

theorem run_check_int {kt : TypeId} {ik : IntKind} (hk : P.underlying kt = some (.int ik)) (em : Bool) (k : Int) (w : World) : (Instr.checkKey em 10000 kt (.int .i64 k)).run P w = .ok () w := by
  unfold Instr.checkKey
  simp [run_underlying hk]

theorem lookup_run {t kt e : TypeId} {z : Value} (ht : P.underlying t = some (.map kt e)) (hk : P.underlying kt = some (.int .i64)) (hz : zeroOf P e = some z) {w : World} {r : Nat} {l : List (Int × Value)} {n : Int} (hm : MapIs w.heap r l) :
    (Instr.lookup t (.map (some r)) (.int .i64 n) false).run P w = .ok (mapGet l n z) w ∧ (Instr.lookup t (.map (some r)) (.int .i64 n) true).run P w = .ok (.tuple #[mapGet l n z, .bool (mapHas l n)]) w := by
  obtain ⟨es, clock, hb, he, _⟩ := hm
  have hg := MapKept.run_getObj_map (P := P) hb
  simp only [Instr.lookup, Sem.run_bind, run_underlying ht, Result.andThen_ok, hg, Sem.run_pure, run_check_int hk]
  rcases run_find_int hk (k := n) he w with ⟨g1, g2, _, g4, _⟩ | ⟨j, x, g1, _, _, g4, g5, _⟩
  · simp only [g1, Result.andThen_ok, Sem.run_bind, run_zeroValue hz, Sem.run_pure, g2, g4]
    exact ⟨rfl, rfl⟩
  · simp only [g1, Result.andThen_ok, g4, g5]
    exact ⟨rfl, rfl⟩

theorem mapUpdate_run {t kt e : TypeId} (ht : P.underlying t = some (.map kt e)) (hk : P.underlying kt = some (.int .i64)) {w : World} {r : Nat} {l : List (Int × Value)} {n : Int} (v : Value) (hm : MapIs w.heap r l) :
    ∃ H', MapPut w.heap r (mapSet l n v) H' ∧ (Instr.mapUpdate t (.map (some r)) (.int .i64 n) v).run P w = .ok () { w with heap := H' } := by
  obtain ⟨es, clock, hb, he, hst⟩ := hm
  have hg := MapKept.run_getObj_map (P := P) hb
  rcases run_find_int hk (k := n) he w with ⟨g1, g2, g3, _, gk⟩ | ⟨j, x, g1, gj, gk, g4, _, g5⟩
  · refine ⟨_, ⟨es.push { key := .int .i64 n, val := v, born := clock }, clock + 1, ?_, rfl, MapKept.stamped_push hst gk⟩, ?_⟩
    · rw [g3]; simp [he]
    · simp only [Instr.mapUpdate, Sem.run_bind, run_underlying ht, Result.andThen_ok, hg, run_check_int hk, g1, MapKept.run_setObj_map _ hb]
  · refine ⟨_, ⟨es.modify j fun e => { e with key := .int .i64 n, val := v }, clock, g5 v, rfl, MapKept.stamped_modify hst j _ (fun _ _ => rfl) (fun y _ hy => ?_)⟩, ?_⟩
    · rw [gj] at hy
      simp only [Option.some.injEq] at hy
      subst hy
      exact gk.symm
    have hs : (Instr.keyThatStays (((es[j]?).map (·.key)).getD (.int .i64 n)) (.int .i64 n)).run P w = .ok (.int .i64 n) w := by
      rw [gj]
      simp [gk, Instr.keyThatStays, Instr.sameBits]
    simp only [Instr.mapUpdate, Sem.run_bind, run_underlying ht, Result.andThen_ok, hg, run_check_int hk, g1, hs, MapKept.run_setObj_map _ hb]

theorem findNow_del {ik : IntKind} (k : Int) : ∀ (es : List MapEntry) (l : List (Int × Value)) (i : Nat), es.map (fun e => (e.key, e.val)) = l.map (fun p => (.int .i64 p.1, p.2)) →
    (Instr.findNow (.int ik) (.int .i64 k) es i = some none ∧ mapDel l k = l) ∨
    ∃ j e, Instr.findNow (.int ik) (.int .i64 k) es i = some (some (i + j, e)) ∧ j < es.length ∧ (es.eraseIdx j).map (fun e => (e.key, e.val)) = (mapDel l k).map (fun p => (.int .i64 p.1, p.2))
  | [], [], i, _ => .inl ⟨rfl, rfl⟩
  | [], _ :: _, _, h => by simp at h
  | _ :: _, [], _, h => by simp at h
  | e :: es, p :: l, i, h => by
    simp only [List.map_cons, List.cons.injEq, Prod.mk.injEq] at h
    obtain ⟨⟨h1, h2⟩, h3⟩ := h
    by_cases hk : p.1 = k
    · refine .inr ⟨0, e.val, ?_, by simp, ?_⟩
      · simp [Instr.findNow, Instr.sameNow, h1, hk]
      · simp [mapDel, hk, h3]
    · have hne : (k == p.1) = false := by simpa using fun e => hk e.symm
      have hstep : Instr.findNow (.int ik) (.int .i64 k) (e :: es) i = Instr.findNow (.int ik) (.int .i64 k) es (i + 1) := by
        simp only [Instr.findNow, Instr.sameNow, h1, if_true, hne]
      rcases findNow_del (ik := ik) k es l (i + 1) h3 with ⟨g1, g2⟩ | ⟨j, e', g1, g2, g3⟩
      · exact .inl ⟨by rw [hstep, g1], by simp [mapDel, hk, g2]⟩
      · refine .inr ⟨j + 1, e', ?_, by simp; omega, ?_⟩
        · rw [hstep, g1]; congr 3; omega
        · simp [mapDel, hk, h1, h2, g3]
theorem mapDelete_run {t kt e u : TypeId} {ty : TypeId} (ht : P.underlying t = some (.map kt e)) (hk : P.underlying kt = some (.int .i64)) {w : World} {r : Nat} {l : List (Int × Value)} {n : Int} (hm : MapIs w.heap r l) :
    ∃ H', MapPut w.heap r (mapDel l n) H' ∧ (Builtin.delete_ #[t, u] ty #[.map (some r), .int .i64 n]).run P w = .ok (.tuple #[]) { w with heap := H' } := by
  obtain ⟨es, clock, hb, he, hst⟩ := hm
  have hg := MapKept.run_getObj_map (P := P) hb
  rcases findNow_del (ik := .i64) n es.toList l 0 he with ⟨g1, g2⟩ | ⟨j, x, g1, g2, g3⟩
  · have g1 := MapKept.run_findKey (P := P) (w := w) hk g1
    refine ⟨_, ⟨es, clock, by rw [g2]; exact he, rfl, hst⟩, ?_⟩
    simp [Builtin.delete_, run_underlying ht, hg, run_check_int hk, g1, MapKept.run_setObj_map _ hb]
  · have g1 := MapKept.run_findKey (P := P) (w := w) hk g1
    rw [Nat.zero_add] at g1
    refine ⟨_, ⟨es.eraseIdxIfInBounds j, clock, ?_, rfl, MapKept.stamped_erase hst j⟩, ?_⟩
    · have hj : j < es.size := by simpa using g2
      unfold Array.eraseIdxIfInBounds
      rw [dif_pos hj]
      simpa using g3
    · simp [Builtin.delete_, run_underlying ht, hg, run_check_int hk, g1, MapKept.run_setObj_map _ hb]
theorem mapLen_run {t kt e : TypeId} {ty : TypeId} (ht : P.underlying t = some (.map kt e)) {w : World} {r : Nat} {l : List (Int × Value)} (hm : MapIs w.heap r l) :
    (Builtin.len_ #[t] ty #[.map (some r)]).run P w = .ok (.int .i64 (l.length : Int)) w := by
  obtain ⟨es, clock, hb, he, hst⟩ := hm
  have hg := MapKept.run_getObj_map (P := P) hb
  have hl : es.size = l.length := by
    have := congrArg List.length he
    simpa using this
  simp [Builtin.len_, run_underlying ht, hg, goInt, hl]
end
end Go.Vc

namespace Go.Vc

theorem cell_eq (w : World) (b o : Nat) : w.cell? ⟨b, o, none⟩ = hcell w.heap b o := by
  unfold World.cell? hcell
  cases w.heap[b]? with
  | none => rfl
  | some x => cases x <;> simp

theorem frozen_eq (w : World) (b o : Nat) : w.frozen? ⟨b, o, none⟩ = hfrozen w.heap b o := by
  unfold World.frozen? hfrozen
  cases w.heap[b]? with
  | none => rfl
  | some x => cases x <;> rfl

theorem ex1_sound {z : Value} {K : Value → Prop} (h : ex1 z K) : ∃ v, K v := by
  cases z <;> simp only [ex1] at h <;> first
    | (obtain ⟨n, h⟩ := h; exact ⟨_, h⟩)
    | (obtain ⟨n, m, q, h⟩ := h; exact ⟨_, h⟩)

theorem exO_sound {z : Option Value} {K : Value → Prop} (h : exO z K) : ∃ v, K v := by
  cases z with
  | some z => exact ex1_sound h
  | none => exact h

theorem isL_cons {H : Heap} {b o : Nat} {v : Value} {r : List Value} : isL H b o (v :: r) ↔ hcell H b o = some v ∧ isL H b (o + 1) r := by
  cases r <;> simp [isL]

theorem isL_get {H : Heap} {b : Nat} : ∀ {vs : List Value} {o : Nat}, isL H b o vs → ∀ j v, vs[j]? = some v → hcell H b (o + j) = some v
  | [], _, _, j, v, h => by simp at h
  | u :: r, o, hl, 0, v, h => by simp at h; subst h; exact (isL_cons.1 hl).1
  | u :: r, o, hl, j + 1, v, h => by
    have := isL_get (isL_cons.1 hl).2 j v (by simpa using h)
    rwa [show o + (j + 1) = o + 1 + j by omega]

theorem exL_sound {H : Heap} {b : Nat} : ∀ {z : List Value} {o : Nat} {K : List Value → Prop}, exL H b z o K → ∃ vs, vs.length = z.length ∧ isL H b o vs ∧ K vs
  | [], _, _, h => ⟨[], rfl, trivial, h⟩
  | z :: r, o, K, h => by
    simp only [exL] at h
    obtain ⟨v, hv, h⟩ := ex1_sound h
    obtain ⟨vs, h1, h2, h3⟩ := exL_sound h
    exact ⟨v :: vs, by simp [h1], isL_cons.2 ⟨hv, h2⟩, h3⟩

section
variable {P : Program} {S : Sym} {a : Act}

theorem run_loadCells_isL {w : World} {b o : Nat} {vs : List Value} (h : isL w.heap b o vs) : (loadCells ⟨b, o, none⟩ vs.length).run P w = .ok vs.toArray w :=
  run_loadCells_list (P := P) w ⟨b, o, none⟩ vs (fun j v hj => by rw [Addr.add_lit, cell_eq]; exact isL_get h j v hj)

theorem run_isAgg (t : TypeId) {d : TypeDesc} (ht : P.underlying t = some d) (w : World) : (isAgg t).run P w = .ok (isAggT P t) w := by
  unfold isAggT
  cases d <;> simp [isAgg, run_underlying ht, ht]

theorem ovl_next : Extern.allNextRows.lookup "slices.overlaps" = none := by kernel_rfl
theorem ovl_row1 : Extern.allGenericRows.lookup "slices.overlaps" = none := by kernel_rfl
theorem ovl_row2 : Extern.allTypedRows.lookup "slices.overlaps" = some Extern.SlicesOverlaps.overlaps := by kernel_rfl

theorem pushes : ∀ (l : List UInt8) (s : ByteArray), (l.map fun b : UInt8 => (b.toNat : Int)).foldl (fun r n => r.push (UInt8.ofNat n.toNat)) s = ⟨s.data ++ l.toArray⟩
  | [], s => by cases s; simp
  | b :: l, s => by
    simp only [List.map_cons, List.foldl_cons]
    rw [pushes l]
    have : UInt8.ofNat (Int.toNat ((b.toNat : Nat) : Int)) = b := by simp
    rw [this]
    simp [ByteArray.push]

theorem ovl_sound {o : Oper} {f : FuncId} {fn : Func} {x y : Operand} {ts : Array TypeId} {H : Heap} {K : SV → (Heap → Prop) → Prop} (ho : o.op = .call { callee := .value (.func f), args := #[x, y], argTypes := ts })
    (hf : P.funcs[f]? = some fn) (hov : ovlOk P fn = true) (ha : Agree S a) (h : rsem (.ovl (src x) (src y)) S H K) :
    ∃ s φ, K s φ ∧ φ H ∧ ∀ w : World, φ w.heap → (execOp a.eval o).run P w = .ok (.value s.toV) w := by
  unfold ovlOk at hov
  split at hov
  · cases hov
  rename_i hb
  split at hov
  · cases hov
  rename_i horg
  split at hov
  · rename_i t t' r hpl hrl
    split at hov
    · rename_i e hu
      simp only [Bool.and_eq_true, Option.isNone_iff_eq_none, Bool.not_eq_true'] at hov
      obtain ⟨⟨⟨⟨⟨⟨htt, hi⟩, hng⟩, h1⟩, h2⟩, h3⟩, h4⟩ := hov
      have htt := Nat.eq_of_beq_eq_true htt
      subst htt
      have hps : fn.params = #[t, t] := by rw [← hpl]
      have hrs : fn.resultTypes = #[r] := by rw [← hrl]
      have horg' : fn.origin = "slices.overlaps" := by simpa using horg
      simp only [rsem] at h
      split at h
      · rename_i p la ca q lb cb hx hy
        obtain ⟨hap, hk⟩ := h
        refine ⟨_, _, hk, hap, fun w hw => ?_⟩
        obtain ⟨ab, ao, bb, bo, rfl, rfl, hne, ⟨cs, e1, f1, hA, hfa, hfe⟩, cs2, e2, f2, hB, hB0⟩ := hw
        have e1' := ev_some ha hx
        have e2' := ev_some ha hy
        simp only [SV.toV] at e1' e2'
        have hfn : Extern.findNext fn = none := by simp [Extern.findNext, h4, horg', ovl_next]
        have hfi : Extern.find fn = some (Extern.SlicesOverlaps.overlaps fn.params fn.resultTypes) := by simp [Extern.find, h1, h2, h3, horg', ovl_row1, ovl_row2]
        have hr := Go.Lib.run_overlaps_apart (P := P) w t r e hu _ (run_sizeOf (P := P) hi) ⟨ab, ao, none⟩ ⟨bb, bo, none⟩ la ca lb cb hne e1 e2 cs.size cs2.size (by simp [World.shape?, hA]) (by simp [World.shape?, hB]) hB0 (by rw [frozen_eq]; exact hfa) (by rw [frozen_eq]; exact hfe)
        have hc := run_callFunc_extern (P := P) hf hng (by simp [hb]) hfn hfi #[.slice (some ⟨ab, ao, none⟩) la ca, .slice (some ⟨bb, bo, none⟩) lb cb] w
        rw [hps, hrs, hr] at hc
        simp only [execOp, ho, resolve, Sem.run_bind, Act.eval, Deferred.ofValue, Sem.run_pure, Result.andThen_ok, invoke, SV.toV]
        simp only [List.map_toArray, List.map_cons, List.map_nil, e1', e2']
        exact hc
      · exact h.elim
    · cases hov
  · cases hov

theorem read_sound {o : Oper} {r : ROp} {H : Heap} {K : SV → (Heap → Prop) → Prop} (hc : compR P o.op = some r) (ha : Agree S a) (h : rsem r S H K) :
    ∃ s φ, K s φ ∧ φ H ∧ ∀ w : World, φ w.heap → (execOp a.eval o).run P w = .ok (.value s.toV) w := by
  obtain ⟨dst, op, type, pos, after, guard⟩ := o
  cases op with
  | load t x =>
    simp only [compR] at hc
    have key : ∀ (z : List Value) (ag : Bool), (ag = true → (P.info? t).isSome = true ∧ isAggT P t = true ∧ z.length = P.cellsOf t) → (ag = false → z.length = 1 ∧ isAggT P t = false) → (∃ d, P.underlying t = some d) → rsem (.load z ag (src x)) S H K →
        ∃ s φ, K s φ ∧ φ H ∧ ∀ w : World, φ w.heap → (Instr.loadAt t (a.eval x)).run P w = .ok s.toV w := by
      intro z ag h1 h2 ⟨d, hd⟩ h
      simp only [rsem] at h
      split at h
      · rename_i p he
        obtain ⟨b, q, rfl, h⟩ := withA_sound h
        obtain ⟨vs, hl, hi, h⟩ := exL_sound h
        cases ag with
        | true =>
          obtain ⟨e1, e2, e3⟩ := h1 rfl
          refine ⟨_, _, h, hi, fun w hw => ?_⟩
          rw [ev_some ha he]
          simp only [SV.toV, Instr.loadAt, Instr.sureAddr, pure_bind, loadVar, Sem.run_bind, run_isAgg t hd, e2, Result.andThen_ok, if_true, run_sizeOf e1, Sem.run_pure]
          rw [← e3, ← hl, run_loadCells_isL hw]
          rfl
        | false =>
          obtain ⟨e1, e2⟩ := h2 rfl
          match vs, hl, h, hi with
          | [v], _, h, hi =>
            refine ⟨_, _, h, hi, fun w hw => ?_⟩
            rw [ev_some ha he]
            simp only [isL] at hw
            have hcell := hw.1
            rw [← cell_eq] at hcell
            simp only [SV.toV, Instr.loadAt, Instr.sureAddr, pure_bind, loadVar, Sem.run_bind, run_isAgg t hd, e2, Result.andThen_ok, Bool.false_eq_true, if_false, run_load, hcell]
          | [], hl, _, _ => rw [e1] at hl; cases hl
          | _ :: _ :: _, hl, _, _ => rw [e1] at hl; simp at hl
      · exact h.elim
    have fin : (∃ s φ, K s φ ∧ φ H ∧ ∀ w : World, φ w.heap → (Instr.loadAt t (a.eval x)).run P w = .ok s.toV w) → ∃ s φ, K s φ ∧ φ H ∧ ∀ w : World, φ w.heap → (execOp a.eval { dst := dst, op := .load t x, type := type, pos := pos, after := after, guard := guard }).run P w = .ok (.value s.toV) w := by
      rintro ⟨s, φ, h1, h2, h3⟩
      exact ⟨s, φ, h1, h2, fun w hw => by simp [execOp, h3 w hw]⟩
    refine fin ?_
    have hinfo : ∀ z, zeroOf P t = some z → (P.info? t).isSome = true := by
      intro z hz
      unfold zeroOf at hz
      cases hi : P.info? t with
      | none => simp [hi] at hz
      | some i => rfl
    split at hc
    · rename_i z fs hz hu
      split at hc
      · rename_i hb
        simp only [Option.some.injEq] at hc; subst hc
        exact key _ _ (fun _ => ⟨hinfo _ hz, by simp [isAggT, hu], Nat.eq_of_beq_eq_true hb⟩) (fun e => by cases e) ⟨_, hu⟩ h
      · cases hc
    · rename_i z n fs hz hu
      split at hc
      · rename_i hb
        simp only [Option.some.injEq] at hc; subst hc
        exact key _ _ (fun _ => ⟨hinfo _ hz, by simp [isAggT, hu], Nat.eq_of_beq_eq_true hb⟩) (fun e => by cases e) ⟨_, hu⟩ h
      · cases hc
    · rename_i z d hd1 hd2 hz hu
      simp only [Option.some.injEq] at hc; subst hc
      refine key _ _ (fun e => by cases e) (fun _ => ⟨rfl, ?_⟩) ⟨_, hu⟩ h
      unfold isAggT
      rw [hu]
      cases d <;> first | rfl | exact (hd1 _ rfl).elim | exact (hd2 _ _ rfl).elim
    · cases hc
  | convert s d x =>
    simp only [compR] at hc
    split at hc
    · rename_i e hs hd
      split at hc
      · rename_i hue
        simp only [Option.some.injEq] at hc; subst hc
        simp only [rsem] at h
        split at h
        · rename_i p n m he
          obtain ⟨l, hr, hk⟩ := h
          refine ⟨_, _, hk, hr, fun w hw => ?_⟩
          have hgoal : (Conv.bytesToString (.slice p n m)).run P w = .ok (.string ⟨l.toArray⟩) w := by
            obtain ⟨hlen, hw⟩ := hw
            cases p with
            | none =>
              simp only [List.map_eq_nil_iff] at hw
              subst hw
              rfl
            | some ad =>
              obtain ⟨b, q, sp⟩ := ad
              simp only at hw
              obtain ⟨hsp, hw⟩ := hw
              have hlc := run_loadCells_list (P := P) w ⟨b, q, sp⟩ (l.map fun b => .int .u8 b.toNat) (fun j v hj => by
                rcases hsp with he | rfl
                · rw [he] at hj; simp at hj
                · rw [Addr.add_lit, cell_eq]; exact hw j v hj)
              rw [hlen, Nat.mul_one] at hlc
              have hm : (l.map fun b : UInt8 => Value.int .u8 b.toNat) = (l.map fun b : UInt8 => (b.toNat : Int)).map (Value.int .u8) := by simp [Function.comp_def]
              rw [hm] at hlc
              rw [run_bytesToString w _ _ _ _ hlc, pushes l]
              simp
          simp only [execOp, convert, Sem.run_bind, run_underlying hs, run_underlying hd, run_underlying hue, Result.andThen_ok, ev_some ha he, SV.toV, hgoal, Sem.run_pure]
        · exact h.elim
      · cases hc
    · cases hc
  | lookup t x k ok =>
    cases ok with
    | true =>
      simp only [compR] at hc
      split at hc
      · rename_i kt e ht
        split at hc
        · rename_i z hk hz
          simp only [Option.some.injEq] at hc; subst hc
          simp only [rsem] at h
          split at h
          · rename_i p n he hek
            obtain ⟨r, l, rfl, hm, h⟩ := h
            obtain ⟨v, hv, h⟩ := ex1_sound h
            refine ⟨_, _, h, hm, fun w hw => ?_⟩
            have e1 := ev_some ha he
            have e2 := ev_some ha hek
            simp only [SV.toV] at e1 e2
            simp only [execOp, e1, e2, SV.toV, Sem.run_bind, (lookup_run ht hk hz hw).2, Result.andThen_ok, Sem.run_pure, hv]
          · exact h.elim
        · cases hc
      · cases hc
    | false =>
      simp only [compR] at hc
      split at hc
      · rename_i kt e ht
        split at hc
        · rename_i z hk hz
          simp only [Option.some.injEq] at hc; subst hc
          simp only [rsem] at h
          split at h
          · rename_i p n he hek
            obtain ⟨r, l, rfl, hm, h⟩ := h
            obtain ⟨v, hv, h⟩ := ex1_sound h
            refine ⟨_, _, h, hm, fun w hw => ?_⟩
            have e1 := ev_some ha he
            have e2 := ev_some ha hek
            simp only [SV.toV] at e1 e2
            simp only [execOp, e1, e2, SV.toV, Sem.run_bind, (lookup_run ht hk hz hw).1, Result.andThen_ok, Sem.run_pure, hv]
          · exact h.elim
        · cases hc
      · cases hc
  | call c =>
    obtain ⟨callee, as, ts⟩ := c
    cases callee with
    | builtin b =>
      obtain ⟨as⟩ := as
      obtain ⟨ts⟩ := ts
      cases b with
      | len =>
        simp only [compR] at hc
        split at hc
        · rename_i x t
          split at hc
          · rename_i kt e ht
            simp only [Option.some.injEq] at hc; subst hc
            simp only [rsem] at h
            split at h
            · rename_i p he
              obtain ⟨r, l, rfl, hm, h⟩ := h
              refine ⟨_, _, h, hm, fun w hw => ?_⟩
              have e1 := ev_some ha he
              simp only [SV.toV] at e1
              have := mapLen_run (P := P) (ty := type) ht hw
              simp [execOp, resolve, invoke, builtin, e1, this, SV.toV]
            · exact h.elim
          · cases hc
        · cases hc
      | _ => simp [compR] at hc
    | value v =>
      cases v with
      | func f =>
        obtain ⟨as⟩ := as
        simp only [compR] at hc
        split at hc
        · rename_i fn hf
          split at hc
          · rename_i x y hov
            simp only [Option.some.injEq] at hc; subst hc
            exact ovl_sound (o := ⟨dst, .call { callee := .value (.func f), args := #[x, y], argTypes := ts }, type, pos, after, guard⟩) rfl hf hov ha h
          · cases hc
        · cases hc
      | _ => simp [compR] at hc
    | _ => simp [compR] at hc
  | _ => simp [compR] at hc
end
end Go.Vc

namespace Go.Vc

theorem Sim.refl (w : World) : Sim w w := ⟨rfl, rfl, rfl⟩
theorem Sim.trans {a b c : World} (h : Sim a b) (k : Sim b c) : Sim a c := ⟨k.os.trans h.os, k.tape.trans h.tape, k.output.trans h.output⟩

theorem oneP_sound {v : Value} {K : Prop} (h : oneP v K) : v.oneCell' = true ∧ K := by
  cases v <;> simp_all [oneP, Value.oneCell']

theorem onesP_sound : ∀ {vs : List Value} {K : Prop}, onesP vs K → (∀ v ∈ vs, v.oneCell' = true) ∧ K
  | [], K, h => ⟨by simp, h⟩
  | v :: r, K, h => by
    obtain ⟨h1, h2⟩ := oneP_sound h
    obtain ⟨h3, h4⟩ := onesP_sound h2
    exact ⟨by simpa using ⟨h1, h3⟩, h4⟩

theorem heap_setCell (w : World) (b o : Nat) (v : Value) : (w.setCell ⟨b, o, none⟩ v).heap = hset w.heap b o v := by
  unfold World.setCell hset
  simp only [Option.isSome_none, Bool.false_eq_true, if_false]
  rfl

theorem heap_setCells (b : Nat) : ∀ (vs : List Value) (o : Nat) (w : World), (w.setCells b o vs).heap = hsets w.heap b o vs ∧ Sim w (w.setCells b o vs)
  | [], _, w => ⟨rfl, Sim.refl w⟩
  | v :: r, o, w => by
    obtain ⟨h1, h2⟩ := heap_setCells b r (o + 1) (w.setCell ⟨b, o, none⟩ v)
    refine ⟨?_, Sim.trans (b := w.setCell ⟨b, o, none⟩ v) ⟨rfl, rfl, rfl⟩ h2⟩
    rw [World.setCells, h1, heap_setCell, hsets]

theorem Cells_get {H : Heap} {b : Nat} : ∀ {n o : Nat}, Cells H b o n → ∀ j, j < n → Cell H b (o + j)
  | 0, _, _, j, h => absurd h (by omega)
  | n + 1, o, hc, 0, _ => hc.1
  | n + 1, o, hc, j + 1, h => by
    have := Cells_get hc.2 j (by omega)
    rwa [show o + (j + 1) = o + 1 + j by omega]

section
variable {P : Program} {S : Sym} {a : Act}

theorem run_storeCells_H {w : World} {b o : Nat} {vs : List Value} (hc : Cells w.heap b o vs.length) (h1 : ∀ v ∈ vs, v.oneCell' = true) :
    (storeCells ⟨b, o, none⟩ vs 0).run P w = .ok () (w.setCells b o vs) := by
  have := run_storeCells_cells (P := P) b o vs 0 w (fun j hj => by
      obtain ⟨⟨v, hv⟩, _⟩ := Cells_get hc j hj
      rw [Nat.add_zero, cell_eq, hv]; rfl) (fun j hj => by rw [Nat.add_zero, frozen_eq]; exact (Cells_get hc j hj).2) h1
  simpa using this

theorem run_firstCells_S {w : World} {size n : Nat} {v : Value} {xs : List Value} (h : SRow w.heap size n v xs) (hn : vlen v = n) : (Builtin.firstCells size n v).run P w = .ok xs.toArray w := by
  obtain ⟨hl, h⟩ := h
  match v, hn, h with
  | .string s, hn, h =>
    simp only at h
    subst h
    subst hn
    simp only [Builtin.firstCells, vlen, Sem.run_pure]
    congr 1
    apply Array.ext'
    have : (s.extract 0 s.size) = s := by simp
    simp [this]
  | .slice p len cap, hn, h =>
    cases p with
    | none => simp only at h; subst h; rfl
    | some ad =>
      obtain ⟨b, o, sp⟩ := ad
      simp only at h
      obtain ⟨hs, h⟩ := h
      refine run_firstCells_some (P := P) w size n ⟨b, o, sp⟩ len cap xs hl (fun j v hj => ?_)
      rcases hs with rfl | rfl
      · simp at hj
      · rw [Addr.add_lit, cell_eq]; exact h j v hj

theorem range_periodic (l : Nat) (f : Nat → Value) (hf : ∀ i, f (l + i) = f i) : ∀ c, (List.range (c * l)).map f = (List.replicate c ((List.range l).map f)).flatten
  | 0 => by simp
  | c + 1 => by
    rw [Nat.succ_mul, Nat.add_comm, List.range_add, List.map_append, List.map_map, List.replicate_succ, List.flatten_cons, ← range_periodic l f hf c]
    congr 1
    apply List.map_congr_left
    intro i _
    exact hf i

theorem zero_cells (z : List Value) (c : Nat) : (Array.range (c * z.length)).map (fun i => z.toArray[i % z.toArray.size]!) = ((List.replicate c z).flatten).toArray := by
  apply Array.ext'
  simp only [Array.toList_map, Array.toList_range]
  rw [range_periodic z.length (fun i => z.toArray[i % z.toArray.size]!) (fun i => by simp) c]
  congr 2
  apply List.ext_getElem
  · simp
  · intro i h1 h2
    simp only [List.length_map, List.length_range] at h1
    simp [Nat.mod_eq_of_lt h1, h1]

theorem mk_cells (size : Nat) (z : List Value) (c : Nat) (h : z.length = size) : mkCells size z c = (List.replicate c z).flatten := by
  subst h
  match z with
  | [] => rfl
  | [v] => simp [mkCells]
  | _ :: _ :: _ => rfl

end
end Go.Vc

namespace Go.Vc

section
variable {P : Program} {C : CallP} {X : Value → Heap → Prop} {S : Sym} {a : Act}

/-- What an operation that turns the heap must do. -/
def ESound (P : Program) (X : Value → Heap → Prop) (a : Act) (o : Oper) (w : World) (K : SV → Heap → Prop) : Prop :=
  ∀ (next : Act → World → Prop) (Q : Exit → Act → World → Prop), (∀ s w', Sim w w' → K s w'.heap → next (a.put o.dst s.toV) w') → (∀ p w', Sim w w' → X p w'.heap → Q (.panic [{ v := p, recovered := false }]) a w') → o.wp P a w next Q

theorem esound_val {o : Oper} {w : World} {K : SV → Heap → Prop} {x : Sem Value} (he : execOp a.eval o = (do pure (.value (← x)))) {s : SV} {w' : World} (hx : x.run P w = .ok s.toV w') (hs : Sim w w') (hk : K s w'.heap) : ESound P X a o w K := by
  intro next Q hn _
  unfold Oper.wp
  rw [he]
  simp only [Sem.run_bind, hx, Result.andThen_ok, Sem.run_pure, Oper.upon]
  exact hn s w' hs hk

theorem esound_unit {o : Oper} {w : World} {K : SV → Heap → Prop} {x : Sem Unit} (he : execOp a.eval o = (do x; pure .skip)) {w' : World} (hx : x.run P w = .ok () w') (hs : Sim w w') (hk : K (.v undef) w'.heap) : ESound P X a o w K := by
  intro next Q hn _
  unfold Oper.wp
  rw [he]
  simp only [Sem.run_bind, hx, Result.andThen_ok, Sem.run_pure, Oper.upon]
  exact hn (.v undef) w' hs hk

theorem sim_alloc (w : World) (o : Obj) : Sim w (w.alloc o) := ⟨rfl, rfl, rfl⟩

theorem run_newRow (e : TypeId) (cs : Array Value) (w : World) : (newRow e cs).run P w = .ok ⟨w.heap.size, 0, none⟩ (w.alloc (.cells cs e)) := by
  rfl

theorem info_of_zero {t : TypeId} {z : Value} {i : TypeInfo} (hz : zeroOf P t = some z) (hi : P.info? t = some i) : i.zero = some z := by
  simpa [zeroOf, hi] using hz

theorem store_sound {o : Oper} {t : TypeId} {x v : Operand} {i : TypeInfo} {w : World} {K : SV → Heap → Prop} (ho : o.op = .store t x v) (hi : P.info? t = some i) (ha : Agree S a)
    (h : esem P C X (.store i.size (src x) (src v)) S w.heap K) : ESound P X a o w K := by
  simp only [esem] at h
  split at h
  · rename_i p he
    obtain ⟨b, q, rfl, h'⟩ := withA_sound h
    have h := withV_sound ha h'
    split at h
    · rename_i hsz
      have hsz' := Nat.eq_of_beq_eq_true hsz
      obtain ⟨h1, hc, h⟩ := onesP_sound h
      obtain ⟨e1, e2⟩ := heap_setCells b (a.eval v).cells.toList q w
      refine esound_unit (x := Instr.storeAt t (a.eval x) (a.eval v)) (by simp [execOp, ho]) (w' := w.setCells b q (a.eval v).cells.toList) ?_ e2 (by rw [e1]; exact h _ rfl)
      rw [ev_some ha he]
      have hs : (sizeOf t).run P w = .ok i.size w := by simp [sizeOf, typeInfo, hi]
      simp only [SV.toV, Instr.storeAt, Instr.sureAddr, pure_bind, storeVar, Sem.run_bind, hs, Result.andThen_ok]
      simp only [Array.length_toList] at hsz'
      rw [if_neg (by simpa using hsz')]
      exact run_storeCells_H (by simpa [hsz'] using hc) h1
    · exact h.elim
  · exact h.elim

theorem box_sound {o : Oper} {e : TypeId} {x : Operand} {w : World} {K : SV → Heap → Prop} (ho : o.op = .box e x) (ha : Agree S a) (h : esem P C X (.box e (src x)) S w.heap K) : ESound P X a o w K := by
  simp only [esem] at h
  have h := withV_sound ha h
  refine esound_val (x := Instr.box e (a.eval x)) (by simp [execOp, ho]) (s := .v (.pointer (some ⟨w.heap.size, 0, none⟩))) (w' := w.alloc (.cells (a.eval x).cells e)) ?_ (sim_alloc _ _) (h _ _ ⟨rfl, rfl⟩)
  simp [Instr.box, newVar, run_newRow, SV.toV]

theorem alloc_sound {o : Oper} {e : TypeId} {z : Value} {w : World} {K : SV → Heap → Prop} (ho : o.op = .alloc e) (hz : zeroOf P e = some z) (h : esem P C X (.alloc e z.cells.toList) S w.heap K) : ESound P X a o w K := by
  simp only [esem] at h
  refine esound_val (x := Instr.alloc e true (.tuple #[])) (by simp [execOp, ho]) (s := .v (.pointer (some ⟨w.heap.size, 0, none⟩))) (w' := w.alloc (.cells z.cells e)) ?_ (sim_alloc _ _) (h _ _ ⟨rfl, rfl⟩)
  simp [Instr.alloc, run_zeroValue hz, newVar, run_newRow, SV.toV]

theorem bslice_sound {o : Oper} {t e : TypeId} {len : Nat} {parts : Array (Nat × Operand)} {z : Value} {i : TypeInfo} {w : World} {K : SV → Heap → Prop} (ho : o.op = .buildSlice t len parts) (ht : P.underlying t = some (.slice e))
    (hz : zeroOf P e = some z) (hi : P.info? e = some i) (hs : i.size = z.cells.toList.length) (h0 : i.size ≠ 0) (hb : len * i.size ≤ 65536) (ha : Agree S a)
    (h : esem P C X (.bslice e i.size len z.cells.toList (compParts' i.size parts.toList)) S w.heap K) : ESound P X a o w K := by
  simp only [esem] at h
  rw [mk_cells i.size z.cells.toList len hs.symm] at h
  obtain ⟨cs, h1, h2⟩ := filled'_sound ha i.size parts.toList _ _ h
  refine esound_val (x := Instr.buildSlice t len (parts.map fun (i, x) => (i, a.eval x))) (by simp [execOp, ho]) (s := .v (.slice (some ⟨w.heap.size, 0, none⟩) len len)) (w' := w.alloc (.cells cs e)) ?_ (sim_alloc _ _) (by
    have := h2 w.heap.size _ ⟨rfl, rfl⟩
    rw [Array.toArray_toList] at this
    exact this)
  have hsz : (sizeOf e).run P w = .ok i.size w := by simp [sizeOf, typeInfo, hi]
  have e1 : (parts.map fun (i, x) => (i, a.eval x)).toList = parts.toList.map fun (i, x) => (i, a.eval x) := by simp
  simp only [Instr.buildSlice, Sem.run_bind, run_underlying ht, Result.andThen_ok, hsz]
  rw [if_neg (by omega)]
  have hzs : z.cells.size = i.size := by rw [hs]; simp
  by_cases hn : len * i.size = 0
  · have hl : len = 0 := by
      rcases Nat.mul_eq_zero.1 hn with h | h
      · exact h
      · exact absurd h h0
    subst hl
    simp only [Nat.zero_mul, if_true, Sem.run_bind, Sem.run_pure, Result.andThen_ok, e1]
    simp only [List.replicate_zero, List.flatten_nil] at h1
    have : (Array.map (fun x => (#[] : Array Value)[x % (#[] : Array Value).size]!) (Array.range 0)) = ([] : List Value).toArray := by simp
    rw [this, h1]
    simp [run_newRow, SV.toV]
  · rw [if_neg hn]
    simp only [Sem.run_bind, run_zeroValue hz, Sem.run_pure, Result.andThen_ok, e1]
    have := zero_cells z.cells.toList len
    rw [← hs] at this
    simp only [Array.toArray_toList] at this
    rw [this, h1]
    simp [run_newRow, SV.toV]

theorem mkslice_sound {o : Oper} {t e : TypeId} {l c : Operand} {z : Value} {i : TypeInfo} {w : World} {K : SV → Heap → Prop} (ho : o.op = .makeSlice t l c) (ht : P.underlying t = some (.slice e))
    (hz : zeroOf P e = some z) (hi : P.info? e = some i) (hs : i.size = z.cells.toList.length) (h0 : i.size ≠ 0) (h0' : i.bytes ≠ 0) (ha : Agree S a)
    (h : esem P C X (.mkslice e i.size i.bytes z.cells.toList (src l) (src c)) S w.heap K) : ESound P X a o w K := by
  simp only [esem] at h
  obtain ⟨k, ln, e1, h⟩ := withI_sound ha h
  obtain ⟨k', cn, e2, hl0, hlc, hcb, h⟩ := withI_sound ha h
  rw [mk_cells i.size z.cells.toList cn.toNat hs.symm] at h
  refine esound_val (x := Instr.makeSlice t (a.eval l) (a.eval c)) (by simp [execOp, ho]) (s := .v (.slice (some ⟨w.heap.size, 0, none⟩) ln.toNat cn.toNat)) (w' := w.alloc (.cells ((List.replicate cn.toNat z.cells.toList).flatten).toArray e)) ?_ (sim_alloc _ _) (h _ _ ⟨rfl, rfl⟩)
  have hb1 : (1 : Int) ≤ i.bytes := by omega
  have hcn : cn ≤ 281474976710656 := by
    have : 1 * cn ≤ i.bytes * cn := Int.mul_le_mul_of_nonneg_right hb1 (by omega)
    omega
  have w1 : IntKind.i64.wrap ln = ln := wrap_of_in64 ⟨by omega, by omega⟩
  have w2 : IntKind.i64.wrap cn = cn := wrap_of_in64 ⟨by omega, by omega⟩
  have hsz : (sizeOf e).run P w = .ok i.size w := by simp [sizeOf, typeInfo, hi]
  have hti : (typeInfo e).run P w = .ok i w := by simp [typeInfo, hi]
  have p48 : (2 : Int) ^ 48 = 281474976710656 := by decide
  simp only [Instr.makeSlice, e1, e2, asInt, asIntOf, pure_bind, Sem.run_bind, run_underlying ht, Result.andThen_ok, hti, w1, w2, p48]
  rw [if_neg (by simp; omega)]
  simp only [Sem.run_bind, run_askRoom, Result.andThen_ok, hsz]
  by_cases hn : cn.toNat * i.size = 0
  · have hl : cn.toNat = 0 := by
      rcases Nat.mul_eq_zero.1 hn with h | h
      · exact h
      · exact absurd h h0
    rw [if_pos hn, hl]
    simp only [Nat.zero_mul, Sem.run_bind, Sem.run_pure, Result.andThen_ok, run_newRow, SV.toV, List.replicate_zero, List.flatten_nil]
    have : (Array.map (fun x => (#[] : Array Value)[x % (#[] : Array Value).size]!) (Array.range 0)) = #[] := by simp
    rw [this]
  · rw [if_neg hn]
    simp only [Sem.run_bind, run_zeroValue hz, Sem.run_pure, Result.andThen_ok, run_newRow, SV.toV]
    have := zero_cells z.cells.toList cn.toNat
    rw [← hs] at this
    simp only [Array.toArray_toList] at this
    rw [this]

theorem app_cells (zs : List Value) (n : Nat) : Builtin.zeroCells zs.toArray n = ((List.replicate n zs).flatten).toArray := by
  unfold Builtin.zeroCells
  exact zero_cells zs n

theorem run_lenOf {H : Heap} {size n : Nat} {v : Value} {xs : List Value} (h : SRow H size n v xs) (w : World) : (Builtin.lenOf v).run P w = .ok (vlen v) w := by
  have h := h.2
  match v, h with
  | .string s, _ => rfl
  | .slice p len cap, _ => rfl

theorem app_sound {o : Oper} {t t' e : TypeId} {d : TypeDesc} {s x : Operand} {z : Value} {i : TypeInfo} {w : World} {K : SV → Heap → Prop} (ho : o.op = .call { callee := .builtin .append, args := #[s, x], argTypes := #[t, t'] })
    (ht : P.underlying t = some (.slice e)) (ht' : P.underlying t' = some d) (hd : (∃ e', d = .slice e') ∨ d = .string) (hz : zeroOf P e = some z) (hi : P.info? e = some i) (h0' : i.bytes ≠ 0) (ha : Agree S a)
    (h : esem P C X (.app e i.size i.bytes z.cells.toList (src s) (src x)) S w.heap K) : ESound P X a o w K := by
  simp only [esem] at h
  split at h
  · rename_i p len cap he
    have h := withV_sound ha h
    have he' := ev_some ha he
    simp only [SV.toV] at he'
    generalize hv : a.eval x = v at *
    obtain ⟨old, news, hro, hrn, hone, hbytes, hroom, h⟩ := h
    have hlen : ∀ w, (Builtin.lenOf v).run P w = .ok (vlen v) w := run_lenOf hrn
    have hex : execOp a.eval o = (do pure (.value (← Builtin.append_ #[t, t'] o.type #[.slice p len cap, v]))) := by
      simp [execOp, ho, resolve, invoke, builtin, he', hv]
    have hb1 : (1 : Nat) ≤ i.bytes := by omega
    have hneed : len + vlen v ≤ 140737488355328 := Nat.le_trans (Nat.le_mul_of_pos_right _ hb1) hbytes
    have hsz : ∀ w, (sizeOf e).run P w = .ok i.size w := fun w => by simp [sizeOf, typeInfo, hi]
    have hti : ∀ w, (typeInfo e).run P w = .ok i w := fun w => by simp [typeInfo, hi]
    have hfn := run_firstCells_S (P := P) hrn rfl
    by_cases hle : len + vlen v ≤ cap
    · -- there is room
      cases p with
      | none =>
        refine esound_val hex (s := .v (.slice none (len + vlen v) cap)) (w' := w) ?_ (Sim.refl w) (h _ _ _ (.inl ⟨hle, rfl, rfl, rfl⟩))
        rcases hd with ⟨e', rfl⟩ | rfl <;> simp [Builtin.append_, SV.toV, run_underlying ht, run_underlying ht', hsz, hlen, hle, hfn]
      | some ad =>
        obtain ⟨b, q, sp⟩ := ad
        obtain ⟨hsp, hcs⟩ := hroom hle
        simp only at hsp hcs
        subst hsp
        obtain ⟨e1, e2⟩ := heap_setCells b news (q + len * i.size) w
        refine esound_val hex (s := .v (.slice (some ⟨b, q, none⟩) (len + vlen v) cap)) (w' := w.setCells b (q + len * i.size) news) ?_ e2 (by rw [e1]; exact h _ _ _ (.inl ⟨hle, rfl, rfl, rfl⟩))
        have hst := run_storeCells_H (P := P) (w := w) (b := b) (o := q + len * i.size) (vs := news) (by rw [hrn.1]; exact hcs) hone
        rcases hd with ⟨e', rfl⟩ | rfl <;> simp [Builtin.append_, SV.toV, run_underlying ht, run_underlying ht', hsz, hlen, hle, hfn, Addr.add_lit, hst]
    · -- there is none
      have hge := grownCap_ge w (len + vlen v) cap e
      have hcm : grownCap w (len + vlen v) cap e ≤ maxLen := grownCap_le_maxLen w (len + vlen v) cap e (by unfold maxLen; omega)
      refine esound_val hex (s := .v (.slice (some ⟨w.heap.size, 0, none⟩) (len + vlen v) (grownCap w (len + vlen v) cap e)))
        (w' := w.drew.alloc (.cells (old ++ news ++ (List.replicate (grownCap w (len + vlen v) cap e - (len + vlen v)) z.cells.toList).flatten).toArray e)) ?_ ⟨rfl, rfl, rfl⟩
        (h _ _ _ (.inr ⟨by omega, rfl, hge, hcm, rfl⟩))
      have hfo' := run_firstCells_S (P := P) (w := w.drew) (v := .slice p len cap) hro rfl
      have hfn' := run_firstCells_S (P := P) (w := w.drew) (v := v) hrn rfl
      have hzc := app_cells z.cells.toList (grownCap w (len + vlen v) cap e - (len + vlen v))
      rw [Array.toArray_toList] at hzc
      have h63 : ¬ (9223372036854775807 < ((len : Int) + (vlen v : Int))) := by omega
      have h48 : ¬ (281474976710656 < Builtin.nextslicecap (len + vlen v) cap * i.bytes) := by
        have := growslice_fits (need := len + vlen v) (old := cap) (bytes := i.bytes) (by omega) hbytes
        omega
      simp only [grownCap] at hzc
      rcases hd with ⟨e', rfl⟩ | rfl <;> simp [Builtin.append_, SV.toV, run_underlying ht, run_underlying ht', hsz, hti, hlen, hle, h63, h48, Question.forced, hfo', hfn', run_zeroValue hz, run_newRow, grownCap, hzc]
  · exact h.elim

theorem appz_sound {o : Oper} {t t' e : TypeId} {s x : Operand} {z : Value} {i : TypeInfo} {w : World} {K : SV → Heap → Prop} (ho : o.op = .call { callee := .builtin .append, args := #[s, x], argTypes := #[t, t'] })
    (ht : P.underlying t = some (.slice e)) (ht' : P.underlying t' = some (.int .i64)) (hz : zeroOf P e = some z) (hi : P.info? e = some i) (hs : i.size = z.cells.toList.length) (h0 : i.size ≠ 0) (h0' : i.bytes ≠ 0) (ha : Agree S a)
    (h : esem P C X (.appz e i.size i.bytes z.cells.toList (src s) (src x)) S w.heap K) : ESound P X a o w K := by
  simp only [esem] at h
  split at h
  · rename_i p len cap he
    obtain ⟨k, n, e2, old, hro, hn0, hbytes, hroom, h⟩ := withI_sound ha h
    rw [mk_cells i.size z.cells.toList n.toNat hs.symm] at h
    have he' := ev_some ha he
    simp only [SV.toV] at he'
    have hex : execOp a.eval o = (do pure (.value (← Builtin.append_ #[t, t'] o.type #[.slice p len cap, .int k n]))) := by
      simp [execOp, ho, resolve, invoke, builtin, he', e2]
    have hb1 : (1 : Nat) ≤ i.bytes := by omega
    have hneed : len + n.toNat ≤ 140737488355328 := Nat.le_trans (Nat.le_mul_of_pos_right _ hb1) hbytes
    have hw : IntKind.i64.wrap n = n := wrap_of_in64 ⟨by omega, by omega⟩
    have hnb : n * i.bytes ≤ 281474976710656 := by
      have h1 : n.toNat * i.bytes ≤ 140737488355328 := Nat.le_trans (Nat.mul_le_mul_right _ (Nat.le_add_left _ _)) hbytes
      have h2 : n * (i.bytes : Int) = ((n.toNat * i.bytes : Nat) : Int) := by rw [Int.natCast_mul, Int.toNat_of_nonneg hn0]
      omega
    have hsz : ∀ w, (sizeOf e).run P w = .ok i.size w := fun w => by simp [sizeOf, typeInfo, hi]
    have hti : ∀ w, (typeInfo e).run P w = .ok i w := fun w => by simp [typeInfo, hi]
    have hzn := app_cells z.cells.toList n.toNat
    rw [Array.toArray_toList] at hzn
    have hlen : (List.replicate n.toNat z.cells.toList).flatten.length = n.toNat * i.size := by rw [List.length_flatten]; simp [hs]
    have p48 : (2 : Int) ^ 48 = 281474976710656 := by decide
    have hneg : ¬ (n < 0) := by omega
    have hbig : ¬ (281474976710656 < n * (i.bytes : Int)) := by omega
    have hzv : ∀ w, (zeroValue e).run P w = .ok z w := run_zeroValue hz
    have hcase : n.toNat = 0 ∨ n.toNat * i.size ≠ 0 := by
      rcases Nat.eq_zero_or_pos n.toNat with h | h
      · exact .inl h
      · exact .inr (Nat.mul_ne_zero (by omega) h0)
    by_cases hle : len + n.toNat ≤ cap
    · -- there is room
      cases p with
      | none =>
        refine esound_val hex (s := .v (.slice none (len + n.toNat) cap)) (w' := w) ?_ (Sim.refl w) (h _ _ _ (.inl ⟨hle, rfl, rfl, rfl⟩))
        rcases hcase with h' | h'
        · have hle' : len ≤ cap := by omega
          simp [Builtin.append_, SV.toV, run_underlying ht, run_underlying ht', hsz, hti, hle', asInt, asIntOf, hw, hneg, hbig, p48, h']
        · simp [Builtin.append_, SV.toV, run_underlying ht, run_underlying ht', hsz, hti, hle, asInt, asIntOf, hw, hneg, hbig, p48, hzv, hzn]
      | some ad =>
        obtain ⟨b, q, sp⟩ := ad
        obtain ⟨hone, hsp, hcs⟩ := onesP_sound (hroom hle)
        simp only at hsp hcs
        subst hsp
        have hflat : ∀ u ∈ (List.replicate n.toNat z.cells.toList).flatten, u.oneCell' = true := by
          intro u hu
          obtain ⟨l, hl, hu⟩ := List.mem_flatten.1 hu
          rw [List.eq_of_mem_replicate hl] at hu
          exact hone u hu
        obtain ⟨e1, e3⟩ := heap_setCells b (List.replicate n.toNat z.cells.toList).flatten (q + len * i.size) w
        refine esound_val hex (s := .v (.slice (some ⟨b, q, none⟩) (len + n.toNat) cap)) (w' := w.setCells b (q + len * i.size) (List.replicate n.toNat z.cells.toList).flatten) ?_ e3 (by rw [e1]; exact h _ _ _ (.inl ⟨hle, rfl, rfl, rfl⟩))
        have hst := run_storeCells_H (P := P) (w := w) (b := b) (o := q + len * i.size) (vs := (List.replicate n.toNat z.cells.toList).flatten) (by rw [hlen]; exact hcs) hflat
        rcases hcase with h' | h'
        · have hle' : len ≤ cap := by omega
          rw [h'] at hst
          simp only [List.replicate_zero, List.flatten_nil] at hst
          simp [Builtin.append_, SV.toV, run_underlying ht, run_underlying ht', hsz, hti, hle', asInt, asIntOf, hw, hneg, hbig, p48, h', Addr.add_lit, hst]
        · simp [Builtin.append_, SV.toV, run_underlying ht, run_underlying ht', hsz, hti, hle, asInt, asIntOf, hw, hneg, hbig, p48, h', hzv, hzn, Addr.add_lit, hst]
    · -- there is none
      have hge := grownCap_ge w (len + n.toNat) cap e
      have hcm : grownCap w (len + n.toNat) cap e ≤ maxLen := grownCap_le_maxLen w (len + n.toNat) cap e (by unfold maxLen; omega)
      refine esound_val hex (s := .v (.slice (some ⟨w.heap.size, 0, none⟩) (len + n.toNat) (grownCap w (len + n.toNat) cap e)))
        (w' := w.drew.alloc (.cells (old ++ (List.replicate n.toNat z.cells.toList).flatten ++ (List.replicate (grownCap w (len + n.toNat) cap e - (len + n.toNat)) z.cells.toList).flatten).toArray e)) ?_ ⟨rfl, rfl, rfl⟩
        (h _ _ _ (.inr ⟨by omega, rfl, hge, hcm, rfl⟩))
      have hfo' := run_firstCells_S (P := P) (w := w.drew) (v := .slice p len cap) hro rfl
      have hzc := app_cells z.cells.toList (grownCap w (len + n.toNat) cap e - (len + n.toNat))
      rw [Array.toArray_toList] at hzc
      have h63 : ¬ (9223372036854775807 < ((len : Int) + max n 0)) := by omega
      have h48 : ¬ (281474976710656 < Builtin.nextslicecap (len + n.toNat) cap * i.bytes) := by
        have := growslice_fits (need := len + n.toNat) (old := cap) (bytes := i.bytes) (by omega) hbytes
        omega
      simp only [grownCap] at hzc
      rcases hcase with h' | h'
      · simp only [h', Nat.add_zero] at hle h48 hzc
        simp [Builtin.append_, SV.toV, run_underlying ht, run_underlying ht', hsz, hti, hle, asInt, asIntOf, hw, hneg, hbig, p48, h63, h48, h', Question.forced, hfo', hzv, run_newRow, grownCap, hzc]
      · simp [Builtin.append_, SV.toV, run_underlying ht, run_underlying ht', hsz, hti, hle, asInt, asIntOf, hw, hneg, hbig, p48, h63, h48, h', Question.forced, hfo', hzv, hzn, run_newRow, grownCap, hzc]
  · exact h.elim

theorem copy_sound {o : Oper} {t t' e : TypeId} {d x : Operand} {i : TypeInfo} {w : World} {K : SV → Heap → Prop} (ho : o.op = .call { callee := .builtin .copy, args := #[d, x], argTypes := #[t, t'] })
    (ht : P.underlying t = some (.slice e)) (hi : P.info? e = some i) (ha : Agree S a)
    (h : esem P C X (.copy i.size (src d) (src x)) S w.heap K) : ESound P X a o w K := by
  simp only [esem] at h
  split at h
  · rename_i p len cap q l c he he2
    have he' := ev_some ha he
    have he2' := ev_some ha he2
    simp only [SV.toV] at he' he2'
    obtain ⟨news, hrn, hone, hroom, h⟩ := h
    have hex : execOp a.eval o = (do pure (.value (← Builtin.copy_ #[t, t'] o.type #[.slice p len cap, .slice q l c]))) := by
      simp [execOp, ho, resolve, invoke, builtin, he', he2']
    have hsz : ∀ w, (sizeOf e).run P w = .ok i.size w := fun w => by simp [sizeOf, typeInfo, hi]
    have hfn : (Builtin.firstCells i.size (min l len) (.slice q l c)).run P w = .ok news.toArray w := by
      obtain ⟨hl, hr⟩ := hrn
      cases q with
      | none => simp only at hr; subst hr; rfl
      | some ad =>
        obtain ⟨b, o, sp⟩ := ad
        simp only at hr
        obtain ⟨hs, hr⟩ := hr
        refine run_firstCells_some (P := P) w i.size (min l len) ⟨b, o, sp⟩ l c news hl (fun j v hj => ?_)
        rcases hs with rfl | rfl
        · simp at hj
        · rw [Addr.add_lit, cell_eq]; exact hr j v hj
    cases p with
    | none =>
      refine esound_val hex (s := .v (.int .i64 (min l len : Nat))) (w' := w) ?_ (Sim.refl w) (h _ rfl)
      simp [Builtin.copy_, SV.toV, run_underlying ht, hsz, Builtin.lenOf, hfn, goInt]
    | some ad =>
      obtain ⟨b, q', sp⟩ := ad
      obtain ⟨hsp, hcs⟩ := hroom
      simp only at hsp hcs
      subst hsp
      obtain ⟨e1, e2⟩ := heap_setCells b news q' w
      refine esound_val hex (s := .v (.int .i64 (min l len : Nat))) (w' := w.setCells b q' news) ?_ e2 (by rw [e1]; exact h _ rfl)
      have hst := run_storeCells_H (P := P) (w := w) (b := b) (o := q') (vs := news) (by rw [hrn.1]; simpa using hcs) hone
      simp [Builtin.copy_, SV.toV, run_underlying ht, hsz, Builtin.lenOf, hfn, hst, goInt]
  · exact h.elim

theorem copyt_sound {o : Oper} {t t' e : TypeId} {d x : Operand} {i : TypeInfo} {w : World} {K : SV → Heap → Prop} (ho : o.op = .call { callee := .builtin .copy, args := #[d, x], argTypes := #[t, t'] })
    (ht : P.underlying t = some (.slice e)) (hi : P.info? e = some i) (hi1 : i.size = 1) (ha : Agree S a)
    (h : esem P C X (.copyt (src d) (src x)) S w.heap K) : ESound P X a o w K := by
  simp only [esem] at h
  split at h
  · rename_i p len cap s he he2
    have he' := ev_some ha he
    have he2' := ev_some ha he2
    simp only [SV.toV] at he' he2'
    obtain ⟨hroom, h⟩ := h
    have hex : execOp a.eval o = (do pure (.value (← Builtin.copy_ #[t, t'] o.type #[.slice p len cap, .string s]))) := by
      simp [execOp, ho, resolve, invoke, builtin, he', he2']
    have hsz : ∀ w, (sizeOf e).run P w = .ok 1 w := fun w => by simp [sizeOf, typeInfo, hi, hi1]
    generalize hn : ((s.extract 0 (min s.size len)).data.toList.map fun b => Value.int .u8 b.toNat) = news at h
    have hnl : news.length = min s.size len := by rw [← hn]; simp
    have hone : ∀ u ∈ news, u.oneCell' = true := by
      intro u hu
      rw [← hn] at hu
      obtain ⟨x, _, rfl⟩ := List.mem_map.1 hu
      rfl
    have hfn : (Builtin.firstCells 1 (min s.size len) (.string s)).run P w = .ok news.toArray w := by
      simp only [Builtin.firstCells, Sem.run_pure, Result.ok.injEq, and_true]
      apply Array.ext'
      rw [← hn]
      simp
    cases p with
    | none =>
      refine esound_val hex (s := .v (.int .i64 (min s.size len : Nat))) (w' := w) ?_ (Sim.refl w) (h _ rfl)
      simp [Builtin.copy_, SV.toV, run_underlying ht, hsz, Builtin.lenOf, hfn, goInt]
    | some ad =>
      obtain ⟨b, q', sp⟩ := ad
      obtain ⟨hsp, hcs⟩ := hroom
      simp only at hsp hcs
      subst hsp
      obtain ⟨e1, e2⟩ := heap_setCells b news q' w
      refine esound_val hex (s := .v (.int .i64 (min s.size len : Nat))) (w' := w.setCells b q' news) ?_ e2 (by rw [e1]; exact h _ rfl)
      have hst := run_storeCells_H (P := P) (w := w) (b := b) (o := q') (vs := news) (by rw [hnl]; simpa using hcs) hone
      simp [Builtin.copy_, SV.toV, run_underlying ht, hsz, Builtin.lenOf, hfn, hst, goInt]
  · exact h.elim

theorem clr_sound {o : Oper} {t e : TypeId} {x : Operand} {z : Value} {i : TypeInfo} {w : World} {K : SV → Heap → Prop} (ho : o.op = .call { callee := .builtin .clear, args := #[x], argTypes := #[t] })
    (ht : P.underlying t = some (.slice e)) (hz : zeroOf P e = some z) (_ : P.info? e = some i) (hs : i.size = z.cells.toList.length) (ha : Agree S a)
    (h : esem P C X (.clr i.size z.cells.toList (src x)) S w.heap K) : ESound P X a o w K := by
  simp only [esem] at h
  split at h
  · rename_i p n cap he
    have he' := ev_some ha he
    simp only [SV.toV] at he'
    obtain ⟨hone, hroom, h⟩ := onesP_sound h
    rw [mk_cells _ _ _ hs.symm] at h
    have hex : execOp a.eval o = (do pure (.value (← Builtin.clear_ #[t] o.type #[.slice p n cap]))) := by
      simp [execOp, ho, resolve, invoke, builtin, he']
    cases p with
    | none =>
      refine esound_val hex (s := .v (.tuple #[])) (w' := w) ?_ (Sim.refl w) (h _ rfl)
      simp [Builtin.clear_, SV.toV, run_underlying ht]
    | some ad =>
      obtain ⟨b, q', sp⟩ := ad
      obtain ⟨hsp, hcs⟩ := hroom
      simp only at hsp hcs
      subst hsp
      have hzc := app_cells z.cells.toList n
      rw [Array.toArray_toList] at hzc
      have hflat : ∀ u ∈ (List.replicate n z.cells.toList).flatten, u.oneCell' = true := by
        intro u hu
        obtain ⟨l, hl, hu⟩ := List.mem_flatten.1 hu
        rw [List.eq_of_mem_replicate hl] at hu
        exact hone u hu
      have hlen : (List.replicate n z.cells.toList).flatten.length = n * i.size := by rw [List.length_flatten]; simp [hs]
      obtain ⟨e1, e2⟩ := heap_setCells b (List.replicate n z.cells.toList).flatten q' w
      refine esound_val hex (s := .v (.tuple #[])) (w' := w.setCells b q' (List.replicate n z.cells.toList).flatten) ?_ e2 (by rw [e1]; exact h _ rfl)
      have hst := run_storeCells_H (P := P) (w := w) (b := b) (o := q') (vs := (List.replicate n z.cells.toList).flatten) (by rw [hlen]; simpa using hcs) hflat
      cases n with
      | zero => simp [Builtin.clear_, SV.toV, run_underlying ht, World.setCells]
      | succ n =>
        simp [Builtin.clear_, SV.toV, hst, run_underlying ht, run_zeroValue hz, hzc]
  · exact h.elim

theorem s2b_sound {o : Oper} {t t' e : TypeId} {x : Operand} {w : World} {K : SV → Heap → Prop} (ho : o.op = .convert t t' x) (ht : P.underlying t = some .string) (ht' : P.underlying t' = some (.slice e)) (he : P.underlying e = some (.int .u8)) (ha : Agree S a)
    (h : esem P C X (.s2b e (src x)) S w.heap K) : ESound P X a o w K := by
  simp only [esem] at h
  split at h
  · rename_i s hx
    have hx' := ev_some ha hx
    simp only [SV.toV] at hx'
    refine esound_val (x := convert t t' (a.eval x)) (by simp [execOp, ho]) (s := .v (.slice (some ⟨w.heap.size, 0, none⟩) s.size (grownCap w s.size 0 e))) (w' := w.drew.alloc (.cells (bytesRow s (grownCap w s.size 0 e)) e ((bytesRow s (grownCap w s.size 0 e)).size, (bytesRow s (grownCap w s.size 0 e)).size + 1))) (by rw [hx']; exact run_bytes_of_string w t t' e s ht ht' he) ⟨rfl, rfl, rfl⟩ (h _ _ _ ⟨rfl, grownCap_ge w s.size 0 e, rfl⟩)
  · exact h.elim

theorem mark_sound {o : Oper} {t e e' : TypeId} {x : Operand} {w : World} {K : SV → Heap → Prop} (ho : o.op = .convert t t x) (ht : P.underlying t = some (.slice e)) (ht' : P.underlying t = some (.slice e')) (he : P.underlying e = some (.int .u8)) (ha : Agree S a) (h : esem P C X (.mark (src x)) S w.heap K) : ESound P X a o w K := by
  obtain rfl : e = e' := by rw [ht] at ht'; cases ht'; rfl
  simp only [esem] at h
  split at h
  · rename_i p n c hx
    have hx' := ev_some ha hx
    simp only [SV.toV] at hx'
    obtain ⟨b, q, rfl, ⟨cs, ty, ⟨lo, hi⟩, hb⟩, h⟩ := h
    have hsh : w.shape? b = some (ty, cs.size) := by simp [World.shape?, hb]
    have hw : w.freeze ⟨b, cs.size, none⟩ 1 = { w with heap := (w.freeze ⟨b, cs.size, none⟩ 1).heap } := by
      unfold World.freeze
      rw [if_neg (by decide)]
    have hm : MarkTo w.heap b (w.freeze ⟨b, cs.size, none⟩ 1).heap := by
      refine ⟨cs, ty, lo, hi, hb, ?_⟩
      unfold World.freeze
      rw [if_neg (by decide)]
      apply Array.ext_getElem?
      intro i
      show (w.heap.modify b _)[i]? = _
      have hlt := (Array.getElem?_eq_some_iff.1 hb).1
      rw [Array.getElem?_modify, Array.getElem?_setIfInBounds]
      split
      · rename_i e; subst e
        rw [hb]
        simp
      · rfl
    refine esound_val (x := convert t t (a.eval x)) (by simp [execOp, ho]) (s := .v (.slice (some ⟨b, q, none⟩) n c)) (w' := w.freeze ⟨b, cs.size, none⟩ 1) ?_ (by rw [hw]; exact ⟨rfl, rfl, rfl⟩) (h _ hm)
    rw [hx']
    have hfr : (Sem.freeze ⟨b, cs.size, none⟩ 1 (Sem.pure ())).run P w = .ok () (w.freeze ⟨b, cs.size, none⟩ 1) := rfl
    simp [convert, run_underlying ht, run_underlying he, markStringish, hsh, freeze, hfr, SV.toV]
  · exact h.elim

theorem riter_sound {o : Oper} {t : TypeId} {x : Operand} {w : World} {K : SV → Heap → Prop} (ho : o.op = .range t x) (ht : P.underlying t = some .string) (ha : Agree S a) (h : esem P C X (.riter (src x)) S w.heap K) : ESound P X a o w K := by
  simp only [esem] at h
  split at h
  · rename_i s hx
    have hx' := ev_some ha hx
    simp only [SV.toV] at hx'
    refine esound_val (x := Instr.range t (a.eval x)) (by simp [execOp, ho]) (s := .v (.pointer (some ⟨w.heap.size, 0, none⟩))) (w' := w.alloc (.stringIter s 0)) ?_ (sim_alloc _ _) (h _ _ ⟨rfl, rfl⟩)
    rw [hx']
    simp [Instr.range, run_underlying ht, SV.toV]
  · exact h.elim

theorem rnext_sound {o : Oper} {x : Operand} {w : World} {K : SV → Heap → Prop} (ho : o.op = .next x true) (ha : Agree S a) (h : esem P C X (.rnext (src x)) S w.heap K) : ESound P X a o w K := by
  simp only [esem] at h
  split at h
  · rename_i r hx
    have hx' := ev_some ha hx
    simp only [SV.toV] at hx'
    obtain ⟨s, pos, hb, h1, h2⟩ := h
    have hb' : w.heap[r]? = some (.stringIter s pos) := hb
    have hg : (getObj r).run P w = .ok (.stringIter s pos) w := by simp [getObj, Sem.run, hb']
    by_cases hp : pos < s.size
    · refine esound_val (x := Instr.next (a.eval x) true o.type) (by simp [execOp, ho]) (s := .v (.tuple #[.bool true, .int .i64 pos, .int .i32 ((Utf8.decode s pos).1 : Int)])) (w' := { w with heap := w.heap.setIfInBounds r (.stringIter s (pos + (Utf8.decode s pos).2)) }) ?_ ⟨rfl, rfl, rfl⟩ (h1 hp _ _ rfl rfl)
      have hs : (setObj r (.stringIter s (pos + (Utf8.decode s pos).2))).run P w = .ok () { w with heap := w.heap.setIfInBounds r (.stringIter s (pos + (Utf8.decode s pos).2)) } := by simp [setObj, Sem.run, hb']
      rw [hx']
      simp [Instr.next, hg, hp, hs, SV.toV, goInt]
    · refine esound_val (x := Instr.next (a.eval x) true o.type) (by simp [execOp, ho]) (s := .v (.tuple #[.bool false])) (w' := w) ?_ (Sim.refl w) (h2 hp)
      rw [hx']
      simp [Instr.next, hg, hp, SV.toV]
  · exact h.elim

theorem mnew_sound {o : Oper} {t : TypeId} {w : World} {K : SV → Heap → Prop} (ho : o.op = .makeMap t none) (h : esem P C X .mnew S w.heap K) : ESound P X a o w K := by
  simp only [esem] at h
  refine esound_val (x := Instr.makeMap t none) (by simp [execOp, ho]) (s := .v (.map (some w.heap.size))) (w' := w.alloc (.map #[] 0)) ?_ (sim_alloc _ _) (h _ _ ⟨rfl, rfl⟩)
  simp [Instr.makeMap, SV.toV]

theorem mput_sound {o : Oper} {t kt e : TypeId} {m k v : Operand} {w : World} {K : SV → Heap → Prop} (ho : o.op = .mapUpdate t m k v) (ht : P.underlying t = some (.map kt e)) (hk : P.underlying kt = some (.int .i64)) (ha : Agree S a)
    (h : esem P C X (.mput (src m) (src k) (src v)) S w.heap K) : ESound P X a o w K := by
  simp only [esem] at h
  split at h
  · rename_i p n e1 e2
    have e1' := ev_some ha e1
    have e2' := ev_some ha e2
    simp only [SV.toV] at e1' e2'
    obtain ⟨r, l, rfl, hm, h⟩ := withV_sound ha h
    obtain ⟨H', h1, h2⟩ := mapUpdate_run (P := P) ht hk (n := n) (a.eval v) hm
    refine esound_unit (x := Instr.mapUpdate t (a.eval m) (a.eval k) (a.eval v)) (by simp [execOp, ho]) (w' := { w with heap := H' }) (by rw [e1', e2']; exact h2) ⟨rfl, rfl, rfl⟩ (h _ h1)
  · exact h.elim

theorem mdel_sound {o : Oper} {t kt e u : TypeId} {m k : Operand} {w : World} {K : SV → Heap → Prop} (ho : o.op = .call { callee := .builtin .delete, args := #[m, k], argTypes := #[t, u] }) (ht : P.underlying t = some (.map kt e)) (hk : P.underlying kt = some (.int .i64)) (ha : Agree S a)
    (h : esem P C X (.mdel (src m) (src k)) S w.heap K) : ESound P X a o w K := by
  simp only [esem] at h
  split at h
  · rename_i p n e1 e2
    have e1' := ev_some ha e1
    have e2' := ev_some ha e2
    simp only [SV.toV] at e1' e2'
    obtain ⟨r, l, rfl, hm, h⟩ := h
    obtain ⟨H', h1, h2⟩ := mapDelete_run (P := P) (u := u) (ty := o.type) ht hk (n := n) hm
    have hex : execOp a.eval o = (do pure (.value (← Builtin.delete_ #[t, u] o.type #[.map (some r), .int .i64 n]))) := by
      simp [execOp, ho, resolve, invoke, builtin, e1', e2']
    exact esound_val hex (s := .v (.tuple #[])) (w' := { w with heap := H' }) h2 ⟨rfl, rfl, rfl⟩ (h _ h1)
  · exact h.elim

theorem ustr_sound {o : Oper} {t t' e : TypeId} {x n : Operand} {w : World} {K : SV → Heap → Prop} (ho : o.op = .call { callee := .builtin .unsafeString, args := #[x, n], argTypes := #[t, t'] })
    (ht : P.underlying t = some (.pointer e)) (hc : P.cellsOf e = 1) (ha : Agree S a) (h : esem P C X (.ustr e (src x) (src n)) S w.heap K) : ESound P X a o w K := by
  simp only [esem] at h
  split at h
  · rename_i b q he
    have he' := ev_some ha he
    simp only [SV.toV] at he'
    obtain ⟨k, nn, e2, l, hl0, rfl, rfl, h64, ⟨cs, f, hb, hle, hcell⟩, h⟩ := withI_sound ha h
    have hsh : w.shape? b = some (e, cs.size) := by simp [World.shape?, hb]
    have hrun := Lib.run_unsafeString_row (P := P) w t t' o.type e ht hc b cs.size hsh l hl0 hle (by have := h64.2; omega) (fun j y hj => by
      rw [Addr.add_lit, Nat.zero_add, cell_eq]
      have h2 := hcell j y hj
      simp only [Go.Vc.hcell, hb, h2])
    have hk : (Builtin.unsafeString_ #[t, t'] o.type #[.pointer (some ⟨b, 0, none⟩), .int k (l.length : Int)]).run P w = (Builtin.unsafeString_ #[t, t'] o.type #[.pointer (some ⟨b, 0, none⟩), .int .i64 (l.length : Int)]).run P w := by rfl
    refine esound_val (x := Builtin.unsafeString_ #[t, t'] o.type #[.pointer (some ⟨b, 0, none⟩), .int k (l.length : Int)]) (by simp [execOp, ho, resolve, invoke, builtin, he', e2]) (s := .v (.string ⟨l.toArray⟩)) (w' := w.freeze ⟨b, 0, none⟩ l.length) (by rw [hk]; exact hrun) ?_ (h _ ?_)
    · unfold World.freeze; split <;> exact ⟨rfl, rfl, rfl⟩
    · unfold World.freeze
      split
      · exact ⟨rfl, fun _ _ => rfl⟩
      · refine ⟨by simp, fun j hj => ?_⟩
        simp only [Array.getElem?_modify]
        rw [if_neg (fun e => hj e.symm)]
  · exact h.elim

theorem exVs_sound : ∀ {zs : List Value} {K : List Value → Prop}, exVs zs K → ∃ vs, K vs
  | [], _, h => ⟨[], h⟩
  | z :: r, K, h => by
    obtain ⟨v, h⟩ := ex1_sound h
    obtain ⟨vs, h⟩ := exVs_sound h
    exact ⟨_, h⟩

theorem exTs_sound : ∀ {zs : List Value} {K : List Value → Prop}, exTs zs K → ∃ vs, K vs
  | [], _, h => ⟨[], h⟩
  | z :: r, K, h => by
    simp only [exTs] at h
    split at h
    · obtain ⟨us, h⟩ := exVs_sound h
      obtain ⟨vs, h⟩ := exTs_sound h
      exact ⟨_, h⟩
    · obtain ⟨v, h⟩ := ex1_sound h
      obtain ⟨vs, h⟩ := exTs_sound h
      exact ⟨_, h⟩

theorem exR_sound {z v : Value} {K : Value → Prop} (h : exR z v K) : ∃ u, v = u ∧ K u := by
  unfold exR at h
  split at h
  · obtain ⟨vs, h1, h2⟩ := exTs_sound h; exact ⟨_, h1, h2⟩
  · obtain ⟨vs, h1, h2⟩ := exVs_sound h; exact ⟨_, h1, h2⟩
  · obtain ⟨u, h1, h2⟩ := ex1_sound h; exact ⟨_, h1, h2⟩

theorem panicop_sound {o : Oper} {x : Operand} {w : World} {K : SV → Heap → Prop} (ho : o.op = .panic x) (ha : Agree S a) (h : esem P C X (.panic (src x)) S w.heap K) : ESound P X a o w K := by
  simp only [esem] at h
  split at h
  · rename_i ty v he
    have he' := ev_some ha he
    simp only [SV.toV] at he'
    intro next Q hnx hpx
    have hex : (execOp a.eval o).run P w = .halt (.panic (.iface ty v)) w := by
      have e2 : (Instr.panic (.iface ty v)).run P w = .halt (.panic (.iface ty v)) w := rfl
      simp [execOp, ho, he', e2]
    unfold Oper.wp
    rw [hex]
    exact hpx _ w (Sim.refl w) h
  · exact h.elim
theorem panic_sound {o : Oper} {t : TypeId} {x : Operand} {w : World} {K : SV → Heap → Prop} (ho : o.op = .call { callee := .builtin .panic, args := #[x], argTypes := #[t] })
    (ha : Agree S a) (h : esem P C X (.panic (src x)) S w.heap K) : ESound P X a o w K := by
  simp only [esem] at h
  split at h
  · rename_i ty v he
    have he' := ev_some ha he
    simp only [SV.toV] at he'
    intro next Q hnx hpx
    have hex : (execOp a.eval o).run P w = .halt (.panic (.iface ty v)) w := by
      have e2 : (Instr.panic (.iface ty v)).run P w = .halt (.panic (.iface ty v)) w := rfl
      simp only [execOp, ho]
      cases x <;> simp [Act.eval, Array.getD_eq_getD_getElem?] at he' <;> simp [invoke, resolve, go_sem, he', e2]
    unfold Oper.wp
    rw [hex]
    exact hpx _ w (Sim.refl w) h
  · exact h.elim
theorem call_sound [Fits P C X] {o : Oper} {f : FuncId} {as : Array Operand} {ts : Array TypeId} {z : Value} {fn : Func} {w : World} {K : SV → Heap → Prop} (ho : o.op = .call { callee := .value (.func f), args := as, argTypes := ts })
    (hf : P.funcs[f]? = some fn) (hb : fn.body.isSome = true) (hn : (fn.name == "runtime.NumGoroutine") = false) (ha : Agree S a) (h : esem P C X (.call f (as.toList.map src) z) S w.heap K) : ESound P X a o w K := by
  simp only [esem] at h
  have h := withVs_sound ha as.toList h
  intro next Q hnx hpx
  have hex : (execOp a.eval o).run P w = .ok (.enter f (as.map a.eval)) w := by
    have hb' : fn.body.isNone = false := by cases hb'' : fn.body <;> simp_all
    simp only [execOp, ho, resolve, Sem.run_bind, Act.eval, Deferred.ofValue, Sem.run_pure, Result.andThen_ok, invoke, callFunc, run_program, hf, hn, hb', Bool.false_eq_true, if_false]
    simp
  unfold Oper.wp
  rw [hex]
  simp only [Oper.upon]
  have e1 : (as.toList.map a.eval).toArray = as.map a.eval := by apply Array.ext'; simp
  have := Fits.fits (P := P) (X := X) h w rfl
  rw [e1] at this
  refine this.mono ?_
  rintro e w' (⟨v, rfl, hs, hr⟩ | ⟨p, rfl, hs, hr⟩)
  · obtain ⟨u, rfl, hk⟩ := exR_sound hr
    exact hnx _ _ hs hk
  · exact hpx p w' hs hr
theorem callv_sound [Fits P C X] {o : Oper} {x : Tmp} {as : Array Operand} {ts : Array TypeId} {z : Value} {w : World} {K : SV → Heap → Prop} (ho : o.op = .call { callee := .value (.tmp x), args := as, argTypes := ts })
    (ha : Agree S a) (h : esem P C X (.callv (.t x) (as.toList.map src) z) S w.heap K) : ESound P X a o w K := by
  simp only [esem] at h
  split at h
  · rename_i f first cap he
    unfold hasB at h
    split at h
    · rename_i fn hf
      split at h
      · rename_i hb
        simp only [Bool.and_eq_true, Bool.not_eq_true'] at hb
        have h := withVs_sound ha as.toList h
        have he' : a.eval (.tmp x) = .func (.func f) first cap := ev_some (x := .tmp x) ha he
        intro next Q hnx hpx
        have hex : (execOp a.eval o).run P w = .ok (.enter f (first ++ as.map a.eval ++ cap)) w := by
          have hb' : fn.body.isNone = false := by cases hb'' : fn.body <;> simp_all
          simp only [execOp, ho, resolve, Sem.run_bind, he', Deferred.ofValue, Sem.run_pure, Result.andThen_ok, invoke, callFunc, run_program, hf, hb.2, hb', Bool.false_eq_true, if_false]
        unfold Oper.wp
        rw [hex]
        simp only [Oper.upon]
        have e1 : (first.toList ++ as.toList.map a.eval ++ cap.toList).toArray = first ++ as.map a.eval ++ cap := by apply Array.ext'; simp
        have := Fits.fits (P := P) (X := X) h w rfl
        rw [e1] at this
        refine this.mono ?_
        rintro e w' (⟨v, rfl, hs, hr⟩ | ⟨p, rfl, hs, hr⟩)
        · obtain ⟨u, rfl, hk⟩ := exR_sound hr
          exact hnx _ _ hs hk
        · exact hpx p w' hs hr
      · exact h.elim
    · exact h.elim
  · exact h.elim
end
end Go.Vc

namespace Go.Vc

/-! ### A walk over a map whose keys are of the kind int -/

theorem esl_mem {es : List MapEntry} {l : List (Int × Value)} (he : es.map (fun e => (e.key, e.val)) = l.map (fun p => (.int .i64 p.1, p.2))) {e : MapEntry} (h : e ∈ es) : ∃ p ∈ l, e.key = .int .i64 p.1 ∧ e.val = p.2 := by
  have : (e.key, e.val) ∈ l.map (fun p => ((.int .i64 p.1, p.2) : Value × Value)) := he ▸ List.mem_map.2 ⟨e, h, rfl⟩
  obtain ⟨p, hp, hpe⟩ := List.mem_map.1 this
  simp only [Prod.mk.injEq] at hpe
  exact ⟨p, hp, hpe.1.symm, hpe.2.symm⟩

theorem esl_mem' {es : List MapEntry} {l : List (Int × Value)} (he : es.map (fun e => (e.key, e.val)) = l.map (fun p => (.int .i64 p.1, p.2))) {p : Int × Value} (h : p ∈ l) : ∃ e ∈ es, e.key = .int .i64 p.1 ∧ e.val = p.2 := by
  have : ((.int .i64 p.1, p.2) : Value × Value) ∈ es.map (fun e => (e.key, e.val)) := he ▸ List.mem_map.2 ⟨p, h, rfl⟩
  obtain ⟨e, hp, hpe⟩ := List.mem_map.1 this
  simp only [Prod.mk.injEq] at hpe
  exact ⟨e, hp, hpe.1, hpe.2⟩

theorem nodup_map_inj {α β : Type} {f : α → β} : ∀ {l : List α}, (l.map f).Nodup → ∀ {x y}, x ∈ l → y ∈ l → f x = f y → x = y
  | [], _, _, _, hx, _, _ => by cases hx
  | a :: l, hn, x, y, hx, hy, h => by
    simp only [List.map_cons, List.nodup_cons, List.mem_map, not_exists, not_and] at hn
    rcases List.mem_cons.1 hx with h1 | h1
    · rcases List.mem_cons.1 hy with h2 | h2
      · rw [h1, h2]
      · exact absurd (h1 ▸ h.symm) (hn.1 y h2)
    · rcases List.mem_cons.1 hy with h2 | h2
      · exact absurd (h2 ▸ h) (hn.1 x h1)
      · exact nodup_map_inj hn.2 h1 h2 h

section
variable {P : Program} {C : CallP} {X : Value → Heap → Prop} {S : Sym} {a : Act}

theorem mriter_sound {o : Oper} {t kt e : TypeId} {x : Operand} {w : World} {K : SV → Heap → Prop} (ho : o.op = .range t x) (ht : P.underlying t = some (.map kt e)) (ha : Agree S a) (h : esem P C X (.mriter (src x)) S w.heap K) : ESound P X a o w K := by
  simp only [esem] at h
  split at h
  · rename_i b hx
    have hx' := ev_some ha hx
    simp only [SV.toV] at hx'
    obtain ⟨m, l, rfl, ⟨es, clock, hb, he, hs⟩, h⟩ := h
    refine esound_val (x := Instr.range t (a.eval x)) (by simp [execOp, ho]) (s := .v (.pointer (some ⟨w.heap.size, 0, none⟩))) (w' := w.alloc (.mapIter (some m) clock #[] clock)) ?_ (sim_alloc _ _) (h _ _ ?_)
    · rw [hx']
      exact run_range_map w t kt e m es clock ht hb
    · have hm : m < w.heap.size := (Array.getElem?_eq_some_iff.1 hb).1
      have hh : (w.alloc (.mapIter (some m) clock #[] clock)).heap = w.heap.push (.mapIter (some m) clock #[] clock) := rfl
      rw [hh]
      refine ⟨rfl, by simp, fun k hk => ?_, es, clock, #[], [], by simp, ?_, he, hs, rfl, rfl, by simp⟩
      · simp [Array.getElem?_push, Nat.ne_of_lt hk]
      · simp only [Array.getElem?_push, Nat.ne_of_lt hm, if_false]; exact hb
  · exact h.elim

theorem mnext_sound {o : Oper} {x : Operand} {w : World} {K : SV → Heap → Prop} (ho : o.op = .next x false) (ha : Agree S a) (h : esem P C X (.mnext (src x)) S w.heap K) : ESound P X a o w K := by
  simp only [esem] at h
  split at h
  · rename_i r hx
    have hx' := ev_some ha hx
    simp only [SV.toV] at hx'
    obtain ⟨m, l, done, ⟨es, clock, seen, ds, hr, hb, he, hs, hsn, hdn, hde⟩, h1, h2⟩ := h
    have hr' : w.heap[r]? = some (.mapIter (some m) clock seen clock) := hr
    have hb' : w.heap[m]? = some (.map es clock) := hb
    rcases run_next_at (P := P) w o.type r m clock clock seen es clock hr' hb' hs.1 (Nat.le_refl _) with ⟨h0, hrun⟩ | ⟨e, hel, w1, hw1, hrun⟩
    · refine esound_val (x := Instr.next (a.eval x) false o.type) (by simp [execOp, ho]) (s := .v (.tuple #[.bool false])) (w' := w) ?_ (Sim.refl w) (h2 ?_)
      · rw [hx']; exact hrun
      · intro p hp
        obtain ⟨e, hee, hk, _⟩ := esl_mem' he hp
        have hc := all_seen es seen h0 e hee
        have hc' : e.born ∈ seen.toList := by simpa using hc
        rw [hsn] at hc'
        obtain ⟨d, hd, hdb⟩ := List.mem_map.1 hc'
        obtain rfl := nodup_map_inj hs.2.1 (hde d hd) hee hdb
        have : Value.int .i64 p.1 ∈ done.map (fun k => Value.int .i64 k) := hdn ▸ List.mem_map.2 ⟨d, hd, hk⟩
        obtain ⟨k, hk', he'⟩ := List.mem_map.1 this
        cases he'
        exact hk'
    · obtain ⟨hee, hns⟩ := mem_left hel
      obtain ⟨p, hp, hk, hv⟩ := esl_mem he hee
      have hrun' := hrun
      rw [hk, hv] at hrun'
      have hr1 : w1.heap[r]? = some (.mapIter (some m) clock seen clock) := by rcases hw1 with rfl | rfl <;> exact hr
      have hw1h : w1.heap = w.heap := by rcases hw1 with rfl | rfl <;> rfl
      have hne : m ≠ r := by rintro rfl; rw [hb'] at hr'; cases hr'
      have hset := MapKept.heap_set (o' := .mapIter (some m) clock (seen.push e.born) clock) hr1
      refine esound_val (x := Instr.next (a.eval x) false o.type) (by simp [execOp, ho]) (s := .v (.tuple #[.bool true, .int .i64 p.1, p.2])) (w' := ChangeMaps.setBlock w1 r (.mapIter (some m) clock (seen.push e.born) clock)) ?_ ?_ (h1 p.1 p.2 _ hp ?_ ?_)
      · rw [hx']; exact hrun'
      · rcases hw1 with rfl | rfl <;> exact ⟨rfl, rfl, rfl⟩
      · intro hin
        have : Value.int .i64 p.1 ∈ ds.map (fun e => e.key) := hdn ▸ List.mem_map.2 ⟨p.1, hin, rfl⟩
        obtain ⟨d, hd, hdk⟩ := List.mem_map.1 this
        obtain rfl := nodup_map_inj hs.2.2 (hde d hd) hee (hdk.trans hk.symm)
        have : seen.contains d.born = true := by
          have : d.born ∈ seen.toList := hsn ▸ List.mem_map.2 ⟨d, hd, rfl⟩
          simpa using this
        rw [this] at hns; cases hns
      · refine ⟨by simp [ChangeMaps.setBlock, hw1h], fun j hj => (hset.2 j hj).trans (by rw [hw1h]), es, clock, seen.push e.born, ds ++ [e], hset.1, (hset.2 m hne).trans (by rw [hw1h]; exact hb'), he, hs, by simp [hsn], by simp [hdn, hk], ?_⟩
        intro d hd
        rcases List.mem_append.1 hd with hd | hd
        · exact hde d hd
        · rw [List.mem_singleton.1 hd]; exact hee
  · exact h.elim

theorem mentry_sound {o : Oper} {z : Option Value} {x : Operand} {w : World} {K : SV → Heap → Prop} (ho : o.op = .entry x) (ha : Agree S a) (h : esem P C X (.mentry z (src x)) S w.heap K) : ESound P X a o w K := by
  simp only [esem] at h
  split at h
  · rename_i r hx
    have hx' := ev_some ha hx
    simp only [SV.toV] at hx'
    obtain ⟨m, l, done, k, ⟨es, clock, seen, ds, hr, hb, he, hs, hsn, hdn, hde⟩, h⟩ := h
    obtain ⟨v, hkv, h⟩ := exO_sound h
    rw [List.map_append] at hdn
    obtain ⟨ds', d1, rfl, hd1, hd2⟩ := List.map_eq_append_iff.1 hdn
    obtain ⟨e, rfl⟩ : ∃ e, d1 = [e] := by
      match d1, hd2 with
      | [e], _ => exact ⟨e, rfl⟩
      | [], h => simp at h
      | _ :: _ :: _, h => simp at h
    have hek : e.key = .int .i64 k := by simpa using hd2
    have hee := hde e (by simp)
    obtain ⟨e', hee', hk', hv'⟩ := esl_mem' he hkv
    obtain rfl := nodup_map_inj hs.2.2 hee' hee (hk'.trans hek.symm)
    have hseen : seen = ((ds'.map (fun e => e.born)).toArray).push e'.born := by
      apply Array.ext'
      rw [hsn]; simp
    have hr' : w.heap[r]? = some (.mapIter (some m) clock (((ds'.map (fun e => e.born)).toArray).push e'.born) clock) := by rw [← hseen]; exact hr
    have hrun := run_entry_at (P := P) w r m clock _ es clock e' hr' hb hee hs.2.1
    refine esound_val (x := Instr.entry (a.eval x)) (by simp [execOp, ho]) (s := .v (.tuple #[.int .i64 k, v])) (w' := w) ?_ (Sim.refl w) h
    rw [hx', SV.toV]
    rw [hk', hv'] at hrun
    exact hrun
  · exact h.elim
end
end Go.Vc

namespace Go.Vc

section
variable {P : Program} {C : CallP} {X : Value → Heap → Prop} {S : Sym} {a : Act}

theorem beq_ne {m : Nat} (h : (!Nat.beq m 0) = true) : m ≠ 0 := by
  rintro rfl
  exact absurd h (by decide)

theorem compApp_sound {o : Oper} {t t' e : TypeId} {d : TypeDesc} {s x : Operand} {w : World} {K : SV → Heap → Prop} {ef : EOp} (ho : o.op = .call { callee := .builtin .append, args := #[s, x], argTypes := #[t, t'] })
    (ht : P.underlying t = some (.slice e)) (ht' : P.underlying t' = some d) (hd : (∃ e', d = .slice e') ∨ d = .string) (hc : compApp P e s x = some ef) (ha : Agree S a) (h : esem P C X ef S w.heap K) : ESound P X a o w K := by
  unfold compApp at hc
  split at hc
  · rename_i z i hz hi
    split at hc
    · rename_i hb
      simp only [Option.some.injEq] at hc; subst hc
      exact app_sound ho ht ht' hd hz hi (beq_ne hb) ha h
    · cases hc
  · cases hc

theorem compAppz_sound {o : Oper} {t t' e : TypeId} {s x : Operand} {w : World} {K : SV → Heap → Prop} {ef : EOp} (ho : o.op = .call { callee := .builtin .append, args := #[s, x], argTypes := #[t, t'] })
    (ht : P.underlying t = some (.slice e)) (ht' : P.underlying t' = some (.int .i64)) (hc : compAppz P e s x = some ef) (ha : Agree S a) (h : esem P C X ef S w.heap K) : ESound P X a o w K := by
  unfold compAppz at hc
  split at hc
  · rename_i z i hz hi
    split at hc
    · rename_i hb
      simp only [Bool.and_eq_true] at hb
      simp only [Option.some.injEq] at hc; subst hc
      exact appz_sound ho ht ht' hz hi (Nat.eq_of_beq_eq_true hb.1.1) (beq_ne hb.1.2) (beq_ne hb.2) ha h
    · cases hc
  · cases hc

theorem eff0_sound [Fits P C X] {o : Oper} {ef : EOp} {w : World} {K : SV → Heap → Prop} (hc : compE0 P o.op o.type = some ef) (ha : Agree S a) (h : esem P C X ef S w.heap K) : ESound P X a o w K := by
  obtain ⟨dst, op, type, pos, after, guard⟩ := o
  cases op with
  | store t x v =>
    simp only [compE0] at hc
    split at hc
    · rename_i i hi
      simp only [Option.some.injEq] at hc; subst hc
      exact store_sound rfl hi ha h
    · cases hc
  | box e x =>
    simp only [compE0, Option.some.injEq] at hc; subst hc
    exact box_sound rfl ha h
  | alloc e =>
    simp only [compE0] at hc
    split at hc
    · rename_i z hz
      simp only [Option.some.injEq] at hc; subst hc
      exact alloc_sound rfl hz h
    · cases hc
  | buildSlice t len parts =>
    simp only [compE0] at hc
    split at hc
    · rename_i e ht
      split at hc
      · rename_i z i hz hi
        split at hc
        · rename_i hb
          simp only [Bool.and_eq_true] at hb
          simp only [Option.some.injEq] at hc; subst hc
          exact bslice_sound rfl ht hz hi (Nat.eq_of_beq_eq_true hb.1.1) (beq_ne hb.1.2) (Nat.le_of_ble_eq_true hb.2) ha h
        · cases hc
      · cases hc
    · cases hc
  | makeSlice t l c =>
    simp only [compE0] at hc
    split at hc
    · rename_i e ht
      split at hc
      · rename_i z i hz hi
        split at hc
        · rename_i hb
          simp only [Bool.and_eq_true] at hb
          simp only [Option.some.injEq] at hc; subst hc
          exact mkslice_sound rfl ht hz hi (Nat.eq_of_beq_eq_true hb.1.1) (beq_ne hb.1.2) (beq_ne hb.2) ha h
        · cases hc
      · cases hc
    · cases hc
  | call c =>
    obtain ⟨callee, as, ts⟩ := c
    cases callee with
    | invoke r m => simp [compE0] at hc
    | builtin b =>
      obtain ⟨as⟩ := as
      obtain ⟨ts⟩ := ts
      simp only [compE0] at hc
      split at hc
      · rename_i s x t t'
        split at hc
        · rename_i e e' ht ht'
          exact compApp_sound rfl ht ht' (.inl ⟨_, rfl⟩) hc ha h
        · rename_i e ht ht'
          exact compApp_sound rfl ht ht' (.inr rfl) hc ha h
        · rename_i e ht ht'
          exact compAppz_sound rfl ht ht' hc ha h
        · cases hc
      · rename_i d x t t'
        split at hc
        · rename_i e e' ht ht'
          split at hc
          · rename_i i hi
            simp only [Option.some.injEq] at hc; subst hc
            exact copy_sound rfl ht hi ha h
          · cases hc
        · rename_i e ht ht'
          split at hc
          · rename_i i hi
            split at hc
            · rename_i hb
              simp only [Option.some.injEq] at hc; subst hc
              exact copyt_sound rfl ht hi (Nat.eq_of_beq_eq_true hb) ha h
            · cases hc
          · cases hc
        · cases hc
      · rename_i x n t t'
        split at hc
        · rename_i e ht
          split at hc
          · rename_i hb
            simp only [Option.some.injEq] at hc; subst hc
            exact ustr_sound rfl ht (Nat.eq_of_beq_eq_true hb) ha h
          · cases hc
        · cases hc
      · rename_i x t
        split at hc
        · rename_i e ht
          split at hc
          · rename_i z i hz hi
            split at hc
            · rename_i hb
              simp only [Option.some.injEq] at hc; subst hc
              exact clr_sound rfl ht hz hi (Nat.eq_of_beq_eq_true hb) ha h
            · cases hc
          · cases hc
        · cases hc
      · rename_i m k t u
        split at hc
        · rename_i kt e ht
          split at hc
          · rename_i hk
            simp only [Option.some.injEq] at hc; subst hc
            exact mdel_sound rfl ht hk ha h
          · cases hc
        · cases hc
      · rename_i x t
        simp only [Option.some.injEq] at hc; subst hc
        exact panic_sound rfl ha h
      · cases hc
    | value f =>
      cases f with
      | func f =>
        simp only [compE0] at hc
        split at hc
        · rename_i fn z hf hz
          split at hc
          · rename_i hb
            simp only [Bool.and_eq_true, Bool.not_eq_true'] at hb
            simp only [Option.some.injEq] at hc; subst hc
            exact call_sound rfl hf hb.1 hb.2 ha h
          · cases hc
        · cases hc
      | tmp x =>
        simp only [compE0] at hc
        split at hc
        · rename_i z hz
          simp only [Option.some.injEq] at hc; subst hc
          exact callv_sound rfl ha h
        · cases hc
      | _ => simp [compE0] at hc
  | convert s d x =>
    simp only [compE0] at hc
    split at hc
    · rename_i e hs hd
      split at hc
      · rename_i he
        simp only [Option.some.injEq] at hc; subst hc
        exact s2b_sound rfl hs hd he ha h
      · cases hc
    · rename_i e e' hs hd
      split at hc
      · rename_i he hq
        obtain rfl := Nat.eq_of_beq_eq_true hq
        simp only [Option.some.injEq] at hc; subst hc
        exact mark_sound rfl hs hd he ha h
      · cases hc
    · cases hc
  | panic x =>
    simp only [compE0, Option.some.injEq] at hc; subst hc
    exact panicop_sound rfl ha h
  | range t x =>
    simp only [compE0] at hc
    split at hc
    · rename_i ht
      simp only [Option.some.injEq] at hc; subst hc
      exact riter_sound rfl ht ha h
    · split at hc
      · simp only [Option.some.injEq] at hc; subst hc
        rename_i ht _ _
        exact mriter_sound rfl ht ha h
      · cases hc
    · cases hc
  | next x b =>
    cases b with
    | false =>
      simp only [compE0, Option.some.injEq] at hc; subst hc
      exact mnext_sound rfl ha h
    | true =>
      simp only [compE0, Option.some.injEq] at hc; subst hc
      exact rnext_sound rfl ha h
  | makeMap t r =>
    cases r with
    | some r => simp [compE0] at hc
    | none =>
      simp only [compE0] at hc
      split at hc
      · simp only [Option.some.injEq] at hc; subst hc
        exact mnew_sound rfl h
      · cases hc
  | mapUpdate t m k v =>
    simp only [compE0] at hc
    split at hc
    · rename_i kt e ht
      split at hc
      · rename_i hk
        simp only [Option.some.injEq] at hc; subst hc
        exact mput_sound rfl ht hk ha h
      · cases hc
    · cases hc
  | _ => simp [compE0] at hc

theorem eff_sound [Fits P C X] {h0 : Option Value} {o : Oper} {ef : EOp} {w : World} {K : SV → Heap → Prop} (hc : compE P h0 o.op o.type = some ef) (ha : Agree S a) (h : esem P C X ef S w.heap K) : ESound P X a o w K := by
  unfold compE at hc
  split at hc
  · rename_i x hx
    simp only [Option.some.injEq] at hc; subst hc
    exact mentry_sound hx ha h
  · split at hc
    · rename_i e he
      simp only [Option.some.injEq] at hc; subst hc
      exact eff0_sound he ha h
    · simp only [Option.some.injEq] at hc; subst hc
      exact h.elim
end
end Go.Vc

namespace Go.Vc

inductive SOp where
  | p (q : POp)
  | r (q : ROp)
  | e (q : EOp)

structure SOper where
  dst : Option Nat
  guard : Option (Nat × Bool)
  op : SOp
  idx : Nat
  keep : List Nat

/-- The orders in which a region that draws may come up. -/
inductive STree where
  | nil
  | op (o : SOper) (r : STree)
  | alt (a b : STree)

inductive RV where
  | tmp (t : Nat)
  | cell (z : List Value) (agg : Bool) (a : Nat)

inductive SCode where
  | skip
  | region (ops : List SOper)
  | draw (ops : STree)
  | seq (a b : SCode)
  | cut (vars : List (Nat × Value)) (mods : List Nat) (a b : SCode)
  | cond (c : Src) (a b : SCode)
  | block (id : Nat) (a : SCode)
  | loop (mods live : List Nat) (a : SCode)
  | exit (id : Nat)
  | ret

/-! ### Predicates over the parts of values -/

def Fun1 (z : Value) (T : Type) : Type :=
  match z with
  | .int _ _ => Int → T
  | .bool _ => Bool → T
  | .string _ => ByteArray → T
  | .float _ _ => Nat → T
  | .pointer _ => Option Addr → T
  | .slice _ _ _ => Option Addr → Nat → Nat → T
  | .map _ => Option Nat → T
  | _ => Value → T

def FunA : List Value → Type → Type
  | [], T => T
  | z :: r, T => Fun1 z (FunA r T)

def FunV (z : Value) (T : Type) : Type :=
  match z with
  | .agg cs => FunA cs.toList T
  | z => Fun1 z T

def FunL : List Value → Type → Type
  | [], T => T
  | z :: r, T => FunV z (FunL r T)

/-- For all parts: the value, and what the functions give. -/
def all1 (z : Value) (T U : Type) (f : Fun1 z T) (g : Fun1 z U) (K : Value → T → U → Prop) : Prop :=
  match z, f, g with
  | .int k _, f, g => ∀ n, K (.int k n) (f n) (g n)
  | .bool _, f, g => ∀ n, K (.bool n) (f n) (g n)
  | .string _, f, g => ∀ n, K (.string n) (f n) (g n)
  | .float k _, f, g => ∀ n, K (.float k n) (f n) (g n)
  | .pointer _, f, g => ∀ n, K (.pointer n) (f n) (g n)
  | .slice _ _ _, f, g => ∀ a n m, K (.slice a n m) (f a n m) (g a n m)
  | .map _, f, g => ∀ n, K (.map n) (f n) (g n)
  | .complex _ _ _, f, g => ∀ n, K n (f n) (g n)
  | .chan _, f, g => ∀ n, K n (f n) (g n)
  | .func _ _ _, f, g => ∀ n, K n (f n) (g n)
  | .nilFunc, f, g => ∀ n, K n (f n) (g n)
  | .iface _ _, f, g => ∀ n, K n (f n) (g n)
  | .nilIface, f, g => ∀ n, K n (f n) (g n)
  | .agg _, f, g => ∀ n, K n (f n) (g n)
  | .tuple _, f, g => ∀ n, K n (f n) (g n)

def allA : (zs : List Value) → (T U : Type) → FunA zs T → FunA zs U → (List Value → T → U → Prop) → Prop
  | [], _, _, f, g, K => K [] f g
  | z :: r, T, U, f, g, K => all1 z (FunA r T) (FunA r U) f g fun v f g => allA r T U f g fun vs f g => K (v :: vs) f g

def allV (z : Value) (T U : Type) (f : FunV z T) (g : FunV z U) (K : Value → T → U → Prop) : Prop :=
  match z, f, g with
  | .agg cs, f, g => allA cs.toList T U f g fun vs f g => K (.agg vs.toArray) f g
  | .int k n, f, g => all1 (.int k n) T U f g K
  | .bool n, f, g => all1 (.bool n) T U f g K
  | .string n, f, g => all1 (.string n) T U f g K
  | .float k n, f, g => all1 (.float k n) T U f g K
  | .pointer n, f, g => all1 (.pointer n) T U f g K
  | .slice a n m, f, g => all1 (.slice a n m) T U f g K
  | .map n, f, g => all1 (.map n) T U f g K
  | .complex a b c, f, g => all1 (.complex a b c) T U f g K
  | .chan a, f, g => all1 (.chan a) T U f g K
  | .func a b c, f, g => all1 (.func a b c) T U f g K
  | .nilFunc, f, g => all1 .nilFunc T U f g K
  | .iface a b, f, g => all1 (.iface a b) T U f g K
  | .nilIface, f, g => all1 .nilIface T U f g K
  | .tuple a, f, g => all1 (.tuple a) T U f g K

def allL : (zs : List Value) → (T U : Type) → FunL zs T → FunL zs U → (List Value → T → U → Prop) → Prop
  | [], _, _, f, g, K => K [] f g
  | z :: r, T, U, f, g, K => allV z (FunL r T) (FunL r U) f g fun v f g => allL r T U f g fun vs f g => K (v :: vs) f g

/-- What the functions give of this value's parts. -/
def app1 (z : Value) (T U : Type) (f : Fun1 z T) (g : Fun1 z U) (v : Value) (K : T → U → Prop) : Prop :=
  match z, f, g, v with
  | .int k _, f, g, .int k' n => match decide (k = k') with | true => K (f n) (g n) | false => False
  | .bool _, f, g, .bool n => K (f n) (g n)
  | .string _, f, g, .string n => K (f n) (g n)
  | .float k _, f, g, .float k' n => match decide (k = k') with | true => K (f n) (g n) | false => False
  | .pointer _, f, g, .pointer n => K (f n) (g n)
  | .slice _ _ _, f, g, .slice a n m => K (f a n m) (g a n m)
  | .map _, f, g, .map n => K (f n) (g n)
  | .complex _ _ _, f, g, v => K (f v) (g v)
  | .chan _, f, g, v => K (f v) (g v)
  | .func _ _ _, f, g, v => K (f v) (g v)
  | .nilFunc, f, g, v => K (f v) (g v)
  | .iface _ _, f, g, v => K (f v) (g v)
  | .nilIface, f, g, v => K (f v) (g v)
  | .agg _, f, g, v => K (f v) (g v)
  | .tuple _, f, g, v => K (f v) (g v)
  | _, _, _, _ => False

def appA : (zs : List Value) → (T U : Type) → FunA zs T → FunA zs U → List Value → (T → U → Prop) → Prop
  | [], _, _, f, g, [], K => K f g
  | z :: r, T, U, f, g, v :: vs, K => app1 z (FunA r T) (FunA r U) f g v fun f g => appA r T U f g vs K
  | _, _, _, _, _, _, _ => False

def appV (z : Value) (T U : Type) (f : FunV z T) (g : FunV z U) (v : Value) (K : T → U → Prop) : Prop :=
  match z, f, g, v with
  | .agg cs, f, g, .agg vs => appA cs.toList T U f g vs.toList K
  | .agg _, _, _, _ => False
  | .int k n, f, g, v => app1 (.int k n) T U f g v K
  | .bool n, f, g, v => app1 (.bool n) T U f g v K
  | .string n, f, g, v => app1 (.string n) T U f g v K
  | .float k n, f, g, v => app1 (.float k n) T U f g v K
  | .pointer n, f, g, v => app1 (.pointer n) T U f g v K
  | .slice a n m, f, g, v => app1 (.slice a n m) T U f g v K
  | .map n, f, g, v => app1 (.map n) T U f g v K
  | .complex a b c, f, g, v => app1 (.complex a b c) T U f g v K
  | .chan a, f, g, v => app1 (.chan a) T U f g v K
  | .func a b c, f, g, v => app1 (.func a b c) T U f g v K
  | .nilFunc, f, g, v => app1 .nilFunc T U f g v K
  | .iface a b, f, g, v => app1 (.iface a b) T U f g v K
  | .nilIface, f, g, v => app1 .nilIface T U f g v K
  | .tuple a, f, g, v => app1 (.tuple a) T U f g v K

def appL : (zs : List Value) → (T U : Type) → FunL zs T → FunL zs U → List Value → (T → U → Prop) → Prop
  | [], _, _, f, g, [], K => K f g
  | z :: r, T, U, f, g, v :: vs, K => appV z (FunL r T) (FunL r U) f g v fun f g => appL r T U f g vs K
  | _, _, _, _, _, _, _ => False

/-! ### The walk -/

structure Kont where
  norm : Sym → Heap → Prop
  exit : Nat → Sym → Heap → Prop
  ret : Sym → Heap → Prop

def guarded (g : Option (Nat × Bool)) (S : Sym) (yes no : Sym → Prop) : Prop :=
  match g with
  | none => yes S
  | some (t, want) => match S.get t with
    | some (.v (.tuple _)) => no S
    | some s => branch s fun x => match x, want with
      | true, true => yes ((t, .b true) :: S)
      | false, false => yes ((t, .b false) :: S)
      | true, false => no ((t, .b true) :: S)
      | false, true => no ((t, .b false) :: S)
    | none => False

def stepOp (P : Program) (C : CallP) (Xp : Value → Heap → Prop) (o : SOp) (S : Sym) (H : Heap) (K : SV → Heap → Prop) : Prop :=
  match o with
  | .p q => psem q S fun s => K s H
  | .r q => rsem q S H fun s _ => K s H
  | .e q => esem P C Xp q S H K

def WPops (P : Program) (C : CallP) (Xp : Value → Heap → Prop) : List SOper → Sym → Heap → (Sym → Heap → Prop) → Prop
  | [], S, H, K => K S H
  | o :: r, S, H, K => guarded o.guard S (fun S => stepOp P C Xp o.op S H fun s H' => WPops P C Xp r (S.put o.dst s) H' K) (fun S => WPops P C Xp r (S.put o.dst (.v undef)) H K)

/-- The facts that must go on to hold. -/
def holds : List (Nat × (Heap → Prop)) → List Nat → Heap → Prop → Prop
  | [], _, _, X => X
  | (i, φ) :: F, l, H, X => match l.contains i with
    | true => φ H ∧ holds F l H X
    | false => holds F l H X

def WPdraw (P : Program) (C : CallP) (Xp : Value → Heap → Prop) : STree → Sym → Heap → List (Nat × (Heap → Prop)) → (Sym → Heap → Prop) → Prop
  | .nil, S, H, _, K => K S H
  | .alt a b, S, H, F, K => WPdraw P C Xp a S H F K ∧ WPdraw P C Xp b S H F K
  | .op o r, S, H, F, K => guarded o.guard S
      (fun S => match o.op with
        | .p q => psem q S fun s => WPdraw P C Xp r (S.put o.dst s) H F K
        | .r q => rsem q S H fun s φ => WPdraw P C Xp r (S.put o.dst s) H ((o.idx, φ) :: F) K
        | .e q => esem P C Xp q S H fun s H' => holds F o.keep H' (WPdraw P C Xp r (S.put o.dst s) H' F K))
      (fun S => WPdraw P C Xp r (S.put o.dst (.v undef)) H F K)

def SV.shape : SV → Value
  | .v x => x
  | .b _ => .bool false
  | .p _ => .bool false

def svOf : Value → SV
  | .bool b => .v (.bool b)
  | v => .v v

def getAll (S : Sym) : List Nat → Option (List SV)
  | [] => some []
  | t :: r => match S.get t, getAll S r with
    | some s, some l => some (s :: l)
    | _, _ => none

def Sym.del (S : Sym) (mods : List Nat) : Sym :=
  match S with
  | [] => []
  | x :: r => match mods.contains x.1 with
    | true => Sym.del r mods
    | false => x :: Sym.del r mods

/-- The slots among 'mods' that hold something. -/
def lives (S : Sym) : List Nat → List (Nat × SV)
  | [] => []
  | t :: r => match S.get t with
    | some s => (t, s) :: lives S r
    | none => lives S r

def syms : List Nat → List Value → Sym → Sym
  | t :: ts, v :: vs, S => (t, .v v) :: syms ts vs S
  | _, _, S => S

def WP (P : Program) (C : CallP) (Xp : Value → Heap → Prop) : SCode → Kont → Sym → Heap → Prop
  | .skip, K, S, H => K.norm S H
  | .region ops, K, S, H => WPops P C Xp ops S H K.norm
  | .draw ops, K, S, H => WPdraw P C Xp ops S H [] K.norm
  | .seq a b, K, S, H => WP P C Xp a { K with norm := fun S H => WP P C Xp b K S H } S H
  | .cut vars mods a b, K, S, H =>
    ∃ I : FunL (vars.map (·.2)) (Heap → Prop),
      WP P C Xp a { K with norm := fun S' H' => match getAll S' (vars.map (·.1)) with
        | some ss => appL (vars.map (·.2)) (Heap → Prop) (Heap → Prop) I I (ss.map SV.toV) fun X _ => X H'
        | none => False } S H ∧
      allL (vars.map (·.2)) (Heap → Prop) (Heap → Prop) I I fun vs X _ => ∀ H', X H' → WP P C Xp b K (syms (vars.map (·.1)) vs (S.del mods)) H'
  | .cond c a b, K, S, H => match ev S c with
    | some s => branch s fun x => match x with | true => WP P C Xp a K S H | false => WP P C Xp b K S H
    | none => False
  | .block id a, K, S, H => WP P C Xp a { K with exit := fun i S H => match Nat.beq i id with | true => K.norm S H | false => K.exit i S H } S H
  | .loop mods live a, K, S, H =>
    ∃ I : FunL ((lives S live).map (·.2.shape)) (Heap → Prop), ∃ μ : FunL ((lives S live).map (·.2.shape)) (Heap → Nat),
      appL ((lives S live).map (·.2.shape)) (Heap → Prop) (Heap → Nat) I μ ((lives S live).map (·.2.toV)) (fun X _ => X H) ∧
      allL ((lives S live).map (·.2.shape)) (Heap → Prop) (Heap → Nat) I μ fun vs X m => ∀ H', X H' →
        WP P C Xp a { K with norm := fun S' H'' => match getAll S' ((lives S live).map (·.1)) with
          | some ss => appL ((lives S live).map (·.2.shape)) (Heap → Prop) (Heap → Nat) I μ (ss.map SV.toV) fun X' m' => X' H'' ∧ m' H'' < m H'
          | none => False } (syms ((lives S live).map (·.1)) vs (S.del mods)) H'
  | .exit id, K, S, H => K.exit id S H
  | .ret, K, S, H => K.ret S H

/-- The results. -/
def resK (H : Heap) : List RV → Sym → (List Value → Prop) → Prop
  | [], _, K => K []
  | .tmp t :: r, S, K => match S.get t with
    | some s => resK H r S fun vs => K (s.toV :: vs)
    | none => False
  | .cell z agg a :: r, S, K => rsem (.load z agg (.t a)) S H fun s _ => resK H r S fun vs => K (s.toV :: vs)

def retK (rs : List RV) (R : Value → Heap → Prop) (S : Sym) (H : Heap) : Prop :=
  resK H rs S fun vs => match vs with
    | [v] => R v H
    | vs => R (.tuple vs.toArray) H

def start : Nat → List Value → Sym
  | _, [] => []
  | i, v :: r => (i, .v v) :: start (i + 1) r

end Go.Vc

namespace Go.Vc

def compGuard (ops : Array Oper) (g : Option (Nat × Bool)) : Option (Option (Nat × Bool)) :=
  match g with
  | none => some none
  | some (j, want) => match (ops[j]?).bind (·.dst) with
    | some t => some (some (t, want))
    | none => none

def dstOk (N : Nat) (d : Option Nat) : Bool :=
  match d with
  | some d => Nat.blt d N
  | none => true

def compS (P : Program) (h : Option Value) (o : Op) (t : TypeId) : Option SOp :=
  match compP P o with
  | some q => some (.p q)
  | none => match compR P o with
    | some q => some (.r q)
    | none => match compE P h o t with
      | some q => some (.e q)
      | none => none

def compOper (P : Program) (N : Nat) (ops : Array Oper) (o : Oper) (idx : Nat) (keep : List Nat) : Option SOper :=
  match compGuard ops o.guard, compS P (hintE P ops o) o.op o.type, dstOk N o.dst with
  | some g, some q, true => some ⟨o.dst, g, q, idx, keep⟩
  | _, _, _ => none

def compOps (P : Program) (N : Nat) (ops : Array Oper) : List Oper → Option (List SOper)
  | [] => some []
  | o :: r => match compOper P N ops o 0 [], compOps P N ops r with
    | some s, some l => some (s :: l)
    | _, _ => none

structure Ag (N : Nat) (S : Sym) (a : Act) : Prop where
  size : a.tmps.size = N
  defers : a.defers = []
  agree : Agree S a

def opDst (o : Oper) : List Nat := match o.dst with | some d => [d] | none => []

def dstsL (l : List Oper) : List Nat := l.flatMap opDst

def Fr (l : List Nat) (a a' : Act) : Prop := ∀ t, t ∉ l → a'.tmps.getD t undef = a.tmps.getD t undef

theorem Fr.refl (l : List Nat) (a : Act) : Fr l a a := fun _ _ => rfl
theorem Fr.trans {l m : List Nat} {a b c : Act} (h : Fr l a b) (k : Fr m b c) : Fr (l ++ m) a c := fun t ht => by
  simp only [List.mem_append, not_or] at ht
  rw [k t ht.2, h t ht.1]
theorem Fr.mono {l m : List Nat} {a b : Act} (h : Fr l a b) (hs : ∀ t, t ∈ l → t ∈ m) : Fr m a b := fun t ht => h t (fun h' => ht (hs t h'))

theorem Fr.put (a : Act) (o : Oper) (v : Value) : Fr (opDst o) a (a.put o.dst v) := by
  intro t ht
  unfold opDst at ht
  unfold Act.put
  cases hd : o.dst with
  | none => rfl
  | some d =>
    rw [hd] at ht
    simp only [List.mem_singleton] at ht
    simp only [Array.getD_eq_getD_getElem?, Array.getElem?_setIfInBounds]
    rw [if_neg (fun h => ht h.symm)]

theorem get_cons {S : Sym} {t i : Nat} {s : SV} : Sym.get ((i, s) :: S) t = if i = t then some s else S.get t := by
  show (match Nat.beq i t with | true => some s | false => Sym.get S t) = _
  by_cases h : i = t
  · subst h; simp
  · rw [if_neg h]
    have : Nat.beq i t = false := by
      cases hb : Nat.beq i t with
      | false => rfl
      | true => exact absurd (Nat.eq_of_beq_eq_true hb) h
    rw [this]

theorem Ag.put {N : Nat} {S : Sym} {a : Act} (h : Ag N S a) {d : Option Nat} (hd : dstOk N d = true) (s : SV) : Ag N (S.put d s) (a.put d s.toV) := by
  cases d with
  | none => exact h
  | some d =>
    refine ⟨by simp [Act.put, h.size], h.defers, ?_⟩
    intro t s' ht
    simp only [Sym.put, get_cons] at ht
    have hlt : d < a.tmps.size := by rw [h.size]; simpa [dstOk] using hd
    simp only [Act.put, Array.getD_eq_getD_getElem?, Array.getElem?_setIfInBounds]
    split at ht
    · rename_i e
      subst e
      simp only [Option.some.injEq] at ht
      subst ht
      simp [hlt]
    · rename_i e
      rw [if_neg e, ← Array.getD_eq_getD_getElem?]
      exact h.agree t s' ht

theorem Ag.know {N : Nat} {S : Sym} {a : Act} (h : Ag N S a) {t : Nat} {b : Bool} (ht : a.tmps.getD t undef = .bool b) : Ag N ((t, .b b) :: S) a := by
  refine ⟨h.size, h.defers, ?_⟩
  intro t' s' h'
  rw [get_cons] at h'
  split at h'
  · rename_i e; subst e; simp only [Option.some.injEq] at h'; subst h'; exact ht
  · exact h.agree t' s' h'

theorem yielded_of {ops : Array Oper} {tmps : Array Value} {j t : Nat} {b : Bool} (hj : (ops[j]?).bind (·.dst) = some t) (ht : tmps.getD t undef = .bool b) : yielded ops tmps j = some b := by
  unfold yielded
  rw [hj]
  simp only [Option.bind_some]
  have : tmps[t]? = some (.bool b) := by
    rw [Array.getD_eq_getD_getElem?] at ht
    cases h : tmps[t]? with
    | none => rw [h] at ht; simp [undef] at ht
    | some v => rw [h] at ht; simpa using ht
  rw [this]

/-- The guard decided. -/
theorem guarded_sound {N : Nat} {ops : Array Oper} {o : Oper} {g : Option (Nat × Bool)} {S : Sym} {a : Act} {yes no : Sym → Prop} (hg : compGuard ops o.guard = some g) (ha : Ag N S a) (h : guarded g S yes no) :
    (Region.wanted o (yielded ops a.tmps) = true ∧ ∃ S', Ag N S' a ∧ yes S') ∨ (Region.wanted o (yielded ops a.tmps) = false ∧ ∃ S', Ag N S' a ∧ no S') := by
  unfold Region.wanted
  cases hog : o.guard with
  | none =>
    rw [hog] at hg
    simp only [compGuard, Option.some.injEq] at hg
    subst hg
    exact .inl ⟨rfl, S, ha, h⟩
  | some jw =>
    obtain ⟨j, want⟩ := jw
    rw [hog] at hg
    simp only [compGuard] at hg
    split at hg
    · rename_i t hj
      simp only [Option.some.injEq] at hg
      subst hg
      simp only [guarded] at h
      split at h
      · rename_i l hs
        have hb := ha.agree t _ hs
        refine .inr ⟨?_, S, ha, h⟩
        have hy : yielded ops a.tmps j = none := by
          unfold yielded
          rw [hj]
          simp only [Option.bind_some]
          rw [Array.getD_eq_getD_getElem?] at hb
          cases ht : a.tmps[t]? with
          | none => rfl
          | some v =>
            rw [ht] at hb
            simp only [Option.getD_some, SV.toV] at hb
            rw [hb]
        show (yielded ops a.tmps j == some want) = false
        rw [hy]
        rfl
      · rename_i s _ hs
        obtain ⟨b, h1, h2⟩ := branch_sound h
        have hb := ha.agree t s hs
        rw [h1] at hb
        have hy := yielded_of hj hb
        have hk := ha.know hb
        simp only [hy]
        cases b <;> cases want <;> simp only at h2
        · exact .inl ⟨rfl, _, hk, h2⟩
        · exact .inr ⟨rfl, _, hk, h2⟩
        · exact .inr ⟨rfl, _, hk, h2⟩
        · exact .inl ⟨rfl, _, hk, h2⟩
      · exact h.elim
    · cases hg

theorem step_sound {P : Program} {h0 : Option Value} {C : CallP} {X : Value → Heap → Prop} [Fits P C X] {N : Nat} {o : Oper} {q : SOp} {S : Sym} {a : Act} {w : World} {K : SV → Heap → Prop} (hc : compS P h0 o.op o.type = some q) (ha : Ag N S a) (h : stepOp P C X q S w.heap K) : ESound P X a o w K := by
  unfold compS at hc
  split at hc
  · rename_i p hp
    simp only [Option.some.injEq] at hc; subst hc
    obtain ⟨s, hk, hr⟩ := pure_sound (P := P) (K := fun s => K s w.heap) hp ha.agree h
    intro next Q hn _
    unfold Oper.wp
    rw [hr w]
    exact hn s w (Sim.refl w) hk
  · split at hc
    · rename_i r hr
      simp only [Option.some.injEq] at hc; subst hc
      obtain ⟨s, φ, hk, hφ, hrun⟩ := read_sound (P := P) (K := fun s _ => K s w.heap) hr ha.agree h
      intro next Q hn _
      unfold Oper.wp
      rw [hrun w hφ]
      exact hn s w (Sim.refl w) hk
    · split at hc
      · rename_i e he
        simp only [Option.some.injEq] at hc; subst hc
        exact eff_sound he ha.agree h
      · cases hc

theorem compOper_spec {P : Program} {N : Nat} {ops : Array Oper} {o : Oper} {i : Nat} {k : List Nat} {s : SOper} (h : compOper P N ops o i k = some s) :
    s.dst = o.dst ∧ compGuard ops o.guard = some s.guard ∧ compS P (hintE P ops o) o.op o.type = some s.op ∧ dstOk N o.dst = true ∧ s.idx = i ∧ s.keep = k := by
  unfold compOper at h
  split at h
  · rename_i g q h1 h2 h3
    simp only [Option.some.injEq] at h
    subst h
    exact ⟨rfl, h1, h2, h3, rfl, rfl⟩
  · cases h

theorem ops_sound {P : Program} {C : CallP} {X : Value → Heap → Prop} [Fits P C X] {N : Nat} {ops : Array Oper} {Q : Exit → Act → World → Prop} : ∀ (l : List Oper) (sl : List SOper), compOps P N ops l = some sl → ∀ (S : Sym) (a : Act) (w : World) (K : Sym → Heap → Prop),
    Ag N S a → WPops P C X sl S w.heap K → (∀ S a' w', Ag N S a' → Sim w w' → Fr (dstsL l) a a' → K S w'.heap → Q .normal a' w') → (∀ p a' w', a'.defers = [] → Sim w w' → X p w'.heap → Q (.panic [{ v := p, recovered := false }]) a' w') → wpList P ops Q l a w
  | [], sl, hc, S, a, w, K, ha, h, hn, _ => by
    simp only [compOps, Option.some.injEq] at hc; subst hc
    exact hn S a w ha (Sim.refl w) (Fr.refl _ a) h
  | o :: r, sl, hc, S, a, w, K, ha, h, hn, hp => by
    simp only [compOps] at hc
    split at hc
    · rename_i s l h1 h2
      simp only [Option.some.injEq] at hc; subst hc
      obtain ⟨e1, e2, e3, e4, _, _⟩ := compOper_spec h1
      simp only [WPops] at h
      simp only [wpList]
      rcases guarded_sound e2 ha h with ⟨hw, S', ha', hy⟩ | ⟨hw, S', ha', hy⟩
      · rw [if_pos hw]
        refine .inl (step_sound e3 ha' hy _ _ ?_ (fun p w' hs hx => hp p a w' ha.defers hs hx))
        intro sv w' hs hk
        rw [e1] at hk
        refine ops_sound r l h2 _ _ w' K (ha'.put e4 sv) hk ?_ (fun p a2 w2 hd hs2 hx => hp p a2 w2 hd (hs.trans hs2) hx)
        intro S2 a2 w2 ha2 hs2 hf2 hk2
        exact hn S2 a2 w2 ha2 (hs.trans hs2) ((Fr.put a o sv.toV).trans hf2) hk2
      · rw [hw, if_neg (by simp)]
        rw [e1] at hy
        refine ops_sound r l h2 _ _ w K (ha'.put e4 (.v undef)) hy ?_ hp
        intro S2 a2 w2 ha2 hs2 hf2 hk2
        exact hn S2 a2 w2 ha2 hs2 ((Fr.put a o undef).trans hf2) hk2
    · cases hc

end Go.Vc

namespace Go.Vc

def ancB (ops : Array Oper) : Nat → Nat → Nat → Bool
  | 0, _, _ => false
  | n + 1, j, i => match ops[j]? with
    | some o => o.after.toList.any fun e => Region.binds .any e && (Nat.beq e.on i || ancB ops n e.on i)
    | none => false

def Closed (ops : Array Oper) (listed : Array Bool) : Prop :=
  ∀ j oj, ops[j]? = some oj → listed.getD j false = true → ∀ e ∈ oj.after, Region.binds .any e = true → listed.getD e.on false = true

theorem anc_listed {ops : Array Oper} {listed : Array Bool} (hc : Closed ops listed) (i : Nat) : ∀ n j, listed.getD j false = true → ancB ops n j i = true → listed.getD i false = true
  | 0, _, _, h => by cases h
  | n + 1, j, hj, h => by
    unfold ancB at h
    split at h
    · rename_i o ho
      obtain ⟨e, he, hb⟩ := List.any_eq_true.1 h
      simp only [Bool.and_eq_true, Bool.or_eq_true] at hb
      have hl := hc j o ho hj e (by simpa using he) hb.1
      rcases hb.2 with h | h
      · rw [← Nat.eq_of_beq_eq_true h]; exact hl
      · exact anc_listed hc i n e.on hl h
    · cases h

theorem Closed.set {ops : Array Oper} {listed : Array Bool} {j : Nat} (hc : Closed ops listed) (hj : j ∈ Region.ready .any ops listed) : Closed ops (listed.setIfInBounds j true) := by
  obtain ⟨hu, oj, hoj, hall⟩ := mem_ready.1 hj
  intro k ok hk hl e he hb
  by_cases hjk : j = k
  · subst hjk
    have : ok = oj := Option.some.inj (hk.symm.trans hoj)
    subst this
    exact getD_set_true (hall e he hb)
  · rw [getD_set_ne false hjk] at hl
    exact getD_set_true (hc k ok hk hl e he hb)

/-- No effect that hangs on 'i' has come up. -/
def Live (ops : Array Oper) (eff : Nat → Bool) (listed : Array Bool) (i : Nat) : Prop :=
  ∀ j, listed.getD j false = true → eff j = true → ∀ n, ancB ops n j i = false

def Good (ops : Array Oper) (eff : Nat → Bool) (F : List (Nat × (Heap → Prop))) (listed : Array Bool) (w : World) : Prop :=
  ∀ x ∈ F, Live ops eff listed x.1 → x.2 w.heap

def wpAnyF (P : Program) (ops : Array Oper) (Q : Exit → Act → World → Prop) (eff : Nat → Bool) (F : List (Nat × (Heap → Prop))) : Nat → Array Bool → Act → World → Prop
  | 0, listed, a, w => Region.ready .any ops listed = [] ∧ Q .normal a w
  | fuel + 1, listed, a, w =>
    (Region.ready .any ops listed = [] → Q .normal a w) ∧
    ∀ i ∈ Region.ready .any ops listed, wpOp P ops Q i (fun a' w' => Good ops eff F (listed.setIfInBounds i true) w' ∧ wpAnyF P ops Q eff F fuel (listed.setIfInBounds i true) a' w') a w

section
variable {P : Program} {ops : Array Oper} {Q : Exit → Act → World → Prop} {eff : Nat → Bool} {F : List (Nat × (Heap → Prop))}

theorem wpAny_of_F : ∀ (fuel : Nat) (listed : Array Bool) (a : Act) (w : World), wpAnyF P ops Q eff F fuel listed a w → wpAny P .any ops Q fuel listed a w
  | 0, _, _, _, h => h
  | fuel + 1, _, _, _, h => ⟨h.1, fun i hi => wpOp_mono (fun a' w' h' => wpAny_of_F fuel _ a' w' h'.2) (h.2 i hi)⟩

theorem wpAnyF_sub {F' : List (Nat × (Heap → Prop))} (hs : ∀ x ∈ F, x ∈ F') : ∀ (fuel : Nat) (listed : Array Bool) (a : Act) (w : World), wpAnyF P ops Q eff F' fuel listed a w → wpAnyF P ops Q eff F fuel listed a w
  | 0, _, _, _, h => h
  | fuel + 1, _, _, _, h => ⟨h.1, fun i hi => wpOp_mono (fun a' w' h' => ⟨fun x hx => h'.1 x (hs x hx), wpAnyF_sub hs fuel _ a' w' h'.2⟩) (h.2 i hi)⟩

theorem getD_unlisted {listed : Array Bool} {i : Nat} (h : listed.getD i true = false) : listed.getD i false = false := by
  rcases Nat.lt_or_ge i listed.size with h' | h'
  · simp [h'] at h ⊢; exact h
  · simp [Array.getElem?_eq_none h'] at h

theorem getD_set_cases {listed : Array Bool} {i j : Nat} (h : (listed.setIfInBounds i true).getD j false = true) : j = i ∨ listed.getD j false = true := by
  by_cases e : i = j
  · exact .inl e.symm
  · rw [getD_set_ne false e] at h; exact .inr h

theorem Live.of_set {listed : Array Bool} {i k : Nat} (h : Live ops eff (listed.setIfInBounds k true) i) : Live ops eff listed i := fun j hj he n => h j (getD_set_true hj) he n

theorem Live.set_float {listed : Array Bool} {i k : Nat} (hk : eff k = false) (h : Live ops eff listed i) : Live ops eff (listed.setIfInBounds k true) i := fun j hj he n => by
  rcases getD_set_cases hj with rfl | h'
  · rw [hk] at he; cases he
  · exact h j h' he n

/-- While 'i' waits to come up, no effect that hangs on it has. -/
theorem live_of_unlisted {listed : Array Bool} {i : Nat} (hc : Closed ops listed) (hu : listed.getD i true = false) : Live ops eff listed i := fun j hj _ n => by
  cases h : ancB ops n j i with
  | false => rfl
  | true =>
    have := anc_listed hc i n j hj h
    rw [getD_unlisted hu] at this
    cases this

theorem put_defers (a : Act) (d : Option Tmp) (v : Value) : (a.put d v).defers = a.defers := by unfold Act.put; split <;> rfl

theorem wpAnyF_take {i : Nat} {oi : Oper} {v : Value} {φ : Heap → Prop} (hi : ops[i]? = some oi) (hsel : ∀ (j : Nat) (o : Oper) cs b, ops[j]? = some o → o.op ≠ .select cs b)
    (hQ : ∀ c a a' w, a'.defers = a.defers → Q (.panic c) a w → Q (.panic c) a' w) (hei : eff i = false) :
    ∀ (fuel : Nat) (listed : Array Bool) (a : Act) (w : World), Closed ops listed →
      (∀ j oj, ops[j]? = some oj → j ≠ i → listed.getD j true = false → (∀ e ∈ oj.after, Region.binds .any e = true → e.on ≠ i) → oi.apart ops oj = true) →
      i ∈ Region.ready .any ops listed → YieldsIf P ops (fun w => φ w.heap) oi v a → φ w.heap → Good ops eff F listed w →
      wpAnyF P ops Q eff ((i, φ) :: F) fuel (listed.setIfInBounds i true) (a.put oi.dst v) w → wpAnyF P ops Q eff F (fuel + 1) listed a w := by
  intro fuel
  induction fuel with
  | zero =>
    intro listed a w _ _ hr hy hS hG H
    refine ⟨fun h => (by rw [h] at hr; cases hr), fun j hj => ?_⟩
    by_cases hji : j = i
    · subst hji
      exact hy.wpOp hi hS ⟨fun x hx hl => hG x hx hl.of_set, H.1, H.2⟩
    · have := ready_mono hj hji
      rw [H.1] at this
      cases this
  | succ fuel ih =>
    intro listed a w hc hfree hr hy hS hG H
    refine ⟨fun h => (by rw [h] at hr; cases hr), fun j hj => ?_⟩
    by_cases hji : j = i
    · subst hji
      exact hy.wpOp hi hS ⟨fun x hx hl => hG x hx hl.of_set, wpAnyF_sub (fun x hx => List.mem_cons_of_mem _ hx) _ _ _ _ H⟩
    · have h1 := H.2 j (ready_mono hj hji)
      obtain ⟨hjun, oj, hoj, hall⟩ := mem_ready.1 hj
      have hiun := (mem_ready.1 hr).1
      have hnot : ∀ e ∈ oj.after, Region.binds .any e = true → e.on ≠ i := fun e he hb heq => by
        have h1 := hall e he hb
        rw [heq, getD_unlisted hiun] at h1
        cases h1
      have h2 := wpOp_putIf hoj (hfree j oj hoj hji hjun hnot) (fun cs b => hsel i oi cs b hi) (fun cs b => hsel j oj cs b hoj) (fun c a w => hQ c _ _ w (put_defers _ _ _).symm) hy h1
      have hfree' : ∀ k ok, ops[k]? = some ok → k ≠ i → (listed.setIfInBounds j true).getD k true = false →
          (∀ e ∈ ok.after, Region.binds .any e = true → e.on ≠ i) → oi.apart ops ok = true := fun k ok hk hki hun hno => by
        refine hfree k ok hk hki ?_ hno
        by_cases hjk : j = k
        · subst hjk; exact hjun
        · rw [getD_set_ne true hjk] at hun; exact hun
      have hc' := hc.set hj
      have hr' := ready_mono hr (Ne.symm hji)
      have hiun' := (mem_ready.1 hr').1
      refine wpOp_mono (fun a' w' h3 => ?_) h2
      obtain ⟨hy', hg', hw'⟩ := h3
      have hφ : φ w'.heap := hg' _ List.mem_cons_self (by
        rw [Array.setIfInBounds_comm _ _ (Ne.symm hji)]
        exact (live_of_unlisted hc' hiun').set_float hei)
      have hG' : Good ops eff F (listed.setIfInBounds j true) w' := fun x hx hl => hg' x (List.mem_cons_of_mem _ hx) (by
        rw [Array.setIfInBounds_comm _ _ (Ne.symm hji)]
        exact hl.set_float hei)
      refine ⟨hG', ih _ a' w' hc' hfree' hr' hy' hφ hG' ?_⟩
      rw [Array.setIfInBounds_comm _ _ hji]
      exact hw'
end
end Go.Vc

