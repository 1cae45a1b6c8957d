/-
  A layer of verification conditions, proved over the model: what is to be shown of a function, reckoned from its code. No condition.
-/
import Derived.Orders
import Derived.KernelRfl
import Derived.Laws.Entries
import Derived.Laws.AppendOwn
import Derived.Laws.IdiomCopy
import Derived.Laws.Strings
import Derived.Laws.StructEq
import Derived.Laws.BytesString
import Derived.Tactics
import Derived.OrdersHeld
import Derived.Below
import Derived.ChangeShapes
import Derived.WideShapes
import Derived.ChangeSlices
import Derived.DataReads
import Derived.Laws.Cover2

namespace Go.Vc

abbrev Heap := Array Obj

/-- A cell of a heap. -/
def hcell (H : Heap) (b o : Nat) : Option Value :=
  match H[b]? with
  | some (.cells c _ _) => c[o]?
  | _ => none

def hfrozen (H : Heap) (b o : Nat) : Bool :=
  match H[b]? with
  | some (.cells _ _ (lo, hi)) => lo ≤ o && o < hi
  | _ => false

def hset (H : Heap) (b o : Nat) (v : Value) : Heap :=
  H.modify b fun
    | .cells c e f => .cells (c.setIfInBounds o v) e f
    | x => x

def hsets (H : Heap) (b o : Nat) : List Value → Heap
  | [] => H
  | v :: r => hsets (hset H b o v) b (o + 1) r

/-- A cell that is there and may be written. -/
def Cell (H : Heap) (b o : Nat) : Prop := (∃ v, hcell H b o = some v) ∧ hfrozen H b o = false

def Cells (H : Heap) (b o : Nat) : Nat → Prop
  | 0 => True
  | n + 1 => Cell H b o ∧ Cells H b (o + 1) n

def Puts (H : Heap) (b o : Nat) (vs : List Value) (H' : Heap) : Prop := H' = hsets H b o vs

/-- A new block. -/
def New (H : Heap) (b : Nat) (vs : List Value) (e : TypeId) (H' : Heap) : Prop := b = H.size ∧ H' = H.push (.cells vs.toArray e)

/-- The cells that a slice or string shows, as a list ('n' elements of 'size' cells). -/
def SRow (H : Heap) (size n : Nat) (v : Value) (xs : List Value) : Prop :=
  xs.length = n * size ∧
  match v with
  | .slice (some a) _ _ => (xs = [] ∨ a.spot = none) ∧ ∀ j u, xs[j]? = some u → hcell H a.block (a.off + j) = some u
  | .slice none _ _ => xs = []
  | .string s => xs = s.data.toList.map fun b => .int .u8 b.toNat
  | _ => False

def vlen : Value → Nat
  | .slice _ n _ => n
  | .string s => s.size
  | _ => 0

/-- What 'append' leaves. -/
def App (H : Heap) (size : Nat) (e : TypeId) (z : List Value) (a : Option Addr) (len cap : Nat) (old news : List Value) (n : Nat) (a' : Option Addr) (cap' : Nat) (H' : Heap) : Prop :=
  (len + n ≤ cap ∧ a' = a ∧ cap' = cap ∧ match a with | some ad => H' = hsets H ad.block (ad.off + len * size) news | none => H' = H) ∨
  (cap < len + n ∧ a' = some ⟨H.size, 0, none⟩ ∧ len + n ≤ cap' ∧ cap' ≤ maxLen ∧ H' = H.push (.cells (old ++ news ++ (List.replicate (cap' - (len + n)) z).flatten).toArray e))

def In64 (z : Int) : Prop := -9223372036854775808 ≤ z ∧ z ≤ 9223372036854775807

/-- Where an operand comes from. -/
inductive Src where
  | t (n : Nat)
  | c (v : Value)

/-- A value, or a Bool that is known, or one that says whether something holds. -/
inductive SV where
  | v (x : Value)
  | b (x : Bool)
  | p (φ : Prop)

noncomputable def SV.toV : SV → Value
  | .v x => x
  | .b x => .bool x
  | .p φ => .bool (@decide φ (Classical.propDecidable φ))

def SV.prop : SV → Option Prop
  | .b true => some True
  | .b false => some False
  | .p φ => some φ
  | .v (.bool x) => some (x = true)
  | .v _ => none

def branch (s : SV) (K : Bool → Prop) : Prop :=
  match s with
  | .b x => K x
  | .p φ => (φ → K true) ∧ (¬ φ → K false)
  | .v (.bool x) => (x = true → K true) ∧ (x = false → K false)
  | .v _ => False

abbrev Sym := List (Nat × SV)

def Sym.get : Sym → Nat → Option SV
  | [], _ => none
  | (i, s) :: r, t => match Nat.beq i t with | true => some s | false => Sym.get r t

def Sym.put (S : Sym) (d : Option Nat) (s : SV) : Sym :=
  match d with
  | some d => (d, s) :: S
  | none => S

def ev (S : Sym) : Src → Option SV
  | .t n => S.get n
  | .c (.bool x) => some (.b x)
  | .c x => some (.v x)

def withS (S : Sym) (x : Src) (K : SV → Prop) : Prop :=
  match ev S x with
  | some s => K s
  | none => False

def withV (S : Sym) (x : Src) (K : Value → Prop) : Prop :=
  match ev S x with
  | some s => K s.toV
  | none => False

def withI (S : Sym) (x : Src) (K : IntKind → Int → Prop) : Prop :=
  match ev S x with
  | some (.v (.int k n)) => K k n
  | _ => False

def withB (S : Sym) (x : Src) (K : Prop → Prop) : Prop :=
  match ev S x with
  | some s => match s.prop with | some φ => K φ | none => False
  | none => False

def withVs (S : Sym) : List Src → (List Value → Prop) → Prop
  | [], K => K []
  | x :: r, K => withV S x fun v => withVs S r fun vs => K (v :: vs)

/-! ### Operations without a heap -/

inductive POp where
  | mov (x : Src)
  | pick (c a b : Src)
  | bin (op : BinOp) (x y : Src)
  | beq (neg : Bool) (x y : Src)
  | peq (neg : Bool) (x y : Src)
  | leq (neg : Bool) (x y : Src)
  | not (x : Src)
  | neg (x : Src)
  | nilchk (x : Src)
  | faddr (x : Src) (off : Nat)
  | iaddr (size : Nat) (x i : Src)
  | aaddr (len size : Nat) (x i : Src)
  | fld (off : Nat) (agg : Option Nat) (x : Src)
  | idxs (x i : Src)
  | ext (i : Nat) (x : Src)
  | conv (k : IntKind) (x : Src)
  | lens (x : Src)
  | lent (x : Src)
  | mx (x y : Src)
  | mn (x y : Src)
  | slc (size : Nat) (x : Src) (lo hi mx : Option Src)
  | slct (x : Src) (lo hi : Option Src)
  | build (z : List Value) (parts : List (Nat × Nat × Src))
  | mkfn (fn : Fn) (first cap : List Src)
  | mkif (t : TypeId) (x : Src)
  | aeq (neg : Bool) (offs : List (Nat × Nat)) (x y : Src)
  | fbin (op : BinOp) (x y : Src)
  | fmn (x y : Src)
  | i2f (x : Src)
  | f2i (x : Src)
  | f2f (x : Src)
  | bnot (x : Src)
  | idxi (len : Nat) (x i : Src)
  | fbits (x : Src)
  | ffrom (x : Src)
  | floor (x : Src)

/-! Numbers of the kind float64, by their words. -/
def FEq (a b : Nat) : Prop := Ieee.double.order a b = some .eq
def FLt (a b : Nat) : Prop := Ieee.double.order a b = some .lt
def FGt (a b : Nat) : Prop := Ieee.double.order a b = some .gt
def FNan (a : Nat) : Prop := (Ieee.double.read a).isNaN = true
def fMin (a b : Nat) : Nat := if Ieee.double.order a b = some .lt then a else if Ieee.double.order a b = some .gt then b else if (Ieee.double.read a).neg then a else b

def binF (op : BinOp) (a b : Nat) (K : SV → Prop) : Prop :=
  match op with
  | .eql => K (.p (FEq a b))
  | .neq => K (.p (¬ FEq a b))
  | .lss => K (.p (FLt a b))
  | .leq => K (.p (FLt a b ∨ FEq a b))
  | .gtr => K (.p (FGt a b))
  | .geq => K (.p (FGt a b ∨ FEq a b))
  | .add => ∃ r, Ieee.double.add a b = some r ∧ K (.v (.float .f64 r))
  | .sub => ∃ r, Ieee.double.sub a b = some r ∧ K (.v (.float .f64 r))
  | .mul => ∃ r, Ieee.double.mul a b = some r ∧ K (.v (.float .f64 r))
  | .quo => ∃ r, Ieee.double.div a b = some r ∧ K (.v (.float .f64 r))
  | _ => False

/-- All of these are whole numbers of the kind int. -/
def intsL : List Value → Option (List Int)
  | [] => some []
  | v :: r => match v with
    | .int .i64 n => match intsL r with
      | some l => some (n :: l)
      | none => none
    | _ => none

def withF (S : Sym) (x : Src) (K : Nat → Prop) : Prop :=
  match ev S x with
  | some (.v (.float .f64 b)) => K b
  | _ => False

def arith (k : IntKind) (z : Int) (K : SV → Prop) : Prop :=
  match k with
  | .i64 => In64 z ∧ K (.v (.int .i64 z))
  | k => ∀ q, q = k.wrap z → K (.v (.int k q))

def binI (op : BinOp) (k k' : IntKind) (a b : Int) (K : SV → Prop) : Prop :=
  match op with
  | .shl => 0 ≤ b ∧ ∀ q, q = k.wrap (a * 2 ^ (min b.toNat k.bits)) → K (.v (.int k q))
  | .shr => 0 ≤ b ∧ ∀ q, q = a.fdiv (2 ^ (min b.toNat k.bits)) → K (.v (.int k q))
  | op => match decide (k = k') with
    | false => False
    | true => match op with
      | .add => arith k (a + b) K
      | .sub => arith k (a - b) K
      | .mul => arith k (a * b) K
      | .quo => b ≠ 0 ∧ ∀ q, q = k.wrap (a.tdiv b) → K (.v (.int k q))
      | .rem => b ≠ 0 ∧ ∀ q, q = a.tmod b → K (.v (.int k q))
      | .and => ∀ q, q = bits .and k a b → K (.v (.int k q))
      | .or => ∀ q, q = bits .or k a b → K (.v (.int k q))
      | .xor => ∀ q, q = bits .xor k a b → K (.v (.int k q))
      | .andNot => ∀ q, q = bits .andNot k a b → K (.v (.int k q))
      | .eql => K (.p (a = b))
      | .neq => K (.p (a ≠ b))
      | .lss => K (.p (a < b))
      | .leq => K (.p (a ≤ b))
      | .gtr => K (.p (b < a))
      | .geq => K (.p (b ≤ a))
      | _ => False

def binT (op : BinOp) (a b : ByteArray) (K : SV → Prop) : Prop :=
  match op with
  | .add => In64 ((a.size + b.size : Nat) : Int) ∧ K (.v (.string (a ++ b)))
  | .eql => K (.p (a = b))
  | .neq => K (.p (a ≠ b))
  | .lss => K (.p (Op.bytesLess a.toList b.toList = true))
  | .leq => K (.p (Op.bytesLess a.toList b.toList = true ∨ a = b))
  | .gtr => K (.p (¬ (Op.bytesLess a.toList b.toList = true ∨ a = b)))
  | .geq => K (.p (¬ Op.bytesLess a.toList b.toList = true))
  | _ => False

def oneIf (neg : Bool) (φ : Prop) : Prop := match neg with | true => ¬ φ | false => φ

def placed (cells : List Value) (off : Nat) : List Value → List Value
  | [] => cells
  | v :: r => placed (cells.set off v) (off + 1) r

def filled (S : Sym) (K : List Value → Prop) : List (Nat × Nat × Src) → List Value → Prop
  | [], cells => K cells
  | (off, size, x) :: r, cells => withV S x fun v => match Nat.beq v.cells.toList.length size && Nat.ble (off + size) cells.length with
    | true => filled S K r (placed cells off v.cells.toList)
    | false => False

def withO (S : Sym) (x : Option Src) (K : Option (IntKind × Int) → Prop) : Prop :=
  match x with
  | none => K none
  | some x => withI S x fun k n => K (some (k, n))

def eqI (x y : Option Value) (K : Prop → Prop) : Prop :=
  match x, y with
  | some (.int k a), some (.int k' b) => match decide (k = k') with | true => K (a = b) | false => False
  | _, _ => False

def eqB (x y : Option Value) (K : Prop → Prop) : Prop :=
  match x, y with
  | some (.bool a), some (.bool b) => K (a = b)
  | _, _ => False

def eqT (x y : Option Value) (K : Prop → Prop) : Prop :=
  match x, y with
  | some (.string a), some (.string b) => K (a = b)
  | _, _ => False

/-- Two parts are the same (tag 0: numbers, 1: Bools, 2: strings). -/
def eq1 (tag : Nat) (x y : Option Value) (K : Prop → Prop) : Prop :=
  match tag with
  | 0 => eqI x y K
  | 1 => eqB x y K
  | 2 => eqT x y K
  | _ => False

def eqL (xs ys : List Value) : List (Nat × Nat) → (Prop → Prop) → Prop
  | [], K => K True
  | (o, g) :: r, K => eq1 g xs[o]? ys[o]? fun φ => match r with
    | [] => K φ
    | _ => eqL xs ys r fun ψ => K (φ ∧ ψ)

/-- The word that all sums of a walk are told with their wrap. -/
def wideKey : Nat := 4294967295

def binW (op : BinOp) (k k' : IntKind) (a b : Int) (K : SV → Prop) : Prop :=
  match op with
  | .add => match decide (k = k') with
    | true => ∀ q, q = k.wrap (a + b) → K (.v (.int k q))
    | false => False
  | .sub => match decide (k = k') with
    | true => ∀ q, q = k.wrap (a - b) → K (.v (.int k q))
    | false => False
  | .mul => match decide (k = k') with
    | true => ∀ q, q = k.wrap (a * b) → K (.v (.int k q))
    | false => False
  | op => binI op k k' a b K

def psem (p : POp) (S : Sym) (K : SV → Prop) : Prop :=
  match p with
  | .mov x => withS S x K
  | .pick c a b => withS S c fun s => branch s fun x => match x with | true => withS S a K | false => withS S b K
  | .bin op x y => match ev S x, ev S y with
    | some (.v (.int k a)), some (.v (.int k' b)) => match S.get wideKey with
      | some _ => binW op k k' a b K
      | none => binI op k k' a b K
    | some (.v (.string a)), some (.v (.string b)) => binT op a b K
    | _, _ => False
  | .beq n x y => withB S x fun φ => withB S y fun ψ => K (.p (oneIf n (φ ↔ ψ)))
  | .peq n x y => match ev S x, ev S y with
    | some (.v (.pointer a)), some (.v (.pointer none)) => K (.p (oneIf n (a = none)))
    | some (.v (.pointer none)), some (.v (.pointer a)) => K (.p (oneIf n (a = none)))
    | _, _ => False
  | .leq n x y => match ev S x, ev S y with
    | some (.v (.slice a _ _)), some (.v (.slice none _ _)) => K (.p (oneIf n (a = none)))
    | _, _ => False
  | .not x => match ev S x with
    | some (.b x) => K (.b (!x))
    | some (.p φ) => K (.p (¬ φ))
    | some (.v (.bool x)) => K (.p (x = false))
    | _ => False
  | .neg x => withI S x fun k n => arith k (0 - n) K
  | .nilchk x => match ev S x with
    | some (.v (.pointer a)) => ∃ b o, a = some ⟨b, o, none⟩ ∧ K (.v (.pointer (some ⟨b, o, none⟩)))
    | some (.v (.func (.func f) x y)) => K (.v (.func (.func f) x y))
    | _ => False
  | .faddr x off => match ev S x with
    | some (.v (.pointer (some ⟨b, o, none⟩))) => K (.v (.pointer (some ⟨b, (match off with | 0 => o | n + 1 => o + (n + 1)), none⟩)))
    | _ => False
  | .iaddr size x i => match ev S x with
    | some (.v (.slice a len _)) => withI S i fun _ n => 0 ≤ n ∧ n < len ∧ ∃ b o, a = some ⟨b, o, none⟩ ∧ K (.v (.pointer (some ⟨b, (match size with | 1 => o + n.toNat | s => o + n.toNat * s), none⟩)))
    | _ => False
  | .aaddr len size x i => match ev S x with
    | some (.v (.pointer (some ⟨b, o, none⟩))) => withI S i fun _ n => 0 ≤ n ∧ n < len ∧ K (.v (.pointer (some ⟨b, (match size with | 1 => o + n.toNat | s => o + n.toNat * s), none⟩)))
    | _ => False
  | .fld off agg x => match ev S x with
    | some (.v (.agg cs)) => match agg with
      | some n => K (.v (.agg ((cs.toList.drop off).take n).toArray))
      | none => match cs.toList[off]? with
        | some v => K (.v v)
        | none => False
    | _ => False
  | .idxs x i => match ev S x with
    | some (.v (.string s)) => withI S i fun _ n => 0 ≤ n ∧ n < s.size ∧ ∀ q, q = ((s.data.toList.getD n.toNat 0).toNat : Int) → K (.v (.int .u8 q))
    | _ => False
  | .ext i x => match ev S x with
    | some (.v (.tuple vs)) => match vs.toList[i]? with
      | some v => K (.v v)
      | none => False
    | _ => False
  | .conv k x => withI S x fun k0 n => match k with
    | .i64 => match k0 with
      | .u64 => ∀ q, q = IntKind.i64.wrap n → K (.v (.int .i64 q))
      | _ => In64 n ∧ K (.v (.int .i64 n))
    | k => ∀ q, q = k.wrap n → K (.v (.int k q))
  | .lens x => match ev S x with
    | some (.v (.slice _ n _)) => K (.v (.int .i64 n))
    | _ => False
  | .lent x => match ev S x with
    | some (.v (.string s)) => K (.v (.int .i64 s.size))
    | _ => False
  | .mx x y => withI S x fun k a => withI S y fun _ b => K (.v (.int k (max a b)))
  | .mn x y => withI S x fun k a => withI S y fun _ b => K (.v (.int k (min a b)))
  | .slc size x lo hi m => match ev S x with
    | some (.v (.slice a len cap)) => withO S m fun m => withO S hi fun hi => withO S lo fun lo =>
      match m, hi, lo with
      | none, none, none => K (.v (.slice a len cap))
      | none, some (_, h), none => 0 ≤ h ∧ h ≤ cap ∧ K (.v (.slice a h.toNat cap))
      | none, none, some (_, l) => 0 ≤ l ∧ l ≤ len ∧ ∀ a', a' = (if cap = l.toNat then a else a.map (·.add (l.toNat * size))) → K (.v (.slice a' (len - l.toNat) (cap - l.toNat)))
      | none, some (_, h), some (_, l) => 0 ≤ l ∧ l ≤ h ∧ h ≤ cap ∧ ∀ a', a' = (if cap = l.toNat then a else a.map (·.add (l.toNat * size))) → K (.v (.slice a' (h.toNat - l.toNat) (cap - l.toNat)))
      | some (_, m), some (_, h), none => 0 ≤ h ∧ h ≤ m ∧ m ≤ cap ∧ K (.v (.slice a h.toNat m.toNat))
      | _, _, _ => False
    | _ => False
  | .slct x lo hi => match ev S x with
    | some (.v (.string s)) => withO S hi fun hi => withO S lo fun lo =>
      match hi, lo with
      | some (_, h), none => 0 ≤ h ∧ h ≤ s.size ∧ K (.v (.string (s.extract 0 h.toNat)))
      | none, some (_, l) => 0 ≤ l ∧ l ≤ s.size ∧ K (.v (.string (s.extract l.toNat s.size)))
      | some (_, h), some (_, l) => 0 ≤ l ∧ l ≤ h ∧ h ≤ s.size ∧ K (.v (.string (s.extract l.toNat h.toNat)))
      | none, none => False
    | _ => False
  | .build z parts => filled S (fun cells => K (.v (.agg cells.toArray))) parts z
  | .mkfn fn first cap => withVs S first fun a => withVs S cap fun c => K (.v (.func fn a.toArray c.toArray))
  | .mkif t x => withV S x fun v => K (.v (.iface t v))
  | .aeq n offs x y => match ev S x, ev S y with
    | some (.v (.agg xs)), some (.v (.agg ys)) => eqL xs.toList ys.toList offs fun φ => K (.p (oneIf n φ))
    | _, _ => False
  | .fbin op x y => withF S x fun a => withF S y fun b => binF op a b K
  | .fmn x y => withF S x fun a => withF S y fun b => ¬ FNan a ∧ ¬ FNan b ∧ ∀ r, r = fMin a b → K (.v (.float .f64 r))
  | .i2f x => withI S x fun _ n => ∀ r, r = FloatKind.f64.nearest n → K (.v (.float .f64 r))
  | .f2i x => withF S x fun a => ∃ n, (Ieee.double.read a).toInt .zero = some n ∧ In64 n ∧ K (.v (.int .i64 n))
  | .bnot x => withI S x fun k n => ∀ q, q = bits .xor k (match k.signed with | true => -1 | false => k.max) n → K (.v (.int k q))
  | .idxi len x i => match ev S x with
    | some (.v (.agg cs)) => match intsL cs.toList with
      | some l => withI S i fun _ n => 0 ≤ n ∧ n < len ∧ n < (l.length : Nat) ∧ ∀ q, q = l.getD n.toNat 0 → K (.v (.int .i64 q))
      | none => False
    | _ => False
  | .f2f x => withF S x fun a => K (.v (.float .f64 a))
  | .fbits x => withF S x fun a => K (.v (.int .u64 a))
  | .ffrom x => withI S x fun k n => match k with
    | .u64 => K (.v (.float .f64 n.toNat))
    | _ => False
  | .floor x => withF S x fun a => ¬ FNan a ∧ ∀ r, r = FloatKind.f64.encode ((Ieee.double.read a).integral .down) → K (.v (.float .f64 r))

/-! ### Operations that read the heap -/

inductive ROp where
  | load (z : List Value) (agg : Bool) (x : Src)
  | b2s (x : Src)

/-- A scalar of the shape of 'z'. -/
def ex1 (z : Value) (K : Value → Prop) : Prop :=
  match z with
  | .int k _ => ∃ n, K (.int k n)
  | .bool _ => ∃ n, K (.bool n)
  | .string _ => ∃ s, K (.string s)
  | .float k _ => ∃ n, K (.float k n)
  | .pointer _ => ∃ a, K (.pointer a)
  | .slice _ _ _ => ∃ a n m, K (.slice a n m)
  | .map _ => ∃ r, K (.map r)
  | _ => ∃ v, K v

/-- Cells from (b, o) on, of the shapes z. 'F': what the heap must go on to say, if another heap is to give the same. -/
def exL (H : Heap) (b : Nat) : List Value → Nat → (List Value → Prop) → Prop
  | [], _, K => K []
  | z :: r, o, K => ex1 z fun v => hcell H b o = some v ∧ exL H b r (o + 1) fun vs => K (v :: vs)

/-- The cells from (b, o) on are just these. -/
def isL (H : Heap) (b : Nat) : Nat → List Value → Prop
  | _, [] => True
  | o, v :: r => hcell H b o = some v ∧ match r with | [] => True | _ => isL H b (o + 1) r

def rsem (r : ROp) (S : Sym) (H : Heap) (K : SV → (Heap → Prop) → Prop) : Prop :=
  match r with
  | .load z agg x => match ev S x with
    | some (.v (.pointer (some ⟨b, o, none⟩))) => exL H b z o fun vs => match agg, vs with
      | true, vs => K (.v (.agg vs.toArray)) fun H' => isL H' b o vs
      | false, [v] => K (.v v) fun H' => isL H' b o [v]
      | false, _ => False
    | _ => False
  | .b2s x => match ev S x with
    | some (.v (.slice a n m)) => ∃ l : List UInt8, SRow H 1 n (.slice a n m) (l.map fun b => .int .u8 b.toNat) ∧ K (.v (.string ⟨l.toArray⟩)) fun H' => SRow H' 1 n (.slice a n m) (l.map fun b => .int .u8 b.toNat)
    | _ => False

/-! ### Operations that turn the heap -/

inductive EOp where
  | store (n : Nat) (x v : Src)
  | box (e : TypeId) (x : Src)
  | alloc (e : TypeId) (z : List Value)
  | bslice (e : TypeId) (size len : Nat) (z : List Value) (parts : List (Nat × Nat × Src))
  | mkslice (e : TypeId) (size bytes : Nat) (z : List Value) (l c : Src)
  | app (e : TypeId) (size bytes : Nat) (z : List Value) (s x : Src)
  | s2b (e : TypeId) (x : Src)
  | copy (size : Nat) (d x : Src)
  | call (f : FuncId) (args : List Src) (z : Value)
  | callv (f : Src) (args : List Src) (z : Value)

structure Sim (w w' : World) : Prop where
  os : w'.os = w.os
  tape : w'.tape = w.tape
  output : w'.output = w.output

/-- THE CONTRACT OF A FUNCTION: from every world with this heap it returns, and R holds of what it returns and of the heap then. -/
def Does (P : Program) (f : FuncId) (args : List Value) (H : Heap) (R : Value → Heap → Prop) : Prop :=
  ∀ w : World, w.heap = H → Calls P f args.toArray w fun e w' => ∃ v, e = .returned v ∧ Sim w w' ∧ R v w'.heap

/-- Scalars of the shapes of 'z'. -/
def exVs : List Value → (List Value → Prop) → Prop
  | [], K => K []
  | z :: r, K => ex1 z fun v => exVs r fun vs => K (v :: vs)

/-- Values of the shapes of 'z'. -/
def exTs : List Value → (List Value → Prop) → Prop
  | [], K => K []
  | z :: r, K => match z with
    | .agg cs => exVs cs.toList fun us => exTs r fun vs => K (.agg us.toArray :: vs)
    | z => ex1 z fun v => exTs r fun vs => K (v :: vs)

/-- A result of the shape of 'z'. -/
def exR (z : Value) (v : Value) (K : Value → Prop) : Prop :=
  match z with
  | .tuple zs => exTs zs.toList fun vs => v = .tuple vs.toArray ∧ K (.tuple vs.toArray)
  | .agg zs => exVs zs.toList fun vs => v = .agg vs.toArray ∧ K (.agg vs.toArray)
  | z => ex1 z fun u => v = u ∧ K u

/-- The cells of so many zero elements. -/
def mkCells (size : Nat) (z : List Value) (c : Nat) : List Value :=
  match size with
  | 1 => List.replicate c (z.headD undef)
  | _ => (List.replicate c z).flatten

/-- 'v' fits one cell. -/
def oneP (v : Value) (K : Prop) : Prop :=
  match v with
  | .agg _ => False
  | .tuple _ => False
  | _ => K

def onesP : List Value → Prop → Prop
  | [], K => K
  | v :: r, K => oneP v (onesP r K)

/-- The cells behind a slice's length may be written. -/
def roomOf (H : Heap) (a : Option Addr) (off n : Nat) : Prop :=
  match a with
  | some ad => ad.spot = none ∧ Cells H ad.block (ad.off + off) n
  | none => True

/-- What 'copy' leaves. -/
def Copied (H : Heap) (a : Option Addr) (news : List Value) (H' : Heap) : Prop :=
  match a with
  | some ad => H' = hsets H ad.block ad.off news
  | none => H' = H

def esem (P : Program) (e : EOp) (S : Sym) (H : Heap) (K : SV → Heap → Prop) : Prop :=
  match e with
  | .store n x v => match ev S x with
    | some (.v (.pointer (some ⟨b, o, none⟩))) => withV S v fun v => match Nat.beq v.cells.toList.length n with
      | true => onesP v.cells.toList (Cells H b o n ∧ ∀ H', Puts H b o v.cells.toList H' → K (.v undef) H')
      | false => False
    | _ => False
  | .box e x => withV S x fun v => ∀ b H', New H b v.cells.toList e H' → K (.v (.pointer (some ⟨b, 0, none⟩))) H'
  | .alloc e z => ∀ b H', New H b z e H' → K (.v (.pointer (some ⟨b, 0, none⟩))) H'
  | .bslice e size len z parts => filled S (fun cells => ∀ b H', New H b cells e H' → K (.v (.slice (some ⟨b, 0, none⟩) len len)) H') parts (mkCells size z len)
  | .mkslice e size bytes z l c => withI S l fun _ l => withI S c fun _ c => 0 ≤ l ∧ l ≤ c ∧ bytes * c ≤ 281474976710656 ∧
      ∀ b H', New H b (mkCells size z c.toNat) e H' → K (.v (.slice (some ⟨b, 0, none⟩) l.toNat c.toNat)) H'
  | .app e size bytes z s x => match ev S s with
    | some (.v (.slice a len cap)) => withV S x fun x => ∃ old news, SRow H size len (.slice a len cap) old ∧ SRow H size (vlen x) x news ∧ (∀ u ∈ news, u.oneCell' = true) ∧ (len + vlen x) * bytes ≤ 140737488355328 ∧
        (len + vlen x ≤ cap → roomOf H a (len * size) (vlen x * size)) ∧
        ∀ a' cap' H', App H size e z a len cap old news (vlen x) a' cap' H' → K (.v (.slice a' (len + vlen x) cap')) H'
    | _ => False
  | .s2b _ _ => False
  | .copy size d x => match ev S d, ev S x with
    | some (.v (.slice a len _)), some (.v (.slice p l c)) => ∃ news, SRow H size (min l len) (.slice p l c) news ∧ (∀ u ∈ news, u.oneCell' = true) ∧ roomOf H a 0 (min l len * size) ∧
        ∀ H', Copied H a news H' → K (.v (.int .i64 (min l len : Nat))) H'
    | _, _ => False
  | .call f args z => withVs S args fun args => Does P f args H fun v H' => exR z v fun v => K (.v v) H'
  | .callv x args z => match ev S x with
    | some (.v (.func (.func f) first cap)) => match P.funcs[f]? with
      | some fn => match fn.body.isSome && !(fn.name == "runtime.NumGoroutine") with
        | true => withVs S args fun args => Does P f (first.toList ++ args ++ cap.toList) H fun v H' => exR z v fun v => K (.v v) H'
        | false => False
      | none => False
    | _ => False

end Go.Vc

namespace Go.Vc

def src : Operand → Src
  | .tmp t => .t t
  | .const v => .c v
  | .global g => .c (.pointer (some ⟨g, 0, none⟩))
  | .func f => .c (.func (.func f) #[] #[])

def isAggT (P : Program) (t : TypeId) : Bool :=
  match P.underlying t with
  | some (.struct _) | some (.array _ _) => true
  | _ => false

def zeroOf (P : Program) (t : TypeId) : Option Value := (P.info? t).bind (·.zero)

def scalarT (P : Program) (t : TypeId) : Bool := (P.underlying t).isSome && !isAggT P t

def compParts (P : Program) (fs : Array Field) (parts : List (Nat × Operand)) : Option (List (Nat × Nat × Src)) :=
  match parts with
  | [] => some []
  | (i, x) :: r => match fs[i]? with
    | some f => match P.info? f.type with
      | some _ => (compParts P fs r).map ((f.offset, P.cellsOf f.type, src x) :: ·)
      | none => none
    | none => none

def compParts' (size : Nat) (parts : List (Nat × Operand)) : List (Nat × Nat × Src) := parts.map fun (i, x) => (i * size, size, src x)

/-- All fields' types are there. -/
def allInfo (P : Program) (fs : Array Field) : Bool := fs.toList.all fun f => (P.info? f.type).isSome

def tagOf (P : Program) (t : TypeId) : Nat :=
  match P.underlying t with
  | some (.int _) => 0
  | some .bool => 1
  | some .string => 2
  | _ => 3

def fieldTag (P : Program) (f : Field) : Nat × Nat := (f.offset, tagOf P f.type)

/-- Fields that can be compared one by one. -/
def plainFields (fs : List Field) : Bool := fs.all fun f => !(f.name == "_")

/-- Functions of floats without a body. -/
def compX (P : Program) (f : FuncId) (as : List Operand) : Option POp :=
  match P.funcs[f]? with
  | some fn => match fn.body with
    | some _ => none
    | none => match as, fn.origin == "" with
      | [x], true => match fn.name == "math.Float64bits" with
        | true => some (.fbits (src x))
        | false => match fn.name == "math.Float64frombits" with
          | true => some (.ffrom (src x))
          | false => match fn.name == "math.archFloor" with
            | true => some (.floor (src x))
            | false => none
      | _, _ => none
  | none => none

def compP (P : Program) (o : Op) : Option POp :=
  match o with
  | .move x | .assign x => some (.mov (src x))
  | .pick c a b => some (.pick (src c) (src a) (src b))
  | .binOp op t x y _ => match P.underlying t with
    | some (.int _) | some .string => some (.bin op (src x) (src y))
    | some (.float .f64) => some (.fbin op (src x) (src y))
    | some .bool => match op with
      | .eql => some (.beq false (src x) (src y))
      | .neq => some (.beq true (src x) (src y))
      | _ => none
    | some (.pointer _) => match op with
      | .eql => some (.peq false (src x) (src y))
      | .neq => some (.peq true (src x) (src y))
      | _ => none
    | some (.slice _) => match op with
      | .eql => some (.leq false (src x) (src y))
      | .neq => some (.leq true (src x) (src y))
      | _ => none
    | some (.struct fs) => match plainFields fs.toList && !P.eqGuardType P.depth t && !P.stoodInHeld t with
      | true => match op with
        | .eql => some (.aeq false (fs.toList.map (fieldTag P)) (src x) (src y))
        | .neq => some (.aeq true (fs.toList.map (fieldTag P)) (src x) (src y))
        | _ => none
      | false => none
    | _ => none
  | .unOp op _ x => match op with
    | .not => some (.not (src x))
    | .neg => some (.neg (src x))
    | .xor => some (.bnot (src x))
    | _ => none
  | .nilCheck x => some (.nilchk (src x))
  | .fieldAddr t x f => match P.underlying t with
    | some (.struct fs) => match fs[f]? with
      | some fd => match (P.info? fd.type).isSome && !Nat.beq (P.cellsOf fd.type) 0 with
        | true => some (.faddr (src x) fd.offset)
        | false => none
      | none => none
    | _ => none
  | .indexAddr t x i => match P.underlying t with
    | some (.slice e) => match (P.info? e).isSome with
      | true => some (.iaddr (P.cellsOf e) (src x) (src i))
      | false => none
    | some (.array n e) => match (P.info? e).isSome with
      | true => some (.aaddr n (P.cellsOf e) (src x) (src i))
      | false => none
    | _ => none
  | .field t x f => match P.underlying t with
    | some (.struct fs) => match fs[f]? with
      | some fd => match isAggT P fd.type with
        | true => match (P.info? fd.type).isSome with
          | true => some (.fld fd.offset (some (P.cellsOf fd.type)) (src x))
          | false => none
        | false => match (P.underlying fd.type).isSome with
          | true => some (.fld fd.offset none (src x))
          | false => none
      | none => none
    | _ => none
  | .index t x i => match P.underlying t with
    | some .string => some (.idxs (src x) (src i))
    | some (.array n e) => match P.underlying e with
      | some (.int .i64) => match (P.info? e).isSome && Nat.beq (P.cellsOf e) 1 with
        | true => some (.idxi n (src x) (src i))
        | false => none
      | _ => none
    | _ => none
  | .extract x i => some (.ext i (src x))
  | .convert s d x => match P.underlying s, P.underlying d with
    | some (.int _), some (.int k) => some (.conv k (src x))
    | some (.int _), some (.float .f64) => some (.i2f (src x))
    | some (.float .f64), some (.int .i64) => some (.f2i (src x))
    | some (.float .f64), some (.float .f64) => some (.f2f (src x))
    | _, _ => none
  | .slice t x lo hi m => match P.underlying t with
    | some (.slice e) => match (P.info? e).isSome with
      | true => some (.slc (P.cellsOf e) (src x) (lo.map src) (hi.map src) (m.map src))
      | false => none
    | some .string => match m with
      | none => some (.slct (src x) (lo.map src) (hi.map src))
      | some _ => none
    | _ => none
  | .build t parts => match P.underlying t, zeroOf P t with
    | some (.struct fs), some z => match allInfo P fs with
      | true => (compParts P fs parts.toList).map (.build z.cells.toList ·)
      | false => none
    | some (.array _ e), some z => match (P.info? e).isSome with
      | true => some (.build z.cells.toList (compParts' (P.cellsOf e) parts.toList))
      | false => none
    | _, _ => none
  | .makeFunc fn first cap => some (.mkfn fn (first.toList.map src) (cap.toList.map src))
  | .makeInterface t x => match P.underlying t with
    | some (.interface _) => none
    | some _ => some (.mkif t (src x))
    | none => none
  | .call { callee := .builtin b, args := as, argTypes := ts } => match b, as.toList, ts.toList with
    | .len, [x], [t] => match P.underlying t with
      | some (.slice _) => some (.lens (src x))
      | some .string => some (.lent (src x))
      | _ => none
    | .max, [x, y], _ => some (.mx (src x) (src y))
    | .min, [x, y], [t, _] => match P.underlying t with
      | some (.float .f64) => some (.fmn (src x) (src y))
      | _ => some (.mn (src x) (src y))
    | _, _, _ => none
  | .call { callee := .value (.func f), args := as, argTypes := _ } => compX P f as.toList
  | _ => none

def compR (P : Program) (o : Op) : Option ROp :=
  match o with
  | .load t x => match zeroOf P t, P.underlying t with
    | some z, some (.struct _) => match Nat.beq z.cells.toList.length (P.cellsOf t) with
      | true => some (.load z.cells.toList true (src x))
      | false => none
    | some z, some (.array _ _) => match Nat.beq z.cells.toList.length (P.cellsOf t) with
      | true => some (.load z.cells.toList true (src x))
      | false => none
    | some z, some _ => some (.load [z] false (src x))
    | _, _ => none
  | .convert s d x => match P.underlying s, P.underlying d with
    | some (.slice e), some .string => match P.underlying e with
      | some (.int .u8) => some (.b2s (src x))
      | _ => none
    | _, _ => none
  | _ => none


def compApp (P : Program) (e : TypeId) (s x : Operand) : Option EOp :=
  match zeroOf P e, P.info? e with
  | some z, some i => match !Nat.beq i.bytes 0 with
    | true => some (.app e i.size i.bytes z.cells.toList (src s) (src x))
    | false => none
  | _, _ => none

def compE (P : Program) (o : Op) (t : TypeId) : Option EOp :=
  match o with
  | .store t x v => match P.info? t with
    | some i => some (.store i.size (src x) (src v))
    | none => none
  | .box e x => some (.box e (src x))
  | .alloc e => match zeroOf P e with
    | some z => some (.alloc e z.cells.toList)
    | none => none
  | .buildSlice t len parts => match P.underlying t with
    | some (.slice e) => match zeroOf P e, P.info? e with
      | some z, some i => match Nat.beq i.size z.cells.toList.length && !Nat.beq i.size 0 && Nat.ble (len * i.size) 65536 with
        | true => some (.bslice e i.size len z.cells.toList (compParts' i.size parts.toList))
        | false => none
      | _, _ => none
    | _ => none
  | .makeSlice t l c => match P.underlying t with
    | some (.slice e) => match zeroOf P e, P.info? e with
      | some z, some i => match Nat.beq i.size z.cells.toList.length && !Nat.beq i.size 0 && !Nat.beq i.bytes 0 with
        | true => some (.mkslice e i.size i.bytes z.cells.toList (src l) (src c))
        | false => none
      | _, _ => none
    | _ => none
  | .call { callee := .builtin b, args := as, argTypes := ts } => match b, as.toList, ts.toList with
    | .append, [s, x], [t, t'] => match P.underlying t, P.underlying t' with
      | some (.slice e), some (.slice _) => compApp P e s x
      | some (.slice e), some .string => compApp P e s x
      | _, _ => none
    | .copy, [d, x], [t, t'] => match P.underlying t, P.underlying t' with
      | some (.slice e), some (.slice _) => match P.info? e with
        | some i => some (.copy i.size (src d) (src x))
        | none => none
      | _, _ => none
    | _, _, _ => none
  | .call { callee := .value (.func f), args := as, argTypes := _ } => match P.funcs[f]?, zeroOf P t with
    | some fn, some z => match fn.body.isSome && !(fn.name == "runtime.NumGoroutine") with
      | true => some (.call f (as.toList.map src) z)
      | false => none
    | _, _ => none
  | .call { callee := .value (.tmp x), args := as, argTypes := _ } => match zeroOf P t with
    | some z => some (.callv (.t x) (as.toList.map src) z)
    | none => none
  | _ => none

end Go.Vc

namespace Go.Vc

def Agree (S : Sym) (a : Act) : Prop := ∀ t s, S.get t = some s → a.tmps.getD t undef = s.toV

theorem ev_sound {S : Sym} {a : Act} (h : Agree S a) {x : Operand} {s : SV} (he : ev S (src x) = some s) : a.eval x = s.toV := by
  cases x with
  | tmp t => exact h t s he
  | const v => cases v <;> (simp only [src, ev, Option.some.injEq] at he; subst he; rfl)
  | global g => simp only [src, ev, Option.some.injEq] at he; subst he; rfl
  | func f => simp only [src, ev, Option.some.injEq] at he; subst he; rfl

theorem withS_sound {S : Sym} {a : Act} (h : Agree S a) {x : Operand} {K : SV → Prop} (hk : withS S (src x) K) : ∃ s, a.eval x = s.toV ∧ K s := by
  unfold withS at hk
  split at hk
  · rename_i s he; exact ⟨s, ev_sound h he, hk⟩
  · exact hk.elim

theorem withV_sound {S : Sym} {a : Act} (h : Agree S a) {x : Operand} {K : Value → Prop} (hk : withV S (src x) K) : K (a.eval x) := by
  unfold withV at hk
  split at hk
  · rename_i s he; rw [ev_sound h he]; exact hk
  · exact hk.elim

theorem withI_sound {S : Sym} {a : Act} (h : Agree S a) {x : Operand} {K : IntKind → Int → Prop} (hk : withI S (src x) K) : ∃ k n, a.eval x = .int k n ∧ K k n := by
  unfold withI at hk
  split at hk
  · rename_i k n he; exact ⟨k, n, ev_sound h he, hk⟩
  · exact hk.elim

theorem prop_sound {s : SV} {φ : Prop} (h : s.prop = some φ) : ∃ b, s.toV = .bool b ∧ (b = true ↔ φ) := by
  cases s with
  | v x => cases x <;> simp only [SV.prop, Option.some.injEq, reduceCtorEq] at h; subst h; exact ⟨_, rfl, Iff.rfl⟩
  | b x => cases x <;> (simp only [SV.prop, Option.some.injEq] at h; subst h; exact ⟨_, rfl, by simp⟩)
  | p ψ => simp only [SV.prop, Option.some.injEq] at h; subst h; exact ⟨_, rfl, by simp⟩

theorem withB_sound {S : Sym} {a : Act} (h : Agree S a) {x : Operand} {K : Prop → Prop} (hk : withB S (src x) K) : ∃ b φ, a.eval x = .bool b ∧ (b = true ↔ φ) ∧ K φ := by
  unfold withB at hk
  split at hk
  · rename_i s he
    split at hk
    · rename_i φ hp
      obtain ⟨b, h1, h2⟩ := prop_sound hp
      exact ⟨b, φ, (ev_sound h he).trans h1, h2, hk⟩
    · exact hk.elim
  · exact hk.elim

theorem withVs_sound {S : Sym} {a : Act} (h : Agree S a) : ∀ (xs : List Operand) {K : List Value → Prop}, withVs S (xs.map src) K → K (xs.map a.eval)
  | [], _, hk => hk
  | x :: r, K, hk => by
    have h1 := withV_sound h (x := x) (K := fun v => withVs S (r.map src) fun vs => K (v :: vs)) hk
    exact withVs_sound h r h1

theorem branch_sound {s : SV} {K : Bool → Prop} (h : branch s K) : ∃ b, s.toV = .bool b ∧ K b := by
  cases s with
  | v x =>
    cases x <;> simp only [branch] at h
    rename_i b
    cases b
    · exact ⟨false, rfl, h.2 rfl⟩
    · exact ⟨true, rfl, h.1 rfl⟩
  | b x => exact ⟨x, rfl, h⟩
  | p φ =>
    simp only [branch] at h
    by_cases hp : φ
    · exact ⟨true, by simp [SV.toV, hp], h.1 hp⟩
    · exact ⟨false, by simp [SV.toV, hp], h.2 hp⟩

theorem toV_p {φ : Prop} {b : Bool} (h : b = true ↔ φ) : (SV.p φ).toV = .bool b := by
  cases b
  · have : ¬ φ := fun hp => by simpa using h.2 hp
    simp [SV.toV, this]
  · have := h.1 rfl
    simp [SV.toV, this]

theorem arith_sound {k : IntKind} {z : Int} {K : SV → Prop} (h : arith k z K) : ∃ s, K s ∧ s.toV = .int k (k.wrap z) := by
  cases k <;> simp only [arith] at h <;> first
    | exact ⟨_, h _ rfl, rfl⟩
    | (obtain ⟨⟨h1, h2⟩, hk⟩ := h
       refine ⟨_, hk, ?_⟩
       simp only [SV.toV, IntKind.wrap, IntKind.bits, IntKind.signed]
       congr 1
       simp only [Bool.true_and, ge_iff_le, decide_eq_true_eq]
       split <;> omega)

theorem wrap_of_in64 {n : Int} (h : In64 n) : IntKind.i64.wrap n = n := by
  obtain ⟨h1, h2⟩ := h
  simp only [IntKind.wrap, IntKind.bits, IntKind.signed, Bool.true_and, ge_iff_le, decide_eq_true_eq]
  split <;> omega

section
variable {P : Program} {w : World}

theorem shift_shl_any (k yk : IntKind) (x y : Int) (h : 0 ≤ y) : Op.shift .shl k x yk y = pure (.int k (k.wrap (x * 2 ^ (min y.toNat k.bits)))) := by
  unfold Op.shift
  rw [if_neg (by omega)]
theorem shift_shr_any (k yk : IntKind) (x y : Int) (h : 0 ≤ y) : Op.shift .shr k x yk y = pure (.int k (x.fdiv (2 ^ (min y.toNat k.bits)))) := by
  unfold Op.shift
  rw [if_neg (by omega)]

theorem decide_any {p : Prop} (i j : Decidable p) : @decide p i = @decide p j := by
  congr

theorem binI_sound {op : BinOp} {k k' : IntKind} {a b : Int} {K : SV → Prop} (t : TypeId) (x y : Operand) (h : binI op k k' a b K) :
    ∃ s, K s ∧ ∀ w, (do eqGuard op t x y (.int k a) (.int k' b); binOp op t (.int k a) (.int k' b) : Sem Value).run P w = .ok s.toV w := by
  have hg : eqGuard op t x y (.int k a) (.int k' b) = pure () := eqGuard_at_int ..
  simp only [hg, pure_bind]
  by_cases hs : op = .shl
  · subst hs
    simp only [binI] at h
    refine ⟨_, h.2 _ rfl, fun w => ?_⟩
    rw [binOp_shl, shift_shl_any _ _ _ _ h.1]; rfl
  by_cases hr : op = .shr
  · subst hr
    simp only [binI] at h
    refine ⟨_, h.2 _ rfl, fun w => ?_⟩
    rw [binOp_shr, shift_shr_any _ _ _ _ h.1]; rfl
  by_cases hk : k = k'
  · subst hk
    cases op <;> simp only [binI, decide_true] at h <;> first
      | exact (hs rfl).elim
      | exact (hr rfl).elim
      | exact h.elim
      | (obtain ⟨s, h1, h2⟩ := arith_sound h
         refine ⟨s, h1, fun w => ?_⟩
         rw [h2]
         first | rw [binOp_add] | rw [binOp_sub] | rw [binOp_mul]
         simp [Op.intArith])
      | (refine ⟨_, h.2 _ rfl, fun w => ?_⟩
         first | rw [binOp_quo] | rw [binOp_rem]
         simp [Op.intDiv, h.1, SV.toV])
      | (refine ⟨_, h _ rfl, fun w => ?_⟩
         first | rw [binOp_and, intBits_and] | rw [binOp_or, intBits_or] | rw [binOp_xor, intBits_xor] | rw [binOp_andNot, intBits_andNot]
         rfl)
      | (refine ⟨_, h, fun w => ?_⟩
         first | rw [binOp_eql] | rw [binOp_neq] | rw [binOp_lss] | rw [binOp_leq] | rw [binOp_gtr] | rw [binOp_geq]
         rw [toV_p (b := _)]
         · rfl
         · simp)
  · exfalso
    cases op <;> simp_all [binI]

theorem bytes_eq_iff (a b : ByteArray) : a.toList = b.toList ↔ a = b := by
  constructor
  · intro h
    rw [ByteArray.toList_eq, ByteArray.toList_eq] at h
    cases a; cases b
    simp only [ByteArray.mk.injEq]
    exact Array.toList_inj.1 h
  · rintro rfl; rfl

theorem binT_sound {op : BinOp} {a b : ByteArray} {K : SV → Prop} (t : TypeId) (x y : Operand) (h : binT op a b K) :
    ∃ s, K s ∧ ∀ w, (do eqGuard op t x y (.string a) (.string b); binOp op t (.string a) (.string b) : Sem Value).run P w = .ok s.toV w := by
  have hg : eqGuard op t x y (.string a) (.string b) = pure () := eqGuard_at_string ..
  simp only [hg, pure_bind]
  have hb : ∀ op, (binOp op t (.string a) (.string b)) = Op.stringOp op a b := by intro op; cases op <;> rfl
  have he := bytes_eq_iff a b
  rw [hb]
  cases op <;> simp only [binT] at h <;> first
    | exact h.elim
    | (refine ⟨_, h.2, fun w => ?_⟩
       have := h.1.2
       simp only [Op.stringOp]
       rw [if_neg (by rw [IntKind.max_i64]; omega)]
       rfl)
    | (refine ⟨_, h, fun w => ?_⟩
       simp only [Op.stringOp, Sem.run_pure]
       rw [toV_p (b := _)]
       simp [he])
end
end Go.Vc

namespace Go.Vc

section
variable {P : Program}

theorem run_sizeOf {t : TypeId} (h : (P.info? t).isSome = true) (w : World) : (sizeOf t).run P w = .ok (P.cellsOf t) w := by
  obtain ⟨i, hi⟩ := Option.isSome_iff_exists.1 h
  simp [sizeOf, typeInfo, Program.cellsOf, hi]

theorem addr_add (b o n : Nat) : Addr.add ⟨b, o, none⟩ n = ⟨b, (match n with | 0 => o | n + 1 => o + (n + 1)), none⟩ := by
  cases n <;> simp [Addr.add]

/-- What a pure operation of the region must do. -/
def PSound (P : Program) (a : Act) (o : Oper) (K : SV → Prop) : Prop := ∃ s, K s ∧ ∀ w, (execOp a.eval o).run P w = .ok (.value s.toV) w

theorem psound_val {a : Act} {o : Oper} {K : SV → Prop} {x : Sem Value} (he : execOp a.eval o = (do pure (.value (← x)))) {s : SV} (hk : K s) (hx : ∀ w, x.run P w = .ok s.toV w) : PSound P a o K :=
  ⟨s, hk, fun w => by rw [he]; simp [hx w]⟩

theorem filled_sound {S : Sym} {a : Act} (ha : Agree S a) (fs : Array Field) (places : Array (Nat × Nat)) (hp : ∀ (i : Nat) (f : Field), fs[i]? = some f → (P.info? f.type).isSome = true → places[i]? = some (f.offset, P.cellsOf f.type)) :
    ∀ (parts : List (Nat × Operand)) (l : List (Nat × Nat × Src)) (cells : List Value) (K : List Value → Prop), compParts P fs parts = some l → filled S K l cells →
      ∃ cs, Instr.fill (places[·]?) cells.toArray (parts.map fun (i, x) => (i, a.eval x)) = some cs ∧ K cs.toList
  | [], l, cells, K, hc, hf => by
    simp only [compParts, Option.some.injEq] at hc
    subst hc
    exact ⟨cells.toArray, rfl, hf⟩
  | (i, x) :: r, l, cells, K, hc, hf => by
    simp only [compParts] at hc
    split at hc
    · rename_i f hfi
      split at hc
      · rename_i inf hinf
        cases hr : compParts P fs r with
        | none => simp [hr] at hc
        | some l' =>
          simp only [hr, Option.map_some, Option.some.injEq] at hc
          subst hc
          simp only [filled] at hf
          have h1 := withV_sound ha hf
          split at h1
          · rename_i hsz
            simp only [Bool.and_eq_true] at hsz
            have hsz' := Nat.eq_of_beq_eq_true hsz.1
            have hb0 := Nat.le_of_ble_eq_true hsz.2
            have hpl := hp i f hfi (by simp [hinf])
            have hplaced : ∀ (vs : List Value) (o : Nat) (cs : List Value), placed cs o vs = (vs.zipIdx o).foldl (fun cs (c, j) => cs.set j c) cs := by
              intro vs
              induction vs with
              | nil => intros; rfl
              | cons v vs ih => intro o cs; simp only [placed, List.zipIdx_cons, List.foldl_cons]; exact ih _ _
            obtain ⟨cs, h2, h3⟩ := filled_sound ha fs places hp r l' _ K hr h1
            refine ⟨cs, ?_, h3⟩
            simp only [List.map_cons, Instr.fill, hpl]
            rw [if_neg]
            · have e : (placed cells f.offset (a.eval x).cells.toList).toArray = (a.eval x).cells.zipIdx.foldl (fun cs (c, j) => cs.setIfInBounds (f.offset + j) c) cells.toArray := by
                rw [hplaced]
                generalize (a.eval x).cells = vs
                rw [← Array.foldl_toList, Array.toList_zipIdx]
                have : ∀ (us : List Value) (j : Nat) (cs : List Value), ((us.zipIdx (f.offset + j)).foldl (fun cs (c, j) => cs.set j c) cs).toArray = (us.zipIdx j).foldl (fun cs (c, j) => cs.setIfInBounds (f.offset + j) c) cs.toArray := by
                  intro us
                  induction us with
                  | nil => intros; rfl
                  | cons u us ih =>
                    intro j cs
                    simp only [List.zipIdx_cons, List.foldl_cons]
                    rw [Nat.add_assoc, ih]
                    simp
                exact this vs.toList 0 cells
              rw [← e]
              exact h2
            · simp only [Array.length_toList] at hsz'
              simp only [ne_eq, List.size_toArray, gt_iff_lt, Bool.or_eq_true, decide_eq_true_eq, not_or, Decidable.not_not, Nat.not_lt]
              exact ⟨hsz', by omega⟩
          · exact h1.elim
      · cases hc
    · cases hc
end
end Go.Vc

namespace Go.Vc

section
variable {P : Program} {S : Sym} {a : Act}

theorem withO_sound (h : Agree S a) {x : Option Operand} {K : Option (IntKind × Int) → Prop} (hk : withO S (x.map src) K) :
    (x = none ∧ K none) ∨ ∃ o k n, x = some o ∧ a.eval o = .int k n ∧ K (some (k, n)) := by
  cases x with
  | none => exact .inl ⟨rfl, hk⟩
  | some o =>
    obtain ⟨k, n, h1, h2⟩ := withI_sound h (x := o) (K := fun k n => K (some (k, n))) hk
    exact .inr ⟨o, k, n, rfl, h1, h2⟩

theorem ev_some {x : Operand} {s : SV} (h : Agree S a) (he : ev S (src x) = some s) : a.eval x = s.toV := ev_sound h he

theorem binW_sound {op : BinOp} {k k' : IntKind} {a b : Int} {K : SV → Prop} (t : TypeId) (x y : Operand) (h : binW op k k' a b K) :
    ∃ s, K s ∧ ∀ w, (do eqGuard op t x y (.int k a) (.int k' b); binOp op t (.int k a) (.int k' b) : Sem Value).run P w = .ok s.toV w := by
  have hg : eqGuard op t x y (.int k a) (.int k' b) = pure () := eqGuard_at_int ..
  unfold binW at h
  split at h
  · split at h
    · rename_i hk
      obtain rfl := of_decide_eq_true hk
      refine ⟨_, h _ rfl, fun w => ?_⟩
      simp only [hg, pure_bind]
      simp [binOp, SV.toV, Op.intArith]
    · exact h.elim
  · split at h
    · rename_i hk
      obtain rfl := of_decide_eq_true hk
      refine ⟨_, h _ rfl, fun w => ?_⟩
      simp only [hg, pure_bind]
      simp [binOp, SV.toV, Op.intArith]
    · exact h.elim
  · split at h
    · rename_i hk
      obtain rfl := of_decide_eq_true hk
      refine ⟨_, h _ rfl, fun w => ?_⟩
      simp only [hg, pure_bind]
      simp [binOp, SV.toV, Op.intArith]
    · exact h.elim
  · exact binI_sound t x y h

theorem bin_sound {op : BinOp} {x y : Operand} {K : SV → Prop} (t : TypeId) (ha : Agree S a) (h : psem (.bin op (src x) (src y)) S K) :
    ∃ s, K s ∧ ∀ w, (do eqGuard op t x y (a.eval x) (a.eval y); binOp op t (a.eval x) (a.eval y) : Sem Value).run P w = .ok s.toV w := by
  simp only [psem] at h
  split at h
  · rename_i k m k' m' h1 h2
    rw [ev_some ha h1, ev_some ha h2]
    split at h
    · exact binW_sound t x y h
    · exact binI_sound t x y h
  · rename_i s s' h1 h2
    rw [ev_some ha h1, ev_some ha h2]
    exact binT_sound t x y h
  · exact h.elim

theorem run_equalIn_bool (d : Nat) {t : TypeId} (ht : P.underlying t = some .bool) (x y : Bool) (w : World) : (Op.equalIn (d + 1) t (.bool x) (.bool y)).run P w = .ok (x == y) w := by
  simp [Op.equalIn, run_underlying ht]
theorem run_equalIn_ptr (d : Nat) {t e : TypeId} (ht : P.underlying t = some (.pointer e)) (x : Option Addr) (w : World) : (Op.equalIn (d + 1) t (.pointer x) (.pointer none)).run P w = .ok x.isNone w := by
  cases x <;> simp [Op.equalIn, run_underlying ht]
theorem run_equalIn_ptr' (d : Nat) {t e : TypeId} (ht : P.underlying t = some (.pointer e)) (x : Option Addr) (w : World) : (Op.equalIn (d + 1) t (.pointer none) (.pointer x)).run P w = .ok x.isNone w := by
  cases x <;> simp [Op.equalIn, run_underlying ht]
theorem run_equalIn_slice (d : Nat) {t e : TypeId} (ht : P.underlying t = some (.slice e)) (x : Option Addr) (n m n' m' : Nat) (w : World) : (Op.equalIn (d + 1) t (.slice x n m) (.slice none n' m')).run P w = .ok x.isNone w := by
  cases x <;> simp [Op.equalIn, run_underlying ht]
theorem run_equal_bool {t : TypeId} (ht : P.underlying t = some .bool) (x y : Bool) (w : World) : (Op.equal t (.bool x) (.bool y)).run P w = .ok (x == y) w := run_equalIn_bool 9999 ht x y w
theorem run_equal_ptr {t e : TypeId} (ht : P.underlying t = some (.pointer e)) (x : Option Addr) (w : World) : (Op.equal t (.pointer x) (.pointer none)).run P w = .ok x.isNone w := run_equalIn_ptr 9999 ht x w
theorem run_equal_ptr' {t e : TypeId} (ht : P.underlying t = some (.pointer e)) (x : Option Addr) (w : World) : (Op.equal t (.pointer none) (.pointer x)).run P w = .ok x.isNone w := run_equalIn_ptr' 9999 ht x w
theorem run_equal_slice {t e : TypeId} (ht : P.underlying t = some (.slice e)) (x : Option Addr) (n m n' m' : Nat) (w : World) : (Op.equal t (.slice x n m) (.slice none n' m')).run P w = .ok x.isNone w := run_equalIn_slice 9999 ht x n m n' m' w

theorem oneIf_bool {neg b : Bool} {φ : Prop} (h : b = true ↔ φ) : (SV.p (oneIf neg φ)).toV = .bool (if neg then !b else b) := by
  apply toV_p
  cases neg <;> simp [oneIf, ← h]

theorem psound_sliceBound {x : Value} {k : IntKind} {i : Int} {y : Nat} {c : BoundsCode} (w : World) (hx : x = .int k i) (h0 : 0 ≤ i) (h1 : i ≤ y) : (Instr.sliceBound x y c).run P w = .ok i.toNat w := by
  subst hx
  simp [Instr.sliceBound, asIntOf, h0, h1]

theorem beq_sound {op : BinOp} {n : Bool} {x y : Operand} {K : SV → Prop} {t : TypeId} (ht : P.underlying t = some .bool) (ho : op = if n then .neq else .eql) (ha : Agree S a) (h : psem (.beq n (src x) (src y)) S K) :
    ∃ s, K s ∧ ∀ w, (do eqGuard op t x y (a.eval x) (a.eval y); binOp op t (a.eval x) (a.eval y) : Sem Value).run P w = .ok s.toV w := by
  simp only [psem] at h
  obtain ⟨b, φ, h1, h2, h⟩ := withB_sound ha h
  obtain ⟨c, ψ, h3, h4, h⟩ := withB_sound ha h
  refine ⟨_, h, fun w => ?_⟩
  rw [h1, h3, eqGuard_at_bool, pure_bind, oneIf_bool (b := b == c) (by rw [beq_iff_eq, ← h2, ← h4, ← Bool.eq_iff_iff])]
  subst ho
  cases n
  · simp [binOp, run_equal_bool ht]
  · simp [binOp, run_equal_bool ht]

theorem peq_sound {op : BinOp} {n : Bool} {x y : Operand} {K : SV → Prop} {t e : TypeId} (ht : P.underlying t = some (.pointer e)) (ho : op = if n then .neq else .eql) (ha : Agree S a) (h : psem (.peq n (src x) (src y)) S K) :
    ∃ s, K s ∧ ∀ w, (do eqGuard op t x y (a.eval x) (a.eval y); binOp op t (a.eval x) (a.eval y) : Sem Value).run P w = .ok s.toV w := by
  simp only [psem] at h
  subst ho
  split at h
  · rename_i p h1 h2
    refine ⟨_, h, fun w => ?_⟩
    rw [oneIf_bool (b := p.isNone) (by simp), ev_some ha h1, ev_some ha h2]
    simp only [SV.toV]
    rw [eqGuard_at_pointer, pure_bind]
    cases n <;> simp [binOp, run_equal_ptr ht]
  · rename_i p hn h1 h2
    refine ⟨_, h, fun w => ?_⟩
    rw [oneIf_bool (b := p.isNone) (by simp), ev_some ha h1, ev_some ha h2]
    simp only [SV.toV]
    rw [eqGuard_at_pointer, pure_bind]
    cases n <;> simp [binOp, run_equal_ptr' ht]
  · exact h.elim

theorem leq_sound {op : BinOp} {n : Bool} {x y : Operand} {K : SV → Prop} {t e : TypeId} (ht : P.underlying t = some (.slice e)) (ho : op = if n then .neq else .eql) (ha : Agree S a) (h : psem (.leq n (src x) (src y)) S K) :
    ∃ s, K s ∧ ∀ w, (do eqGuard op t x y (a.eval x) (a.eval y); binOp op t (a.eval x) (a.eval y) : Sem Value).run P w = .ok s.toV w := by
  simp only [psem] at h
  subst ho
  split at h
  · rename_i p _ _ _ _ h1 h2
    refine ⟨_, h, fun w => ?_⟩
    rw [oneIf_bool (b := p.isNone) (by simp), ev_some ha h1, ev_some ha h2]
    simp only [SV.toV]
    rw [eqGuard_at_slice, pure_bind]
    cases n <;> simp [binOp, run_equal_slice ht]
  · exact h.elim

theorem eqB_sound {x y : Option Value} {K : Prop → Prop} (h : eqB x y K) : ∃ a b, x = some (.bool a) ∧ y = some (.bool b) ∧ K (a = b) := by
  unfold eqB at h
  split at h
  · exact ⟨_, _, rfl, rfl, h⟩
  · exact h.elim
theorem eqT_sound {x y : Option Value} {K : Prop → Prop} (h : eqT x y K) : ∃ a b, x = some (.string a) ∧ y = some (.string b) ∧ K (a = b) := by
  unfold eqT at h
  split at h
  · exact ⟨_, _, rfl, rfl, h⟩
  · exact h.elim
theorem eqI_sound {x y : Option Value} {K : Prop → Prop} (h : eqI x y K) : ∃ k a b, x = some (.int k a) ∧ y = some (.int k b) ∧ K (a = b) := by
  unfold eqI at h
  split at h
  · split at h
    · rename_i hk
      obtain rfl := of_decide_eq_true hk
      exact ⟨_, _, _, rfl, rfl, h⟩
    · exact h.elim
  · exact h.elim

theorem eq1_sound {t : TypeId} {x y : Option Value} {K : Prop → Prop} (h : eq1 (tagOf P t) x y K) : ∃ (a b : Value) (φ : Prop) (c : Bool), x = some a ∧ y = some b ∧ K φ ∧ (c = true ↔ φ) ∧ scalarT P t = true ∧
    ∀ (d : Nat) (w : World), (Op.equalIn (d + 1) t a b).run P w = .ok c w := by
  unfold tagOf at h
  split at h
  · rename_i ki ht
    obtain ⟨k, a, b, h1, h2, h3⟩ := eqI_sound h
    exact ⟨_, _, _, (a == b), h1, h2, h3, by simp, by simp [scalarT, isAggT, ht], fun d w => run_equalIn_int w d t k _ a b ht⟩
  · rename_i ht
    obtain ⟨a, b, h1, h2, h3⟩ := eqB_sound h
    exact ⟨_, _, _, (a == b), h1, h2, h3, by simp, by simp [scalarT, isAggT, ht], fun d w => run_equalIn_bool' w d t a b ht⟩
  · rename_i ht
    obtain ⟨a, b, h1, h2, h3⟩ := eqT_sound h
    exact ⟨_, _, _, (a.toList == b.toList), h1, h2, h3, by rw [beq_iff_eq]; exact bytes_eq_iff a b, by simp [scalarT, isAggT, ht], fun d w => run_equalIn_string w d t a b ht⟩
  · exact h.elim

theorem run_part_scalar {t : TypeId} (h : scalarT P t = true) {cs : Array Value} {off : Nat} {v : Value} (hv : cs[off]? = some v) (w : World) : (part t cs off).run P w = .ok v w := by
  have hag : (isAgg t).run P w = .ok false w := by
    unfold scalarT isAggT at h
    cases hu : P.underlying t with
    | none => simp [hu] at h
    | some d => cases d <;> first | (simp [hu] at h; done) | (simp [isAgg, run_underlying hu]; done)
  simp [part, hag, hv]

theorem eqL_sound {xs ys : Array Value} (d : Nat) : ∀ {fs : List Field} {K : Prop → Prop}, plainFields fs = true → eqL xs.toList ys.toList (fs.map (fieldTag P)) K →
    ∃ φ c, K φ ∧ (c = true ↔ φ) ∧ ∀ w, (Op.eqFields (d + 1) xs ys fs).run P w = .ok c w
  | [], K, _, h => ⟨_, true, h, by simp, fun w => by simp [Op.eqFields]⟩
  | f :: r, K, hp, h => by
    simp only [plainFields, List.all_cons, Bool.and_eq_true] at hp
    have hne : f.name ≠ "_" := by simpa using hp.1
    simp only [List.map_cons, eqL, fieldTag] at h
    obtain ⟨a, b, φ, c, hx, hy, hk, hc, hs, hr⟩ := eq1_sound (P := P) h
    have hx' : xs[f.offset]? = some a := by simpa using hx
    have hy' : ys[f.offset]? = some b := by simpa using hy
    have step : ∀ w, (Op.eqFields (d + 1) xs ys (f :: r)).run P w = if c = false then .ok false w else (Op.eqFields (d + 1) xs ys r).run P w := by
      intro w
      simp only [Op.eqFields, hne, ne_eq, not_false_eq_true, if_true, Sem.run_bind, run_part_scalar hs hx', run_part_scalar hs hy', Result.andThen_ok, hr d w]
      cases c <;> simp
    cases r with
    | nil =>
      simp only [List.map_nil] at hk
      refine ⟨φ, c, hk, hc, fun w => ?_⟩
      rw [step]
      cases c <;> simp [Op.eqFields]
    | cons g r' =>
      simp only [List.map_cons] at hk
      obtain ⟨ψ, c', hk', hc', hr'⟩ := eqL_sound d (fs := g :: r') hp.2 hk
      refine ⟨_, c && c', hk', by rw [Bool.and_eq_true, hc, hc'], fun w => ?_⟩
      rw [step, hr']
      cases c <;> simp

theorem aeq_sound {op : BinOp} {n : Bool} {x y : Operand} {K : SV → Prop} {t : TypeId} {fs : Array Field} (ht : P.underlying t = some (.struct fs)) (hpl : plainFields fs.toList = true) (hg : P.eqGuardType P.depth t = false) (hst : P.stoodInHeld t = false)
    (ho : op = if n then .neq else .eql) (ha : Agree S a) (h : psem (.aeq n (fs.toList.map (fieldTag P)) (src x) (src y)) S K) :
    ∃ s, K s ∧ ∀ w, (do eqGuard op t x y (a.eval x) (a.eval y); binOp op t (a.eval x) (a.eval y) : Sem Value).run P w = .ok s.toV w := by
  simp only [psem] at h
  subst ho
  split at h
  · rename_i xs ys h1 h2
    obtain ⟨φ, c, hk, hc, hr⟩ := eqL_sound (P := P) 9998 hpl h
    refine ⟨_, hk, fun w => ?_⟩
    rw [oneIf_bool hc, ev_some ha h1, ev_some ha h2]
    have hfs : P.fieldsOf t = fs := by simp [Program.fieldsOf, ht]
    have he := run_equalIn_struct (P := P) w 9999 t xs ys (by rw [hfs]; exact ht) hst
    rw [hfs, hr] at he
    simp only [SV.toV, Sem.run_bind, run_eqGuard_agg w _ t x y xs ys hg, Result.andThen_ok]
    cases n
    · simp only [Bool.false_eq_true, if_false]
      rw [run_eql_struct, he]
      rfl
    · simp only [if_true]
      rw [run_neq_struct, he]
      rfl
  · exact h.elim

theorem not_sound {x : Operand} {K : SV → Prop} (ha : Agree S a) (h : psem (.not (src x)) S K) : ∃ s, K s ∧ ∀ w, (Op.unary .not (a.eval x)).run P w = .ok s.toV w := by
  simp only [psem] at h
  split at h
  · rename_i b he; exact ⟨_, h, fun w => by rw [ev_some ha he]; rfl⟩
  · rename_i φ he
    refine ⟨_, h, fun w => ?_⟩
    rw [ev_some ha he]
    by_cases hp : φ <;> simp [SV.toV, hp, Op.unary]
  · rename_i b he
    refine ⟨_, h, fun w => ?_⟩
    rw [ev_some ha he]
    cases b <;> simp [SV.toV, Op.unary]
  · exact h.elim

theorem neg_sound {x : Operand} {K : SV → Prop} (ha : Agree S a) (h : psem (.neg (src x)) S K) : ∃ s, K s ∧ ∀ w, (Op.unary .neg (a.eval x)).run P w = .ok s.toV w := by
  simp only [psem] at h
  obtain ⟨k, n, h1, h⟩ := withI_sound ha h
  obtain ⟨s, h2, h3⟩ := arith_sound h
  exact ⟨s, h2, fun w => by rw [h1, h3]; rfl⟩

theorem addr_addIf (b o n : Nat) : Addr.add ⟨b, o, none⟩ n = ⟨b, (match n with | 0 => o | n + 1 => o + (n + 1)), none⟩ := by
  cases n <;> simp [Addr.add]

theorem faddr_sound {t : TypeId} {x : Operand} {f : Nat} {fs : Array Field} {fd : Field} {K : SV → Prop} (ht : P.underlying t = some (.struct fs)) (hf : fs[f]? = some fd) (hi : (P.info? fd.type).isSome = true) (hs : P.cellsOf fd.type ≠ 0)
    (ha : Agree S a) (h : psem (.faddr (src x) fd.offset) S K) : ∃ s, K s ∧ ∀ w, (Instr.fieldAt t (a.eval x) f).run P w = .ok s.toV w := by
  simp only [psem] at h
  split at h
  · rename_i b o he
    refine ⟨_, h, fun w => ?_⟩
    rw [ev_some ha he]
    simp only [SV.toV, Instr.fieldAt, Sem.run_bind, run_underlying ht, Result.andThen_ok, hf, Instr.sureAddr, fieldPlace, run_sizeOf hi, hs, if_false, Sem.run_pure, addr_addIf] <;> rfl
  · exact h.elim

theorem iaddr_sound {t e : TypeId} {x i : Operand} {K : SV → Prop} (ht : P.underlying t = some (.slice e)) (hi : (P.info? e).isSome = true) (ha : Agree S a) (h : psem (.iaddr (P.cellsOf e) (src x) (src i)) S K) :
    ∃ s, K s ∧ ∀ w, (Instr.indexAt t (a.eval x) (a.eval i)).run P w = .ok s.toV w := by
  simp only [psem] at h
  split at h
  · rename_i p len cap he
    obtain ⟨k, n, h1, h0, hn, b, o, hp, h⟩ := withI_sound ha h
    refine ⟨_, h, fun w => ?_⟩
    subst hp
    rw [ev_some ha he, h1]
    simp only [SV.toV, Instr.indexAt, asIntOf, Sem.run_bind, Sem.run_pure, Result.andThen_ok, run_underlying ht]
    rw [if_pos ⟨h0, hn⟩]
    simp only [Sem.run_bind, run_sizeOf hi, Result.andThen_ok, Sem.run_pure]
    congr 3
    rw [Addr.add_lit]
    split
    · rename_i h1; rw [h1, Nat.mul_one]
    · rfl
  · exact h.elim

theorem aaddr_sound {t e : TypeId} {len : Nat} {x i : Operand} {K : SV → Prop} (ht : P.underlying t = some (.array len e)) (hi : (P.info? e).isSome = true) (ha : Agree S a) (h : psem (.aaddr len (P.cellsOf e) (src x) (src i)) S K) :
    ∃ s, K s ∧ ∀ w, (Instr.indexAt t (a.eval x) (a.eval i)).run P w = .ok s.toV w := by
  simp only [psem] at h
  split at h
  · rename_i b o he
    obtain ⟨k, n, h1, h0, hn, h⟩ := withI_sound ha h
    refine ⟨_, h, fun w => ?_⟩
    rw [ev_some ha he, h1]
    simp only [SV.toV, Instr.indexAt, asIntOf, Sem.run_bind, Sem.run_pure, Result.andThen_ok, run_underlying ht, Instr.sureAddr]
    rw [if_pos ⟨h0, hn⟩]
    simp only [Sem.run_bind, run_sizeOf hi, Result.andThen_ok, Sem.run_pure]
    congr 3
    rw [Addr.add_lit]
    split
    · rename_i h1; rw [h1, Nat.mul_one]
    · rfl
  · exact h.elim
end
end Go.Vc

namespace Go.Vc

section
variable {P : Program} {S : Sym} {a : Act}

theorem nilchk_sound {o : Oper} {x : Operand} {K : SV → Prop} (ho : o.op = .nilCheck x) (ha : Agree S a) (h : psem (.nilchk (src x)) S K) : PSound P a o K := by
  simp only [psem] at h
  split at h
  · rename_i p he
    obtain ⟨b, q, rfl, h⟩ := h
    refine ⟨_, h, fun w => ?_⟩
    simp only [execOp, ho, ev_some ha he, SV.toV]
    rfl
  · rename_i f c d he
    refine ⟨_, h, fun w => ?_⟩
    simp only [execOp, ho, ev_some ha he, SV.toV]
    rfl
  · exact h.elim

theorem fld_sound {t : TypeId} {x : Operand} {f : Nat} {fs : Array Field} {fd : Field} {K : SV → Prop} {ag : Option Nat} (ht : P.underlying t = some (.struct fs)) (hf : fs[f]? = some fd)
    (hag : (ag = some (P.cellsOf fd.type) ∧ (P.info? fd.type).isSome = true ∧ isAggT P fd.type = true) ∨ (ag = none ∧ scalarT P fd.type = true))
    (ha : Agree S a) (h : psem (.fld fd.offset ag (src x)) S K) : ∃ s, K s ∧ ∀ w, (Instr.field t (a.eval x) f).run P w = .ok s.toV w := by
  simp only [psem] at h
  split at h
  · rename_i cs he
    rcases hag with ⟨rfl, hi, hg⟩ | ⟨rfl, hg⟩
    · refine ⟨_, h, fun w => ?_⟩
      rw [ev_some ha he]
      have hag : (isAgg fd.type).run P w = .ok true w := by
        unfold isAggT at hg
        split at hg
        · rename_i hu; simp [isAgg, run_underlying hu]
        · rename_i hu; simp [isAgg, run_underlying hu]
        · cases hg
      simp only [SV.toV, Instr.field, Sem.run_bind, run_underlying ht, Result.andThen_ok, hf, asAgg, Sem.run_pure, part, hag, if_true, run_sizeOf hi]
      congr 2
      apply Array.ext'
      simp [Array.toList_extract, List.take_drop]
    · simp only at h
      split at h
      · rename_i v hv
        refine ⟨_, h, fun w => ?_⟩
        rw [ev_some ha he]
        have hag : (isAgg fd.type).run P w = .ok false w := by
          unfold scalarT isAggT at hg
          cases hu : P.underlying fd.type with
          | none => simp [hu] at hg
          | some d => cases d <;> first | (simp [hu] at hg; done) | (simp [isAgg, run_underlying hu]; done)
        have hv' : cs[fd.offset]? = some v := by simpa using hv
        simp only [SV.toV, Instr.field, Sem.run_bind, run_underlying ht, Result.andThen_ok, hf, asAgg, Sem.run_pure, part, hag, Bool.false_eq_true, if_false, hv']
      · exact h.elim
  · exact h.elim

theorem idxs_sound {t : TypeId} {x i : Operand} {K : SV → Prop} (ht : P.underlying t = some .string) (ha : Agree S a) (h : psem (.idxs (src x) (src i)) S K) :
    ∃ s, K s ∧ ∀ w, (Instr.index t (a.eval x) (a.eval i)).run P w = .ok s.toV w := by
  simp only [psem] at h
  split at h
  · rename_i s he
    obtain ⟨k, n, h1, h0, hn, h⟩ := withI_sound ha h
    refine ⟨_, h _ rfl, fun w => ?_⟩
    rw [ev_some ha he, h1]
    have hlt : n.toNat < s.size := by omega
    have hlt' : n.toNat < s.data.size := hlt
    have hg : s[n.toNat]? = some s[n.toNat] := by
      exact getElem?_pos s n.toNat hlt
    simp only [SV.toV, Instr.index, asIntOf, Sem.run_bind, Sem.run_pure, Result.andThen_ok, run_underlying ht]
    rw [if_pos h0, hg]
    have e : s.data.toList.getD n.toNat 0 = s[n.toNat] := by
      rw [List.getD_eq_getElem?_getD, Array.getElem?_toList, Array.getElem?_eq_getElem hlt']
      rfl
    rw [e]
    rfl
  · exact h.elim

theorem ext_sound {x : Operand} {i : Nat} {K : SV → Prop} (ha : Agree S a) (h : psem (.ext i (src x)) S K) : ∃ s, K s ∧ ∀ w, (Instr.extract (a.eval x) i).run P w = .ok s.toV w := by
  simp only [psem] at h
  split at h
  · rename_i vs he
    split at h
    · rename_i v hv
      refine ⟨_, h, fun w => ?_⟩
      rw [ev_some ha he]
      have hv' : vs[i]? = some v := by simpa using hv
      simp [SV.toV, Instr.extract, hv']
    · exact h.elim
  · exact h.elim

theorem conv_sound {s d : TypeId} {k k0 : IntKind} {x : Operand} {K : SV → Prop} (hs : P.underlying s = some (.int k0)) (hd : P.underlying d = some (.int k)) (ha : Agree S a) (h : psem (.conv k (src x)) S K) :
    ∃ u, K u ∧ ∀ w, (convert s d (a.eval x)).run P w = .ok u.toV w := by
  simp only [psem] at h
  obtain ⟨k1, n, h1, h⟩ := withI_sound ha h
  have hr : ∀ w, (convert s d (.int k1 n)).run P w = .ok (.int k (k.wrap n)) w := fun w => by simp [convert, run_underlying hs, run_underlying hd, Conv.intToInt]
  rw [h1]
  cases k <;> simp only at h <;> first
    | exact ⟨_, h _ rfl, fun w => hr w⟩
    | (split at h
       · exact ⟨_, h _ rfl, fun w => hr w⟩
       · exact ⟨_, h.2, fun w => by rw [hr, wrap_of_in64 h.1]; rfl⟩)

theorem lens_sound {t ty e : TypeId} {x : Operand} {K : SV → Prop} (ht : P.underlying t = some (.slice e)) (ha : Agree S a) (h : psem (.lens (src x)) S K) :
    ∃ s, K s ∧ ∀ w, (Builtin.len_ #[t] ty #[a.eval x]).run P w = .ok s.toV w := by
  simp only [psem] at h
  split at h
  · rename_i p n m he
    refine ⟨_, h, fun w => ?_⟩
    rw [ev_some ha he]
    simp [Builtin.len_, run_underlying ht, SV.toV, goInt]
  · exact h.elim

theorem lent_sound {t ty : TypeId} {x : Operand} {K : SV → Prop} (ht : P.underlying t = some .string) (ha : Agree S a) (h : psem (.lent (src x)) S K) :
    ∃ s, K s ∧ ∀ w, (Builtin.len_ #[t] ty #[a.eval x]).run P w = .ok s.toV w := by
  simp only [psem] at h
  split at h
  · rename_i b he
    refine ⟨_, h, fun w => ?_⟩
    rw [ev_some ha he]
    simp [Builtin.len_, run_underlying ht, SV.toV, goInt]
  · exact h.elim

theorem mx_sound {ts : Array TypeId} {ty : TypeId} {x y : Operand} {K : SV → Prop} (ha : Agree S a) (h : psem (.mx (src x) (src y)) S K) :
    ∃ s, K s ∧ ∀ w, (Builtin.max_ ts ty #[a.eval x, a.eval y]).run P w = .ok s.toV w := by
  simp only [psem] at h
  obtain ⟨k, n, h1, h⟩ := withI_sound ha h
  obtain ⟨k', m, h2, h⟩ := withI_sound ha h
  refine ⟨_, h, fun w => ?_⟩
  rw [h1, h2]
  simp only [SV.toV, Builtin.max_, List.foldlM_cons, List.foldlM_nil, Builtin.max2, Sem.run_bind, Sem.run_pure, Result.andThen_ok]
  congr 2
  split <;> omega

theorem mn_sound {ts : Array TypeId} {ty : TypeId} {x y : Operand} {K : SV → Prop} (ha : Agree S a) (h : psem (.mn (src x) (src y)) S K) :
    ∃ s, K s ∧ ∀ w, (Builtin.min_ ts ty #[a.eval x, a.eval y]).run P w = .ok s.toV w := by
  simp only [psem] at h
  obtain ⟨k, n, h1, h⟩ := withI_sound ha h
  obtain ⟨k', m, h2, h⟩ := withI_sound ha h
  refine ⟨_, h, fun w => ?_⟩
  rw [h1, h2]
  simp only [SV.toV, Builtin.min_, List.foldlM_cons, List.foldlM_nil, Builtin.min2, Sem.run_bind, Sem.run_pure, Result.andThen_ok]
  congr 2
  split <;> omega

theorem slc_sound {t e : TypeId} {x : Operand} {lo hi m : Option Operand} {K : SV → Prop} (ht : P.underlying t = some (.slice e)) (hi' : (P.info? e).isSome = true) (ha : Agree S a)
    (h : psem (.slc (P.cellsOf e) (src x) (lo.map src) (hi.map src) (m.map src)) S K) :
    ∃ s, K s ∧ ∀ w, (Instr.sliceAt t (a.eval x) (lo.map a.eval) (hi.map a.eval) (m.map a.eval)).run P w = .ok s.toV w := by
  simp only [psem] at h
  split at h
  · rename_i p len cap he
    rw [ev_some ha he]
    have hz : ∀ (q : Option Addr) (n : Nat), (q.map fun x => x.add 0) = q := fun q n => by cases q <;> simp [Addr.add]
    rcases withO_sound (x := m) ha h with ⟨hm0, g1⟩ | ⟨om, km, nm, hm0, em, g1⟩ <;> rcases withO_sound (x := hi) ha g1 with ⟨hh0, g2⟩ | ⟨oh, kh, nh, hh0, eh, g2⟩ <;> rcases withO_sound (x := lo) ha g2 with ⟨hl0, g3⟩ | ⟨ol, kl, nl, hl0, el, g3⟩ <;> clear h g1 g2 <;> subst hm0 <;> subst hh0 <;> subst hl0 <;> (have h := g3) <;> clear g3 <;> simp only at h
    · refine ⟨_, h, fun w => ?_⟩
      simp only [SV.toV, Instr.sliceAt, Instr.slice, Instr.sliceBounds, Option.map_none, Sem.run_bind, run_underlying ht, Result.andThen_ok, Sem.run_pure, run_sizeOf hi', Nat.zero_mul, hz p cap, ite_self, Nat.sub_zero, Option.isSome_none]
    · obtain ⟨h0, h1, h⟩ := h
      refine ⟨_, h _ rfl, fun w => ?_⟩
      simp only [SV.toV, Instr.sliceAt, Instr.slice, Instr.sliceBounds, Option.map_none, Option.map_some, Sem.run_bind, run_underlying ht, Result.andThen_ok, Sem.run_pure, run_sizeOf hi', Option.isSome_none, psound_sliceBound w el h0 h1]
    · obtain ⟨h0, h1, h⟩ := h
      refine ⟨_, h, fun w => ?_⟩
      simp only [SV.toV, Instr.sliceAt, Instr.slice, Instr.sliceBounds, Option.map_none, Option.map_some, Sem.run_bind, run_underlying ht, Result.andThen_ok, Sem.run_pure, run_sizeOf hi', Nat.zero_mul, hz p cap, ite_self, Nat.sub_zero, Option.isSome_none, psound_sliceBound w eh h0 h1]
    · obtain ⟨h0, h1, h2, h⟩ := h
      refine ⟨_, h _ rfl, fun w => ?_⟩
      have eh' := psound_sliceBound (P := P) (c := .sliceAcap) w eh (by omega) h2
      have el' := psound_sliceBound (P := P) (y := nh.toNat) (c := .sliceB) w el h0 (by omega)
      simp only [SV.toV, Instr.sliceAt, Instr.slice, Instr.sliceBounds, Option.map_none, Option.map_some, Sem.run_bind, run_underlying ht, Result.andThen_ok, Sem.run_pure, run_sizeOf hi', Option.isSome_none, if_true, if_false, Bool.false_eq_true, eh', el']
    · obtain ⟨h0, h1, h2, h⟩ := h
      refine ⟨_, h, fun w => ?_⟩
      have em' := psound_sliceBound (P := P) (c := .slice3Acap) w em (by omega) h2
      have eh' := psound_sliceBound (P := P) (y := nm.toNat) (c := .slice3B) w eh h0 (by omega)
      simp only [SV.toV, Instr.sliceAt, Instr.slice, Instr.sliceBounds, Option.map_none, Option.map_some, Sem.run_bind, run_underlying ht, Result.andThen_ok, Sem.run_pure, run_sizeOf hi', Nat.zero_mul, hz p cap, ite_self, Nat.sub_zero, if_true, em', eh']
  · exact h.elim

theorem slct_sound {t : TypeId} {x : Operand} {lo hi : Option Operand} {K : SV → Prop} (ht : P.underlying t = some .string) (ha : Agree S a)
    (h : psem (.slct (src x) (lo.map src) (hi.map src)) S K) :
    ∃ s, K s ∧ ∀ w, (Instr.sliceAt t (a.eval x) (lo.map a.eval) (hi.map a.eval) none).run P w = .ok s.toV w := by
  simp only [psem] at h
  split at h
  · rename_i s he
    rw [ev_some ha he]
    rcases withO_sound (x := hi) ha h with ⟨hh0, g2⟩ | ⟨oh, kh, nh, hh0, eh, g2⟩ <;> rcases withO_sound (x := lo) ha g2 with ⟨hl0, g3⟩ | ⟨ol, kl, nl, hl0, el, g3⟩ <;> clear h g2 <;> subst hh0 <;> subst hl0 <;> (have h := g3) <;> clear g3 <;> simp only at h
    · obtain ⟨h0, h1, h⟩ := h
      refine ⟨_, h, fun w => ?_⟩
      simp only [SV.toV, Instr.sliceAt, Instr.slice, Instr.sliceBounds, Option.map_none, Option.map_some, Sem.run_bind, run_underlying ht, Result.andThen_ok, Sem.run_pure, Option.isSome_none, if_false, Bool.false_eq_true, psound_sliceBound w el h0 h1]
    · obtain ⟨h0, h1, h⟩ := h
      refine ⟨_, h, fun w => ?_⟩
      simp only [SV.toV, Instr.sliceAt, Instr.slice, Instr.sliceBounds, Option.map_none, Option.map_some, Sem.run_bind, run_underlying ht, Result.andThen_ok, Sem.run_pure, Option.isSome_none, if_false, Bool.false_eq_true, psound_sliceBound w eh h0 h1]
    · obtain ⟨h0, h1, h2, h⟩ := h
      refine ⟨_, h, fun w => ?_⟩
      have eh' := psound_sliceBound (P := P) (c := .sliceAlen) w eh (by omega) h2
      have el' := psound_sliceBound (P := P) (y := nh.toNat) (c := .sliceB) w el h0 (by omega)
      simp only [SV.toV, Instr.sliceAt, Instr.slice, Instr.sliceBounds, Option.map_some, Sem.run_bind, run_underlying ht, Result.andThen_ok, Sem.run_pure, Option.isSome_none, if_false, Bool.false_eq_true, eh', el']
  · exact h.elim
end
end Go.Vc

namespace Go.Vc

section
variable {P : Program} {S : Sym} {a : Act}

theorem withF_sound (h : Agree S a) {x : Operand} {K : Nat → Prop} (hk : withF S (src x) K) : ∃ n, a.eval x = .float .f64 n ∧ K n := by
  unfold withF at hk
  split at hk
  · rename_i n he; exact ⟨n, ev_sound h he, hk⟩
  · exact hk.elim

theorem filled'_sound (ha : Agree S a) (size : Nat) : ∀ (parts : List (Nat × Operand)) (cells : List Value) (K : List Value → Prop), filled S K (compParts' size parts) cells →
      ∃ cs, Instr.fill (fun i => some (i * size, size)) cells.toArray (parts.map fun (i, x) => (i, a.eval x)) = some cs ∧ K cs.toList
  | [], cells, K, hf => ⟨cells.toArray, rfl, hf⟩
  | (i, x) :: r, cells, K, hf => by
    simp only [compParts', List.map_cons, filled] at hf
    have h1 := withV_sound ha hf
    split at h1
    · rename_i hsz
      simp only [Bool.and_eq_true] at hsz
      have hsz' := Nat.eq_of_beq_eq_true hsz.1
      have hb0 := Nat.le_of_ble_eq_true hsz.2
      have hplaced : ∀ (vs : List Value) (o : Nat) (cs : List Value), placed cs o vs = (vs.zipIdx o).foldl (fun cs (c, j) => cs.set j c) cs := by
        intro vs
        induction vs with
        | nil => intros; rfl
        | cons v vs ih => intro o cs; simp only [placed, List.zipIdx_cons, List.foldl_cons]; exact ih _ _
      obtain ⟨cs, h2, h3⟩ := filled'_sound ha size r _ K h1
      refine ⟨cs, ?_, h3⟩
      simp only [List.map_cons, Instr.fill]
      rw [if_neg]
      · have e : (placed cells (i * size) (a.eval x).cells.toList).toArray = (a.eval x).cells.zipIdx.foldl (fun cs (c, j) => cs.setIfInBounds (i * size + j) c) cells.toArray := by
          rw [hplaced]
          generalize (a.eval x).cells = vs
          rw [← Array.foldl_toList, Array.toList_zipIdx]
          have : ∀ (us : List Value) (j : Nat) (cs : List Value), ((us.zipIdx (i * size + j)).foldl (fun cs (c, j) => cs.set j c) cs).toArray = (us.zipIdx j).foldl (fun cs (c, j) => cs.setIfInBounds (i * size + j) c) cs.toArray := by
            intro us
            induction us with
            | nil => intros; rfl
            | cons u us ih =>
              intro j cs
              simp only [List.zipIdx_cons, List.foldl_cons]
              rw [Nat.add_assoc, ih]
              simp
          exact this vs.toList 0 cells
        rw [← e]
        exact h2
      · simp only [Array.length_toList] at hsz'
        simp only [ne_eq, List.size_toArray, gt_iff_lt, Bool.or_eq_true, decide_eq_true_eq, not_or, Decidable.not_not, Nat.not_lt]
        exact ⟨hsz', by omega⟩
    · exact h1.elim

theorem buildA_sound {t e : TypeId} {z : Value} {n : Nat} {parts : Array (Nat × Operand)} {K : SV → Prop} (ht : P.underlying t = some (.array n e)) (hz : zeroOf P t = some z) (hi : (P.info? e).isSome = true)
    (ha : Agree S a) (h : psem (.build z.cells.toList (compParts' (P.cellsOf e) parts.toList)) S K) :
    ∃ s, K s ∧ ∀ w, (Instr.build t (parts.map fun (i, x) => (i, a.eval x))).run P w = .ok s.toV w := by
  simp only [psem] at h
  obtain ⟨cs, h1, h2⟩ := filled'_sound ha (P.cellsOf e) parts.toList _ _ h
  refine ⟨_, h2, fun w => ?_⟩
  have hzv : (zeroValue t).run P w = .ok z w := by
    unfold zeroOf at hz
    cases hi : P.info? t with
    | none => simp [hi] at hz
    | some i =>
      simp only [hi, Option.bind_some] at hz
      simp [zeroValue, typeInfo, hi, hz]
  simp only [Instr.build, Sem.run_bind, hzv, Result.andThen_ok, run_underlying ht, run_sizeOf hi]
  have e : (parts.map fun (i, x) => (i, a.eval x)).toList = parts.toList.map fun (i, x) => (i, a.eval x) := by simp
  rw [e]
  simp only [Array.toArray_toList] at h1
  rw [h1]
  simp [SV.toV]

theorem bnot_sound {x : Operand} {K : SV → Prop} (ha : Agree S a) (h : psem (.bnot (src x)) S K) : ∃ s, K s ∧ ∀ w, (Op.unary .xor (a.eval x)).run P w = .ok s.toV w := by
  simp only [psem] at h
  obtain ⟨k, n, h1, h⟩ := withI_sound ha h
  refine ⟨_, h _ rfl, fun w => ?_⟩
  rw [h1]
  simp only [Op.unary, intBits_xor, Sem.run_pure, SV.toV]
  cases k.signed <;> rfl

theorem intsL_get : ∀ {vs : List Value} {l : List Int}, intsL vs = some l → ∀ i, i < l.length → vs[i]? = some (.int .i64 (l.getD i 0))
  | [], l, h, i, hi => by
    simp only [intsL, Option.some.injEq] at h
    subst h; simp at hi
  | v :: r, l, h, i, hi => by
    simp only [intsL] at h
    split at h
    · split at h
      · rename_i n l' hr
        simp only [Option.some.injEq] at h
        subst h
        cases i with
        | zero => rfl
        | succ i => simpa using intsL_get hr i (by simpa using hi)
      · cases h
    · cases h

theorem idxi_sound {t e : TypeId} {len : Nat} {x i : Operand} {K : SV → Prop} (ht : P.underlying t = some (.array len e)) (he : P.underlying e = some (.int .i64)) (hi : (P.info? e).isSome = true) (hs : P.cellsOf e = 1) (ha : Agree S a) (h : psem (.idxi len (src x) (src i)) S K) :
    ∃ s, K s ∧ ∀ w, (Instr.index t (a.eval x) (a.eval i)).run P w = .ok s.toV w := by
  simp only [psem] at h
  split at h
  · rename_i cs hx
    split at h
    · rename_i l hl
      obtain ⟨k, n, h1, h0, hn, hnl, h⟩ := withI_sound ha h
      refine ⟨_, h _ rfl, fun w => ?_⟩
      rw [ev_some ha hx, h1]
      have hg := intsL_get hl n.toNat (by omega)
      rw [Array.getElem?_toList] at hg
      have hag : (isAgg e).run P w = .ok false w := by simp [isAgg, run_underlying he]
      simp only [SV.toV, Instr.index, asIntOf, Sem.run_bind, Sem.run_pure, Result.andThen_ok, run_underlying ht]
      rw [if_pos ⟨h0, hn⟩]
      simp only [Sem.run_bind, run_sizeOf hi, Result.andThen_ok, part, hag, Bool.false_eq_true, if_false, hs, Nat.mul_one, hg, Sem.run_pure]
    · exact h.elim
  · exact h.elim

theorem fbin_sound {op : BinOp} {x y : Operand} {K : SV → Prop} (t : TypeId) (ha : Agree S a) (h : psem (.fbin op (src x) (src y)) S K) :
    ∃ s, K s ∧ ∀ w, (do eqGuard op t x y (a.eval x) (a.eval y); binOp op t (a.eval x) (a.eval y) : Sem Value).run P w = .ok s.toV w := by
  simp only [psem] at h
  obtain ⟨m, h1, h⟩ := withF_sound ha h
  obtain ⟨n, h2, h⟩ := withF_sound ha h
  rw [h1, h2]
  have hg : eqGuard op t x y (.float .f64 m) (.float .f64 n) = pure () := eqGuard_at_float ..
  simp only [hg, pure_bind]
  have hf : FloatKind.f64.format = Ieee.double := rfl
  cases op <;> simp only [binF] at h <;> first
    | exact h.elim
    | (obtain ⟨r, h3, h⟩ := h
       refine ⟨_, h, fun w => ?_⟩
       simp [binOp, Op.floatArith, hf, h3, SV.toV])
    | (refine ⟨_, h, fun w => ?_⟩
       simp only [binOp, Op.floatCmp, hf, ne_eq, not_true_eq_false, if_false, Sem.run_pure]
       rw [toV_p (b := _)]
       simp [FEq, FLt, FGt])

theorem order_none {a b : Nat} (h1 : ¬ FNan a) (h2 : ¬ FNan b) : Ieee.double.order a b ≠ none := by
  unfold FNan at h1 h2
  unfold Ieee.Format.order
  generalize Ieee.double.read a = x at *
  generalize Ieee.double.read b = y at *
  cases x <;> cases y <;> simp_all [Ieee.Datum.isNaN, Ieee.Datum.order]

theorem fmn_sound {ts : Array TypeId} {ty : TypeId} {x y : Operand} {K : SV → Prop} (ha : Agree S a) (h : psem (.fmn (src x) (src y)) S K) :
    ∃ s, K s ∧ ∀ w, (Builtin.min_ ts ty #[a.eval x, a.eval y]).run P w = .ok s.toV w := by
  simp only [psem] at h
  obtain ⟨m, h1, h⟩ := withF_sound ha h
  obtain ⟨n, h2, h3, h4, h⟩ := withF_sound ha h
  rw [h1, h2]
  refine ⟨_, h _ rfl, fun w => ?_⟩
  have hn := order_none h3 h4
  have hf : FloatKind.f64.format = Ieee.double := rfl
  have hd : ∀ x, FloatKind.f64.decode x = Ieee.double.read x := fun _ => rfl
  simp only [Builtin.min_, List.foldlM_cons, List.foldlM_nil, Builtin.min2, hf]
  unfold fMin
  cases ho : Ieee.double.order m n with
  | none => exact absurd ho hn
  | some o => cases o <;> simp [SV.toV, hd]

theorem i2f_sound {s d : TypeId} {k0 : IntKind} {x : Operand} {K : SV → Prop} (hs : P.underlying s = some (.int k0)) (hd : P.underlying d = some (.float .f64)) (ha : Agree S a) (h : psem (.i2f (src x)) S K) :
    ∃ v, K v ∧ ∀ w, (convert s d (a.eval x)).run P w = .ok v.toV w := by
  simp only [psem] at h
  obtain ⟨k, n, h1, h⟩ := withI_sound ha h
  refine ⟨_, h _ rfl, fun w => ?_⟩
  rw [h1]
  simp [convert, run_underlying hs, run_underlying hd, Conv.intToFloat, SV.toV]

theorem f2i_sound {s d : TypeId} {x : Operand} {K : SV → Prop} (hs : P.underlying s = some (.float .f64)) (hd : P.underlying d = some (.int .i64)) (ha : Agree S a) (h : psem (.f2i (src x)) S K) :
    ∃ v, K v ∧ ∀ w, (convert s d (a.eval x)).run P w = .ok v.toV w := by
  simp only [psem] at h
  obtain ⟨m, h1, n, h2, h3, h⟩ := withF_sound ha h
  refine ⟨_, h, fun w => ?_⟩
  rw [h1]
  have hx : FloatKind.f64.decode m = Ieee.double.read m := rfl
  have hb : IntKind.i64.min ≤ n ∧ n ≤ IntKind.i64.max := ⟨h3.1, h3.2⟩
  simp only [convert, run_underlying hs, run_underlying hd, Sem.run_bind, Result.andThen_ok, Conv.floatToInt, SV.toV, hx, h2]
  rw [if_pos hb]
  rfl

theorem f2f_sound {s d : TypeId} {x : Operand} {K : SV → Prop} (hs : P.underlying s = some (.float .f64)) (hd : P.underlying d = some (.float .f64)) (ha : Agree S a) (h : psem (.f2f (src x)) S K) :
    ∃ v, K v ∧ ∀ w, (convert s d (a.eval x)).run P w = .ok v.toV w := by
  simp only [psem] at h
  obtain ⟨m, h1, h⟩ := withF_sound ha h
  refine ⟨_, h, fun w => ?_⟩
  rw [h1]
  simp [convert, run_underlying hs, run_underlying hd, Conv.floatToFloat, SV.toV]

theorem no_next {fn : Func} {n : String} (hn : fn.name = n) (ho : fn.origin = "") (h1 : Extern.allNextRows.lookup n = none) (h2 : Extern.allNextRows.lookup "" = none) : Extern.findNext fn = none := by
  simp [Extern.findNext, hn, ho, h1, h2]

theorem a_row {fn : Func} {n : String} {r : Array Value → Sem Value} (hn : fn.name = n) (h1 : Extern.allGenericRows.lookup n = none) (h2 : Extern.allTypedRows.lookup n = none) (h3 : Extern.allRows.lookup n = some r) : Extern.find fn = some r := by
  simp [Extern.find, hn, h1, h2, h3]

theorem next_nil : Extern.allNextRows.lookup "" = none := by kernel_rfl
theorem bits_next : Extern.allNextRows.lookup "math.Float64bits" = none := by kernel_rfl
theorem bits_row1 : Extern.allGenericRows.lookup "math.Float64bits" = none := by kernel_rfl
theorem bits_row2 : Extern.allTypedRows.lookup "math.Float64bits" = none := by kernel_rfl
theorem bits_row3 : Extern.allRows.lookup "math.Float64bits" = some Extern.MathFloatBits.float64bits := by kernel_rfl
theorem from_next : Extern.allNextRows.lookup "math.Float64frombits" = none := by kernel_rfl
theorem from_row1 : Extern.allGenericRows.lookup "math.Float64frombits" = none := by kernel_rfl
theorem from_row2 : Extern.allTypedRows.lookup "math.Float64frombits" = none := by kernel_rfl
theorem from_row3 : Extern.allRows.lookup "math.Float64frombits" = some Extern.MathFloatBits.float64frombits := by kernel_rfl
theorem floor_next : Extern.allNextRows.lookup "math.archFloor" = none := by kernel_rfl
theorem floor_row1 : Extern.allGenericRows.lookup "math.archFloor" = none := by kernel_rfl
theorem floor_row2 : Extern.allTypedRows.lookup "math.archFloor" = none := by kernel_rfl
theorem floor_row3 : Extern.allRows.lookup "math.archFloor" = some (Extern.MathFloor.toIntegral "math.archFloor" .down) := by kernel_rfl

theorem ext_call {o : Oper} {f : FuncId} {x : Operand} {ts : Array TypeId} {fn : Func} {r : Array Value → Sem Value} (ho : o.op = .call { callee := .value (.func f), args := #[x], argTypes := ts })
    (hf : P.funcs[f]? = some fn) (hb : fn.body = none) (hn : (fn.name == "runtime.NumGoroutine") = false) (h1 : Extern.findNext fn = none) (h2 : Extern.find fn = some r) (w : World) :
    (execOp a.eval o).run P w = (do pure (.value (← r #[a.eval x])) : Sem Next).run P w := by
  simp only [execOp, ho, resolve, Sem.run_bind, Act.eval, Deferred.ofValue, Sem.run_pure, Result.andThen_ok, invoke, callFunc, run_program, hf, hn, hb, Bool.false_eq_true, if_false]
  simp [h1, h2, Act.eval]

theorem floor_at (nm : String) (way : Ieee.Toward) : ∃ N : Nat → Bool → Nat → Sem Value, ∀ m : Nat, Extern.MathFloor.toIntegral nm way #[.float .f64 m] =
    match FloatKind.f64.decode m with
    | .nan s t => N m s t
    | d => pure (.float .f64 (FloatKind.f64.encode (d.integral way))) :=
  ⟨_, fun _ => rfl⟩

theorem ext_fn_sound {o : Oper} {f : FuncId} {as : Array Operand} {ts : Array TypeId} {p : POp} {K : SV → Prop} (ho : o.op = .call { callee := .value (.func f), args := as, argTypes := ts })
    (hc : compX P f as.toList = some p) (ha : Agree S a) (h : psem p S K) : PSound P a o K := by
  obtain ⟨as⟩ := as
  unfold compX at hc
  split at hc
  · rename_i fn hf
    split at hc
    · cases hc
    · rename_i hb
      split at hc
      · rename_i x ho' hx horg
        simp only at hx
        subst hx
        have horg' : fn.origin = "" := by simpa using horg
        split at hc
        · rename_i hn
          have hn' : fn.name = "math.Float64bits" := by simpa using hn
          simp only [Option.some.injEq] at hc; subst hc
          simp only [psem] at h
          obtain ⟨m, h1, h⟩ := withF_sound ha h
          refine ⟨_, h, fun w => ?_⟩
          rw [ext_call ho hf hb (by rw [hn']; decide) (no_next hn' horg' bits_next next_nil) (a_row hn' bits_row1 bits_row2 bits_row3), h1]
          rfl
        · split at hc
          · rename_i hn
            have hn' : fn.name = "math.Float64frombits" := by simpa using hn
            simp only [Option.some.injEq] at hc; subst hc
            simp only [psem] at h
            obtain ⟨k, m, h1, h⟩ := withI_sound ha h
            split at h
            · refine ⟨_, h, fun w => ?_⟩
              rw [ext_call ho hf hb (by rw [hn']; decide) (no_next hn' horg' from_next next_nil) (a_row hn' from_row1 from_row2 from_row3), h1]
              rfl
            · exact h.elim
          · split at hc
            · rename_i hn
              have hn' : fn.name = "math.archFloor" := by simpa using hn
              simp only [Option.some.injEq] at hc; subst hc
              simp only [psem] at h
              obtain ⟨m, h1, h2, h⟩ := withF_sound ha h
              refine ⟨_, h _ rfl, fun w => ?_⟩
              rw [ext_call ho hf hb (by rw [hn']; decide) (no_next hn' horg' floor_next next_nil) (a_row hn' floor_row1 floor_row2 floor_row3), h1]
              have hd : FloatKind.f64.decode m = Ieee.double.read m := rfl
              unfold FNan at h2
              obtain ⟨N, hN⟩ := floor_at "math.archFloor" .down
              rw [hN, hd]
              generalize Ieee.double.read m = d at *
              cases d
              · rfl
              · rfl
              · exact absurd rfl h2
            · cases hc
      · cases hc
  · cases hc
end
end Go.Vc

namespace Go.Vc

section
variable {P : Program} {S : Sym} {a : Act}

theorem run_zeroValue {t : TypeId} {z : Value} (h : zeroOf P t = some z) (w : World) : (zeroValue t).run P w = .ok z w := by
  unfold zeroOf at h
  cases hi : P.info? t with
  | none => simp [hi] at h
  | some i =>
    simp only [hi, Option.bind_some] at h
    simp [zeroValue, typeInfo, hi, h]

theorem run_mapM_pure {α β : Type} (f : α → Sem β) (g : α → β) (w : World) : ∀ (l : List α), (∀ x ∈ l, (f x).run P w = .ok (g x) w) → (l.mapM f).run P w = .ok (l.map g) w
  | [], _ => by simp
  | x :: r, h => by
    simp [List.mapM_cons, h x (by simp), run_mapM_pure f g w r (fun y hy => h y (by simp [hy]))]

theorem compParts_info {fs : Array Field} : ∀ (parts : List (Nat × Operand)) (l : List (Nat × Nat × Src)), compParts P fs parts = some l → ∀ i x, (i, x) ∈ parts → ∃ f, fs[i]? = some f ∧ (P.info? f.type).isSome = true
  | [], _, _, i, x, h => by cases h
  | (j, y) :: r, l, hc, i, x, h => by
    simp only [compParts] at hc
    split at hc
    · rename_i f hf
      split at hc
      · rename_i inf hinf
        cases hr : compParts P fs r with
        | none => simp [hr] at hc
        | some l' =>
          rcases List.mem_cons.1 h with h | h
          · cases h; exact ⟨f, hf, by simp [hinf]⟩
          · exact compParts_info r l' hr i x h
      · cases hc
    · cases hc

theorem build_sound {t : TypeId} {z : Value} {fs : Array Field} {parts : Array (Nat × Operand)} {l : List (Nat × Nat × Src)} {K : SV → Prop} (ht : P.underlying t = some (.struct fs)) (hz : zeroOf P t = some z) (hall : allInfo P fs = true)
    (hc : compParts P fs parts.toList = some l) (ha : Agree S a) (h : psem (.build z.cells.toList l) S K) :
    ∃ s, K s ∧ ∀ w, (Instr.build t (parts.map fun (i, x) => (i, a.eval x))).run P w = .ok s.toV w := by
  simp only [psem] at h
  have hall' : ∀ f ∈ fs, (P.info? f.type).isSome = true := by
    intro f hf
    exact List.all_eq_true.1 hall f (by simpa using hf)
  obtain ⟨cs, h1, h2⟩ := filled_sound (P := P) ha fs (fs.map fun f => (f.offset, P.cellsOf f.type)) (fun i f hf _ => by simp [hf]) parts.toList l _ _ hc h
  refine ⟨_, h2, fun w => ?_⟩
  have hm : (fs.mapM fun f => do pure (f.offset, ← sizeOf f.type) : Sem (Array (Nat × Nat))).run P w = .ok (fs.map fun f => (f.offset, P.cellsOf f.type)) w := by
    have := run_mapM_pure (P := P) (fun f : Field => do pure (f.offset, ← sizeOf f.type)) (fun f => (f.offset, P.cellsOf f.type)) w fs.toList (fun f hf => by
      simp [run_sizeOf (hall' f (by simpa using hf))])
    rw [← Array.toArray_toList (xs := fs), List.mapM_toArray, Sem.run_map, this]
    simp only [Result.andThen_ok]
    congr 1
    apply Array.ext'
    simp
  simp only [Instr.build, Sem.run_bind, run_zeroValue hz, Result.andThen_ok, run_underlying ht, hm]
  have e : (parts.map fun (i, x) => (i, a.eval x)).toList = parts.toList.map fun (i, x) => (i, a.eval x) := by simp
  rw [e]
  simp only [Array.toArray_toList] at h1
  rw [h1]
  simp [SV.toV]

theorem psound_of {o : Oper} {K : SV → Prop} {x : Sem Value} (he : execOp a.eval o = (do pure (.value (← x)))) (h : ∃ s, K s ∧ ∀ w, x.run P w = .ok s.toV w) : PSound P a o K := by
  obtain ⟨s, hk, hx⟩ := h
  exact ⟨s, hk, fun w => by rw [he]; simp [hx w]⟩

theorem pure_sound {o : Oper} {p : POp} {K : SV → Prop} (hc : compP P o.op = some p) (ha : Agree S a) (h : psem p S K) : PSound P a o K := by
  obtain ⟨dst, op, type, pos, after, guard⟩ := o
  cases op with
  | move x =>
    simp only [compP, Option.some.injEq] at hc; subst hc
    obtain ⟨s, h1, h2⟩ := withS_sound ha h
    exact ⟨s, h2, fun w => by simp [execOp, h1]⟩
  | assign x =>
    simp only [compP, Option.some.injEq] at hc; subst hc
    obtain ⟨s, h1, h2⟩ := withS_sound ha h
    exact ⟨s, h2, fun w => by simp [execOp, h1]⟩
  | pick c x y =>
    simp only [compP, Option.some.injEq] at hc; subst hc
    simp only [psem] at h
    obtain ⟨s, h1, h2⟩ := withS_sound ha h
    obtain ⟨b, h3, h4⟩ := branch_sound h2
    cases b
    · obtain ⟨s', h5, h6⟩ := withS_sound ha h4
      exact ⟨s', h6, fun w => by simp [execOp, h1, h3, asBool, h5]⟩
    · obtain ⟨s', h5, h6⟩ := withS_sound ha h4
      exact ⟨s', h6, fun w => by simp [execOp, h1, h3, asBool, h5]⟩
  | binOp bop t x y ty =>
    simp only [compP] at hc
    split at hc
    · simp only [Option.some.injEq] at hc; subst hc; exact psound_of rfl (bin_sound t ha h)
    · simp only [Option.some.injEq] at hc; subst hc; exact psound_of rfl (bin_sound t ha h)
    · simp only [Option.some.injEq] at hc; subst hc; exact psound_of rfl (fbin_sound t ha h)
    · rename_i ht
      split at hc
      · simp only [Option.some.injEq] at hc; subst hc; exact psound_of rfl (beq_sound ht rfl ha h)
      · simp only [Option.some.injEq] at hc; subst hc; exact psound_of rfl (beq_sound ht rfl ha h)
      · cases hc
    · rename_i e ht
      split at hc
      · simp only [Option.some.injEq] at hc; subst hc; exact psound_of rfl (peq_sound ht rfl ha h)
      · simp only [Option.some.injEq] at hc; subst hc; exact psound_of rfl (peq_sound ht rfl ha h)
      · cases hc
    · rename_i e ht
      split at hc
      · simp only [Option.some.injEq] at hc; subst hc; exact psound_of rfl (leq_sound ht rfl ha h)
      · simp only [Option.some.injEq] at hc; subst hc; exact psound_of rfl (leq_sound ht rfl ha h)
      · cases hc
    · rename_i fs ht
      split at hc
      · rename_i hb
        simp only [Bool.and_eq_true, Bool.not_eq_true'] at hb
        split at hc
        · simp only [Option.some.injEq] at hc; subst hc; exact psound_of rfl (aeq_sound ht hb.1.1 hb.1.2 hb.2 rfl ha h)
        · simp only [Option.some.injEq] at hc; subst hc; exact psound_of rfl (aeq_sound ht hb.1.1 hb.1.2 hb.2 rfl ha h)
        · cases hc
      · cases hc
    · cases hc
  | unOp uop t x =>
    simp only [compP] at hc
    split at hc
    · simp only [Option.some.injEq] at hc; subst hc; exact psound_of rfl (not_sound ha h)
    · simp only [Option.some.injEq] at hc; subst hc; exact psound_of rfl (neg_sound ha h)
    · simp only [Option.some.injEq] at hc; subst hc; exact psound_of rfl (bnot_sound ha h)
    · cases hc
  | nilCheck x =>
    simp only [compP, Option.some.injEq] at hc; subst hc
    exact nilchk_sound rfl ha h
  | fieldAddr t x f =>
    simp only [compP] at hc
    split at hc
    · rename_i fs ht
      split at hc
      · rename_i fd hf
        split at hc
        · rename_i hb
          simp only [Bool.and_eq_true, Bool.not_eq_true'] at hb
          simp only [Option.some.injEq] at hc; subst hc
          exact psound_of rfl (faddr_sound ht hf hb.1 (fun h0 => by rw [h0] at hb; exact absurd hb.2 (by decide)) ha h)
        · cases hc
      · cases hc
    · cases hc
  | indexAddr t x i =>
    simp only [compP] at hc
    split at hc
    · rename_i e ht
      split at hc
      · rename_i hi
        simp only [Option.some.injEq] at hc; subst hc
        exact psound_of rfl (iaddr_sound ht hi ha h)
      · cases hc
    · rename_i n e ht
      split at hc
      · rename_i hi
        simp only [Option.some.injEq] at hc; subst hc
        exact psound_of rfl (aaddr_sound ht hi ha h)
      · cases hc
    · cases hc
  | field t x f =>
    simp only [compP] at hc
    split at hc
    · rename_i fs ht
      split at hc
      · rename_i fd hf
        split at hc
        · rename_i hg
          split at hc
          · rename_i hi
            simp only [Option.some.injEq] at hc; subst hc
            exact psound_of rfl (fld_sound ht hf (.inl ⟨rfl, hi, hg⟩) ha h)
          · cases hc
        · rename_i hg
          split at hc
          · rename_i hi
            simp only [Option.some.injEq] at hc; subst hc
            exact psound_of rfl (fld_sound ht hf (.inr ⟨rfl, by simp [scalarT, hg, hi]⟩) ha h)
          · cases hc
      · cases hc
    · cases hc
  | index t x i =>
    simp only [compP] at hc
    split at hc
    · rename_i ht
      simp only [Option.some.injEq] at hc; subst hc
      exact psound_of rfl (idxs_sound ht ha h)
    · rename_i n e ht
      split at hc
      · rename_i he
        split at hc
        · rename_i hb
          simp only [Bool.and_eq_true] at hb
          simp only [Option.some.injEq] at hc; subst hc
          exact psound_of rfl (idxi_sound ht he hb.1 (Nat.eq_of_beq_eq_true hb.2) ha h)
        · cases hc
      · cases hc
    · cases hc
  | extract x i =>
    simp only [compP, Option.some.injEq] at hc; subst hc
    exact psound_of rfl (ext_sound ha h)
  | convert s d x =>
    simp only [compP] at hc
    split at hc
    · rename_i h1 h2
      simp only [Option.some.injEq] at hc; subst hc
      exact psound_of rfl (conv_sound h1 h2 ha h)
    · rename_i h1 h2
      simp only [Option.some.injEq] at hc; subst hc
      exact psound_of rfl (i2f_sound h1 h2 ha h)
    · rename_i h1 h2
      simp only [Option.some.injEq] at hc; subst hc
      exact psound_of rfl (f2i_sound h1 h2 ha h)
    · rename_i h1 h2
      simp only [Option.some.injEq] at hc; subst hc
      exact psound_of rfl (f2f_sound h1 h2 ha h)
    · cases hc
  | slice t x lo hi m =>
    simp only [compP] at hc
    split at hc
    · rename_i e ht
      split at hc
      · rename_i hi'
        simp only [Option.some.injEq] at hc; subst hc
        exact psound_of rfl (slc_sound ht hi' ha h)
      · cases hc
    · rename_i ht
      split at hc
      · simp only [Option.some.injEq] at hc; subst hc
        exact psound_of rfl (slct_sound ht ha h)
      · cases hc
    · cases hc
  | build t parts =>
    simp only [compP] at hc
    split at hc
    · rename_i fs z ht hz
      split at hc
      · rename_i hall
        cases hr : compParts P fs parts.toList with
        | none => simp [hr] at hc
        | some l =>
          simp only [hr, Option.map_some, Option.some.injEq] at hc; subst hc
          exact psound_of rfl (build_sound ht hz hall hr ha h)
      · cases hc
    · rename_i n e z ht hz
      split at hc
      · rename_i hi
        simp only [Option.some.injEq] at hc; subst hc
        exact psound_of rfl (buildA_sound ht hz hi ha h)
      · cases hc
    · cases hc
  | makeFunc fn first cap =>
    simp only [compP, Option.some.injEq] at hc; subst hc
    simp only [psem] at h
    have h1 := withVs_sound ha cap.toList (withVs_sound ha first.toList h)
    refine ⟨_, h1, fun w => ?_⟩
    have e1 : Array.map a.eval first = (List.map a.eval first.toList).toArray := by apply Array.ext'; simp
    have e2 : Array.map a.eval cap = (List.map a.eval cap.toList).toArray := by apply Array.ext'; simp
    simp [execOp, Instr.makeFunc, SV.toV, e1, e2]
  | makeInterface t x =>
    simp only [compP] at hc
    split at hc
    · cases hc
    · rename_i d hd ht
      simp only [Option.some.injEq] at hc; subst hc
      simp only [psem] at h
      have h1 := withV_sound ha h
      refine psound_of rfl ⟨_, h1, fun w => ?_⟩
      simp only [Instr.makeInterface, Sem.run_bind, run_underlying ht, Result.andThen_ok]
      cases d <;> first | rfl | exact (hd _ rfl).elim
    · cases hc
  | call c =>
    obtain ⟨callee, as, ts⟩ := c
    cases callee with
    | value f =>
      cases f with
      | func f =>
        simp only [compP] at hc
        exact ext_fn_sound rfl hc ha h
      | _ => simp [compP] at hc
    | invoke r m => simp [compP] at hc
    | builtin b =>
      obtain ⟨as⟩ := as
      obtain ⟨ts⟩ := ts
      simp only [compP] at hc
      split at hc
      · rename_i x t
        split at hc
        · rename_i e ht
          simp only [Option.some.injEq] at hc; subst hc
          exact psound_of (by simp [execOp, resolve, invoke, builtin]) (lens_sound (ty := type) ht ha h)
        · rename_i ht
          simp only [Option.some.injEq] at hc; subst hc
          exact psound_of (by simp [execOp, resolve, invoke, builtin]) (lent_sound (ty := type) ht ha h)
        · cases hc
      · rename_i x y _
        simp only [Option.some.injEq] at hc; subst hc
        exact psound_of (by simp [execOp, resolve, invoke, builtin]) (mx_sound (ts := ts.toArray) (ty := type) ha h)
      · rename_i x y t t2
        split at hc
        · rename_i ht
          simp only [Option.some.injEq] at hc; subst hc
          exact psound_of (by simp [execOp, resolve, invoke, builtin]) (fmn_sound (ts := #[t, t2]) (ty := type) ha h)
        · simp only [Option.some.injEq] at hc; subst hc
          exact psound_of (by simp [execOp, resolve, invoke, builtin]) (mn_sound (ts := #[t, t2]) (ty := type) ha h)
      · cases hc
  | _ => simp [compP] at hc
end
end Go.Vc

namespace Go.Vc

theorem cell_eq (w : World) (b o : Nat) : w.cell? ⟨b, o, none⟩ = hcell w.heap b o := by
  unfold World.cell? hcell
  cases w.heap[b]? with
  | none => rfl
  | some x => cases x <;> simp

theorem frozen_eq (w : World) (b o : Nat) : w.frozen? ⟨b, o, none⟩ = hfrozen w.heap b o := by
  unfold World.frozen? hfrozen
  cases w.heap[b]? with
  | none => rfl
  | some x => cases x <;> rfl

theorem ex1_sound {z : Value} {K : Value → Prop} (h : ex1 z K) : ∃ v, K v := by
  cases z <;> simp only [ex1] at h <;> first
    | (obtain ⟨n, h⟩ := h; exact ⟨_, h⟩)
    | (obtain ⟨n, m, q, h⟩ := h; exact ⟨_, h⟩)

theorem isL_cons {H : Heap} {b o : Nat} {v : Value} {r : List Value} : isL H b o (v :: r) ↔ hcell H b o = some v ∧ isL H b (o + 1) r := by
  cases r <;> simp [isL]

theorem isL_get {H : Heap} {b : Nat} : ∀ {vs : List Value} {o : Nat}, isL H b o vs → ∀ j v, vs[j]? = some v → hcell H b (o + j) = some v
  | [], _, _, j, v, h => by simp at h
  | u :: r, o, hl, 0, v, h => by simp at h; subst h; exact (isL_cons.1 hl).1
  | u :: r, o, hl, j + 1, v, h => by
    have := isL_get (isL_cons.1 hl).2 j v (by simpa using h)
    rwa [show o + (j + 1) = o + 1 + j by omega]

theorem exL_sound {H : Heap} {b : Nat} : ∀ {z : List Value} {o : Nat} {K : List Value → Prop}, exL H b z o K → ∃ vs, vs.length = z.length ∧ isL H b o vs ∧ K vs
  | [], _, _, h => ⟨[], rfl, trivial, h⟩
  | z :: r, o, K, h => by
    simp only [exL] at h
    obtain ⟨v, hv, h⟩ := ex1_sound h
    obtain ⟨vs, h1, h2, h3⟩ := exL_sound h
    exact ⟨v :: vs, by simp [h1], isL_cons.2 ⟨hv, h2⟩, h3⟩

section
variable {P : Program} {S : Sym} {a : Act}

theorem run_loadCells_isL {w : World} {b o : Nat} {vs : List Value} (h : isL w.heap b o vs) : (loadCells ⟨b, o, none⟩ vs.length).run P w = .ok vs.toArray w :=
  run_loadCells_list (P := P) w ⟨b, o, none⟩ vs (fun j v hj => by rw [Addr.add_lit, cell_eq]; exact isL_get h j v hj)

theorem run_isAgg (t : TypeId) {d : TypeDesc} (ht : P.underlying t = some d) (w : World) : (isAgg t).run P w = .ok (isAggT P t) w := by
  unfold isAggT
  cases d <;> simp [isAgg, run_underlying ht, ht]

theorem pushes : ∀ (l : List UInt8) (s : ByteArray), (l.map fun b : UInt8 => (b.toNat : Int)).foldl (fun r n => r.push (UInt8.ofNat n.toNat)) s = ⟨s.data ++ l.toArray⟩
  | [], s => by cases s; simp
  | b :: l, s => by
    simp only [List.map_cons, List.foldl_cons]
    rw [pushes l]
    have : UInt8.ofNat (Int.toNat ((b.toNat : Nat) : Int)) = b := by simp
    rw [this]
    simp [ByteArray.push]

theorem read_sound {o : Oper} {r : ROp} {H : Heap} {K : SV → (Heap → Prop) → Prop} (hc : compR P o.op = some r) (ha : Agree S a) (h : rsem r S H K) :
    ∃ s φ, K s φ ∧ φ H ∧ ∀ w : World, φ w.heap → (execOp a.eval o).run P w = .ok (.value s.toV) w := by
  obtain ⟨dst, op, type, pos, after, guard⟩ := o
  cases op with
  | load t x =>
    simp only [compR] at hc
    have key : ∀ (z : List Value) (ag : Bool), (ag = true → (P.info? t).isSome = true ∧ isAggT P t = true ∧ z.length = P.cellsOf t) → (ag = false → z.length = 1 ∧ isAggT P t = false) → (∃ d, P.underlying t = some d) → rsem (.load z ag (src x)) S H K →
        ∃ s φ, K s φ ∧ φ H ∧ ∀ w : World, φ w.heap → (Instr.loadAt t (a.eval x)).run P w = .ok s.toV w := by
      intro z ag h1 h2 ⟨d, hd⟩ h
      simp only [rsem] at h
      split at h
      · rename_i b q he
        obtain ⟨vs, hl, hi, h⟩ := exL_sound h
        cases ag with
        | true =>
          obtain ⟨e1, e2, e3⟩ := h1 rfl
          refine ⟨_, _, h, hi, fun w hw => ?_⟩
          rw [ev_some ha he]
          simp only [SV.toV, Instr.loadAt, Instr.sureAddr, pure_bind, loadVar, Sem.run_bind, run_isAgg t hd, e2, Result.andThen_ok, if_true, run_sizeOf e1, Sem.run_pure]
          rw [← e3, ← hl, run_loadCells_isL hw]
          rfl
        | false =>
          obtain ⟨e1, e2⟩ := h2 rfl
          match vs, hl, h, hi with
          | [v], _, h, hi =>
            refine ⟨_, _, h, hi, fun w hw => ?_⟩
            rw [ev_some ha he]
            simp only [isL] at hw
            have hcell := hw.1
            rw [← cell_eq] at hcell
            simp only [SV.toV, Instr.loadAt, Instr.sureAddr, pure_bind, loadVar, Sem.run_bind, run_isAgg t hd, e2, Result.andThen_ok, Bool.false_eq_true, if_false, run_load, hcell]
          | [], hl, _, _ => rw [e1] at hl; cases hl
          | _ :: _ :: _, hl, _, _ => rw [e1] at hl; simp at hl
      · exact h.elim
    have fin : (∃ s φ, K s φ ∧ φ H ∧ ∀ w : World, φ w.heap → (Instr.loadAt t (a.eval x)).run P w = .ok s.toV w) → ∃ s φ, K s φ ∧ φ H ∧ ∀ w : World, φ w.heap → (execOp a.eval { dst := dst, op := .load t x, type := type, pos := pos, after := after, guard := guard }).run P w = .ok (.value s.toV) w := by
      rintro ⟨s, φ, h1, h2, h3⟩
      exact ⟨s, φ, h1, h2, fun w hw => by simp [execOp, h3 w hw]⟩
    refine fin ?_
    have hinfo : ∀ z, zeroOf P t = some z → (P.info? t).isSome = true := by
      intro z hz
      unfold zeroOf at hz
      cases hi : P.info? t with
      | none => simp [hi] at hz
      | some i => rfl
    split at hc
    · rename_i z fs hz hu
      split at hc
      · rename_i hb
        simp only [Option.some.injEq] at hc; subst hc
        exact key _ _ (fun _ => ⟨hinfo _ hz, by simp [isAggT, hu], Nat.eq_of_beq_eq_true hb⟩) (fun e => by cases e) ⟨_, hu⟩ h
      · cases hc
    · rename_i z n fs hz hu
      split at hc
      · rename_i hb
        simp only [Option.some.injEq] at hc; subst hc
        exact key _ _ (fun _ => ⟨hinfo _ hz, by simp [isAggT, hu], Nat.eq_of_beq_eq_true hb⟩) (fun e => by cases e) ⟨_, hu⟩ h
      · cases hc
    · rename_i z d hd1 hd2 hz hu
      simp only [Option.some.injEq] at hc; subst hc
      refine key _ _ (fun e => by cases e) (fun _ => ⟨rfl, ?_⟩) ⟨_, hu⟩ h
      unfold isAggT
      rw [hu]
      cases d <;> first | rfl | exact (hd1 _ rfl).elim | exact (hd2 _ _ rfl).elim
    · cases hc
  | convert s d x =>
    simp only [compR] at hc
    split at hc
    · rename_i e hs hd
      split at hc
      · rename_i hue
        simp only [Option.some.injEq] at hc; subst hc
        simp only [rsem] at h
        split at h
        · rename_i p n m he
          obtain ⟨l, hr, hk⟩ := h
          refine ⟨_, _, hk, hr, fun w hw => ?_⟩
          have hgoal : (Conv.bytesToString (.slice p n m)).run P w = .ok (.string ⟨l.toArray⟩) w := by
            obtain ⟨hlen, hw⟩ := hw
            cases p with
            | none =>
              simp only [List.map_eq_nil_iff] at hw
              subst hw
              rfl
            | some ad =>
              obtain ⟨b, q, sp⟩ := ad
              simp only at hw
              obtain ⟨hsp, hw⟩ := hw
              have hlc := run_loadCells_list (P := P) w ⟨b, q, sp⟩ (l.map fun b => .int .u8 b.toNat) (fun j v hj => by
                rcases hsp with he | rfl
                · rw [he] at hj; simp at hj
                · rw [Addr.add_lit, cell_eq]; exact hw j v hj)
              rw [hlen, Nat.mul_one] at hlc
              have hm : (l.map fun b : UInt8 => Value.int .u8 b.toNat) = (l.map fun b : UInt8 => (b.toNat : Int)).map (Value.int .u8) := by simp [Function.comp_def]
              rw [hm] at hlc
              rw [run_bytesToString w _ _ _ _ hlc, pushes l]
              simp
          simp only [execOp, convert, Sem.run_bind, run_underlying hs, run_underlying hd, run_underlying hue, Result.andThen_ok, ev_some ha he, SV.toV, hgoal, Sem.run_pure]
        · exact h.elim
      · cases hc
    · cases hc
  | _ => simp [compR] at hc
end
end Go.Vc

namespace Go.Vc

theorem Sim.refl (w : World) : Sim w w := ⟨rfl, rfl, rfl⟩
theorem Sim.trans {a b c : World} (h : Sim a b) (k : Sim b c) : Sim a c := ⟨k.os.trans h.os, k.tape.trans h.tape, k.output.trans h.output⟩

theorem oneP_sound {v : Value} {K : Prop} (h : oneP v K) : v.oneCell' = true ∧ K := by
  cases v <;> simp_all [oneP, Value.oneCell']

theorem onesP_sound : ∀ {vs : List Value} {K : Prop}, onesP vs K → (∀ v ∈ vs, v.oneCell' = true) ∧ K
  | [], K, h => ⟨by simp, h⟩
  | v :: r, K, h => by
    obtain ⟨h1, h2⟩ := oneP_sound h
    obtain ⟨h3, h4⟩ := onesP_sound h2
    exact ⟨by simpa using ⟨h1, h3⟩, h4⟩

theorem heap_setCell (w : World) (b o : Nat) (v : Value) : (w.setCell ⟨b, o, none⟩ v).heap = hset w.heap b o v := by
  unfold World.setCell hset
  simp only [Option.isSome_none, Bool.false_eq_true, if_false]
  rfl

theorem heap_setCells (b : Nat) : ∀ (vs : List Value) (o : Nat) (w : World), (w.setCells b o vs).heap = hsets w.heap b o vs ∧ Sim w (w.setCells b o vs)
  | [], _, w => ⟨rfl, Sim.refl w⟩
  | v :: r, o, w => by
    obtain ⟨h1, h2⟩ := heap_setCells b r (o + 1) (w.setCell ⟨b, o, none⟩ v)
    refine ⟨?_, Sim.trans (b := w.setCell ⟨b, o, none⟩ v) ⟨rfl, rfl, rfl⟩ h2⟩
    rw [World.setCells, h1, heap_setCell, hsets]

theorem Cells_get {H : Heap} {b : Nat} : ∀ {n o : Nat}, Cells H b o n → ∀ j, j < n → Cell H b (o + j)
  | 0, _, _, j, h => absurd h (by omega)
  | n + 1, o, hc, 0, _ => hc.1
  | n + 1, o, hc, j + 1, h => by
    have := Cells_get hc.2 j (by omega)
    rwa [show o + (j + 1) = o + 1 + j by omega]

section
variable {P : Program} {S : Sym} {a : Act}

theorem run_storeCells_H {w : World} {b o : Nat} {vs : List Value} (hc : Cells w.heap b o vs.length) (h1 : ∀ v ∈ vs, v.oneCell' = true) :
    (storeCells ⟨b, o, none⟩ vs 0).run P w = .ok () (w.setCells b o vs) := by
  have := run_storeCells_cells (P := P) b o vs 0 w (fun j hj => by
      obtain ⟨⟨v, hv⟩, _⟩ := Cells_get hc j hj
      rw [Nat.add_zero, cell_eq, hv]; rfl) (fun j hj => by rw [Nat.add_zero, frozen_eq]; exact (Cells_get hc j hj).2) h1
  simpa using this

theorem run_firstCells_S {w : World} {size n : Nat} {v : Value} {xs : List Value} (h : SRow w.heap size n v xs) (hn : vlen v = n) : (Builtin.firstCells size n v).run P w = .ok xs.toArray w := by
  obtain ⟨hl, h⟩ := h
  match v, hn, h with
  | .string s, hn, h =>
    simp only at h
    subst h
    subst hn
    simp only [Builtin.firstCells, vlen, Sem.run_pure]
    congr 1
    apply Array.ext'
    have : (s.extract 0 s.size) = s := by simp
    simp [this]
  | .slice p len cap, hn, h =>
    cases p with
    | none => simp only at h; subst h; rfl
    | some ad =>
      obtain ⟨b, o, sp⟩ := ad
      simp only at h
      obtain ⟨hs, h⟩ := h
      refine run_firstCells_some (P := P) w size n ⟨b, o, sp⟩ len cap xs hl (fun j v hj => ?_)
      rcases hs with rfl | rfl
      · simp at hj
      · rw [Addr.add_lit, cell_eq]; exact h j v hj

theorem range_periodic (l : Nat) (f : Nat → Value) (hf : ∀ i, f (l + i) = f i) : ∀ c, (List.range (c * l)).map f = (List.replicate c ((List.range l).map f)).flatten
  | 0 => by simp
  | c + 1 => by
    rw [Nat.succ_mul, Nat.add_comm, List.range_add, List.map_append, List.map_map, List.replicate_succ, List.flatten_cons, ← range_periodic l f hf c]
    congr 1
    apply List.map_congr_left
    intro i _
    exact hf i

theorem zero_cells (z : List Value) (c : Nat) : (Array.range (c * z.length)).map (fun i => z.toArray[i % z.toArray.size]!) = ((List.replicate c z).flatten).toArray := by
  apply Array.ext'
  simp only [Array.toList_map, Array.toList_range]
  rw [range_periodic z.length (fun i => z.toArray[i % z.toArray.size]!) (fun i => by simp) c]
  congr 2
  apply List.ext_getElem
  · simp
  · intro i h1 h2
    simp only [List.length_map, List.length_range] at h1
    simp [Nat.mod_eq_of_lt h1, h1]

theorem mk_cells (size : Nat) (z : List Value) (c : Nat) (h : z.length = size) : mkCells size z c = (List.replicate c z).flatten := by
  subst h
  match z with
  | [] => rfl
  | [v] => simp [mkCells]
  | _ :: _ :: _ => rfl

end
end Go.Vc

namespace Go.Vc

section
variable {P : Program} {S : Sym} {a : Act}

/-- What an operation that turns the heap must do. -/
def ESound (P : Program) (a : Act) (o : Oper) (w : World) (K : SV → Heap → Prop) : Prop :=
  ∀ (next : Act → World → Prop) (Q : Exit → Act → World → Prop), (∀ s w', Sim w w' → K s w'.heap → next (a.put o.dst s.toV) w') → o.wp P a w next Q

theorem esound_val {o : Oper} {w : World} {K : SV → Heap → Prop} {x : Sem Value} (he : execOp a.eval o = (do pure (.value (← x)))) {s : SV} {w' : World} (hx : x.run P w = .ok s.toV w') (hs : Sim w w') (hk : K s w'.heap) : ESound P a o w K := by
  intro next Q hn
  unfold Oper.wp
  rw [he]
  simp only [Sem.run_bind, hx, Result.andThen_ok, Sem.run_pure, Oper.upon]
  exact hn s w' hs hk

theorem esound_unit {o : Oper} {w : World} {K : SV → Heap → Prop} {x : Sem Unit} (he : execOp a.eval o = (do x; pure .skip)) {w' : World} (hx : x.run P w = .ok () w') (hs : Sim w w') (hk : K (.v undef) w'.heap) : ESound P a o w K := by
  intro next Q hn
  unfold Oper.wp
  rw [he]
  simp only [Sem.run_bind, hx, Result.andThen_ok, Sem.run_pure, Oper.upon]
  exact hn (.v undef) w' hs hk

theorem sim_alloc (w : World) (o : Obj) : Sim w (w.alloc o) := ⟨rfl, rfl, rfl⟩

theorem run_newRow (e : TypeId) (cs : Array Value) (w : World) : (newRow e cs).run P w = .ok ⟨w.heap.size, 0, none⟩ (w.alloc (.cells cs e)) := by
  rfl

theorem info_of_zero {t : TypeId} {z : Value} {i : TypeInfo} (hz : zeroOf P t = some z) (hi : P.info? t = some i) : i.zero = some z := by
  simpa [zeroOf, hi] using hz

theorem store_sound {o : Oper} {t : TypeId} {x v : Operand} {i : TypeInfo} {w : World} {K : SV → Heap → Prop} (ho : o.op = .store t x v) (hi : P.info? t = some i) (ha : Agree S a)
    (h : esem P (.store i.size (src x) (src v)) S w.heap K) : ESound P a o w K := by
  simp only [esem] at h
  split at h
  · rename_i b q he
    have h := withV_sound ha h
    split at h
    · rename_i hsz
      have hsz' := Nat.eq_of_beq_eq_true hsz
      obtain ⟨h1, hc, h⟩ := onesP_sound h
      obtain ⟨e1, e2⟩ := heap_setCells b (a.eval v).cells.toList q w
      refine esound_unit (x := Instr.storeAt t (a.eval x) (a.eval v)) (by simp [execOp, ho]) (w' := w.setCells b q (a.eval v).cells.toList) ?_ e2 (by rw [e1]; exact h _ rfl)
      rw [ev_some ha he]
      have hs : (sizeOf t).run P w = .ok i.size w := by simp [sizeOf, typeInfo, hi]
      simp only [SV.toV, Instr.storeAt, Instr.sureAddr, pure_bind, storeVar, Sem.run_bind, hs, Result.andThen_ok]
      simp only [Array.length_toList] at hsz'
      rw [if_neg (by simpa using hsz')]
      exact run_storeCells_H (by simpa [hsz'] using hc) h1
    · exact h.elim
  · exact h.elim

theorem box_sound {o : Oper} {e : TypeId} {x : Operand} {w : World} {K : SV → Heap → Prop} (ho : o.op = .box e x) (ha : Agree S a) (h : esem P (.box e (src x)) S w.heap K) : ESound P a o w K := by
  simp only [esem] at h
  have h := withV_sound ha h
  refine esound_val (x := Instr.box e (a.eval x)) (by simp [execOp, ho]) (s := .v (.pointer (some ⟨w.heap.size, 0, none⟩))) (w' := w.alloc (.cells (a.eval x).cells e)) ?_ (sim_alloc _ _) (h _ _ ⟨rfl, rfl⟩)
  simp [Instr.box, newVar, run_newRow, SV.toV]

theorem alloc_sound {o : Oper} {e : TypeId} {z : Value} {w : World} {K : SV → Heap → Prop} (ho : o.op = .alloc e) (hz : zeroOf P e = some z) (h : esem P (.alloc e z.cells.toList) S w.heap K) : ESound P a o w K := by
  simp only [esem] at h
  refine esound_val (x := Instr.alloc e true (.tuple #[])) (by simp [execOp, ho]) (s := .v (.pointer (some ⟨w.heap.size, 0, none⟩))) (w' := w.alloc (.cells z.cells e)) ?_ (sim_alloc _ _) (h _ _ ⟨rfl, rfl⟩)
  simp [Instr.alloc, run_zeroValue hz, newVar, run_newRow, SV.toV]

theorem bslice_sound {o : Oper} {t e : TypeId} {len : Nat} {parts : Array (Nat × Operand)} {z : Value} {i : TypeInfo} {w : World} {K : SV → Heap → Prop} (ho : o.op = .buildSlice t len parts) (ht : P.underlying t = some (.slice e))
    (hz : zeroOf P e = some z) (hi : P.info? e = some i) (hs : i.size = z.cells.toList.length) (h0 : i.size ≠ 0) (hb : len * i.size ≤ 65536) (ha : Agree S a)
    (h : esem P (.bslice e i.size len z.cells.toList (compParts' i.size parts.toList)) S w.heap K) : ESound P a o w K := by
  simp only [esem] at h
  rw [mk_cells i.size z.cells.toList len hs.symm] at h
  obtain ⟨cs, h1, h2⟩ := filled'_sound ha i.size parts.toList _ _ h
  refine esound_val (x := Instr.buildSlice t len (parts.map fun (i, x) => (i, a.eval x))) (by simp [execOp, ho]) (s := .v (.slice (some ⟨w.heap.size, 0, none⟩) len len)) (w' := w.alloc (.cells cs e)) ?_ (sim_alloc _ _) (by
    have := h2 w.heap.size _ ⟨rfl, rfl⟩
    rw [Array.toArray_toList] at this
    exact this)
  have hsz : (sizeOf e).run P w = .ok i.size w := by simp [sizeOf, typeInfo, hi]
  have e1 : (parts.map fun (i, x) => (i, a.eval x)).toList = parts.toList.map fun (i, x) => (i, a.eval x) := by simp
  simp only [Instr.buildSlice, Sem.run_bind, run_underlying ht, Result.andThen_ok, hsz]
  rw [if_neg (by omega)]
  have hzs : z.cells.size = i.size := by rw [hs]; simp
  by_cases hn : len * i.size = 0
  · have hl : len = 0 := by
      rcases Nat.mul_eq_zero.1 hn with h | h
      · exact h
      · exact absurd h h0
    subst hl
    simp only [Nat.zero_mul, if_true, Sem.run_bind, Sem.run_pure, Result.andThen_ok, e1]
    simp only [List.replicate_zero, List.flatten_nil] at h1
    have : (Array.map (fun x => (#[] : Array Value)[x % (#[] : Array Value).size]!) (Array.range 0)) = ([] : List Value).toArray := by simp
    rw [this, h1]
    simp [run_newRow, SV.toV]
  · rw [if_neg hn]
    simp only [Sem.run_bind, run_zeroValue hz, Sem.run_pure, Result.andThen_ok, e1]
    have := zero_cells z.cells.toList len
    rw [← hs] at this
    simp only [Array.toArray_toList] at this
    rw [this, h1]
    simp [run_newRow, SV.toV]

theorem mkslice_sound {o : Oper} {t e : TypeId} {l c : Operand} {z : Value} {i : TypeInfo} {w : World} {K : SV → Heap → Prop} (ho : o.op = .makeSlice t l c) (ht : P.underlying t = some (.slice e))
    (hz : zeroOf P e = some z) (hi : P.info? e = some i) (hs : i.size = z.cells.toList.length) (h0 : i.size ≠ 0) (h0' : i.bytes ≠ 0) (ha : Agree S a)
    (h : esem P (.mkslice e i.size i.bytes z.cells.toList (src l) (src c)) S w.heap K) : ESound P a o w K := by
  simp only [esem] at h
  obtain ⟨k, ln, e1, h⟩ := withI_sound ha h
  obtain ⟨k', cn, e2, hl0, hlc, hcb, h⟩ := withI_sound ha h
  rw [mk_cells i.size z.cells.toList cn.toNat hs.symm] at h
  refine esound_val (x := Instr.makeSlice t (a.eval l) (a.eval c)) (by simp [execOp, ho]) (s := .v (.slice (some ⟨w.heap.size, 0, none⟩) ln.toNat cn.toNat)) (w' := w.alloc (.cells ((List.replicate cn.toNat z.cells.toList).flatten).toArray e)) ?_ (sim_alloc _ _) (h _ _ ⟨rfl, rfl⟩)
  have hb1 : (1 : Int) ≤ i.bytes := by omega
  have hcn : cn ≤ 281474976710656 := by
    have : 1 * cn ≤ i.bytes * cn := Int.mul_le_mul_of_nonneg_right hb1 (by omega)
    omega
  have w1 : IntKind.i64.wrap ln = ln := wrap_of_in64 ⟨by omega, by omega⟩
  have w2 : IntKind.i64.wrap cn = cn := wrap_of_in64 ⟨by omega, by omega⟩
  have hsz : (sizeOf e).run P w = .ok i.size w := by simp [sizeOf, typeInfo, hi]
  have hti : (typeInfo e).run P w = .ok i w := by simp [typeInfo, hi]
  have p48 : (2 : Int) ^ 48 = 281474976710656 := by decide
  simp only [Instr.makeSlice, e1, e2, asInt, asIntOf, pure_bind, Sem.run_bind, run_underlying ht, Result.andThen_ok, hti, w1, w2, p48]
  rw [if_neg (by simp; omega)]
  simp only [Sem.run_bind, run_askRoom, Result.andThen_ok, hsz]
  by_cases hn : cn.toNat * i.size = 0
  · have hl : cn.toNat = 0 := by
      rcases Nat.mul_eq_zero.1 hn with h | h
      · exact h
      · exact absurd h h0
    rw [if_pos hn, hl]
    simp only [Nat.zero_mul, Sem.run_bind, Sem.run_pure, Result.andThen_ok, run_newRow, SV.toV, List.replicate_zero, List.flatten_nil]
    have : (Array.map (fun x => (#[] : Array Value)[x % (#[] : Array Value).size]!) (Array.range 0)) = #[] := by simp
    rw [this]
  · rw [if_neg hn]
    simp only [Sem.run_bind, run_zeroValue hz, Sem.run_pure, Result.andThen_ok, run_newRow, SV.toV]
    have := zero_cells z.cells.toList cn.toNat
    rw [← hs] at this
    simp only [Array.toArray_toList] at this
    rw [this]

theorem app_cells (zs : List Value) (n : Nat) : Builtin.zeroCells zs.toArray n = ((List.replicate n zs).flatten).toArray := by
  unfold Builtin.zeroCells
  exact zero_cells zs n

theorem run_lenOf {H : Heap} {size n : Nat} {v : Value} {xs : List Value} (h : SRow H size n v xs) (w : World) : (Builtin.lenOf v).run P w = .ok (vlen v) w := by
  have h := h.2
  match v, h with
  | .string s, _ => rfl
  | .slice p len cap, _ => rfl

theorem app_sound {o : Oper} {t t' e : TypeId} {d : TypeDesc} {s x : Operand} {z : Value} {i : TypeInfo} {w : World} {K : SV → Heap → Prop} (ho : o.op = .call { callee := .builtin .append, args := #[s, x], argTypes := #[t, t'] })
    (ht : P.underlying t = some (.slice e)) (ht' : P.underlying t' = some d) (hd : (∃ e', d = .slice e') ∨ d = .string) (hz : zeroOf P e = some z) (hi : P.info? e = some i) (h0' : i.bytes ≠ 0) (ha : Agree S a)
    (h : esem P (.app e i.size i.bytes z.cells.toList (src s) (src x)) S w.heap K) : ESound P a o w K := by
  simp only [esem] at h
  split at h
  · rename_i p len cap he
    have h := withV_sound ha h
    have he' := ev_some ha he
    simp only [SV.toV] at he'
    generalize hv : a.eval x = v at *
    obtain ⟨old, news, hro, hrn, hone, hbytes, hroom, h⟩ := h
    have hlen : ∀ w, (Builtin.lenOf v).run P w = .ok (vlen v) w := run_lenOf hrn
    have hex : execOp a.eval o = (do pure (.value (← Builtin.append_ #[t, t'] o.type #[.slice p len cap, v]))) := by
      simp [execOp, ho, resolve, invoke, builtin, he', hv]
    have hb1 : (1 : Nat) ≤ i.bytes := by omega
    have hneed : len + vlen v ≤ 140737488355328 := Nat.le_trans (Nat.le_mul_of_pos_right _ hb1) hbytes
    have hsz : ∀ w, (sizeOf e).run P w = .ok i.size w := fun w => by simp [sizeOf, typeInfo, hi]
    have hti : ∀ w, (typeInfo e).run P w = .ok i w := fun w => by simp [typeInfo, hi]
    have hfn := run_firstCells_S (P := P) hrn rfl
    by_cases hle : len + vlen v ≤ cap
    · -- there is room
      cases p with
      | none =>
        refine esound_val hex (s := .v (.slice none (len + vlen v) cap)) (w' := w) ?_ (Sim.refl w) (h _ _ _ (.inl ⟨hle, rfl, rfl, rfl⟩))
        rcases hd with ⟨e', rfl⟩ | rfl <;> simp [Builtin.append_, SV.toV, run_underlying ht, run_underlying ht', hsz, hlen, hle, hfn]
      | some ad =>
        obtain ⟨b, q, sp⟩ := ad
        obtain ⟨hsp, hcs⟩ := hroom hle
        simp only at hsp hcs
        subst hsp
        obtain ⟨e1, e2⟩ := heap_setCells b news (q + len * i.size) w
        refine esound_val hex (s := .v (.slice (some ⟨b, q, none⟩) (len + vlen v) cap)) (w' := w.setCells b (q + len * i.size) news) ?_ e2 (by rw [e1]; exact h _ _ _ (.inl ⟨hle, rfl, rfl, rfl⟩))
        have hst := run_storeCells_H (P := P) (w := w) (b := b) (o := q + len * i.size) (vs := news) (by rw [hrn.1]; exact hcs) hone
        rcases hd with ⟨e', rfl⟩ | rfl <;> simp [Builtin.append_, SV.toV, run_underlying ht, run_underlying ht', hsz, hlen, hle, hfn, Addr.add_lit, hst]
    · -- there is none
      have hge := grownCap_ge w (len + vlen v) cap e
      have hcm : grownCap w (len + vlen v) cap e ≤ maxLen := grownCap_le_maxLen w (len + vlen v) cap e (by unfold maxLen; omega)
      refine esound_val hex (s := .v (.slice (some ⟨w.heap.size, 0, none⟩) (len + vlen v) (grownCap w (len + vlen v) cap e)))
        (w' := w.drew.alloc (.cells (old ++ news ++ (List.replicate (grownCap w (len + vlen v) cap e - (len + vlen v)) z.cells.toList).flatten).toArray e)) ?_ ⟨rfl, rfl, rfl⟩
        (h _ _ _ (.inr ⟨by omega, rfl, hge, hcm, rfl⟩))
      have hfo' := run_firstCells_S (P := P) (w := w.drew) (v := .slice p len cap) hro rfl
      have hfn' := run_firstCells_S (P := P) (w := w.drew) (v := v) hrn rfl
      have hzc := app_cells z.cells.toList (grownCap w (len + vlen v) cap e - (len + vlen v))
      rw [Array.toArray_toList] at hzc
      have h63 : ¬ (9223372036854775807 < ((len : Int) + (vlen v : Int))) := by omega
      have h48 : ¬ (281474976710656 < Builtin.nextslicecap (len + vlen v) cap * i.bytes) := by
        have := growslice_fits (need := len + vlen v) (old := cap) (bytes := i.bytes) (by omega) hbytes
        omega
      simp only [grownCap] at hzc
      rcases hd with ⟨e', rfl⟩ | rfl <;> simp [Builtin.append_, SV.toV, run_underlying ht, run_underlying ht', hsz, hti, hlen, hle, h63, h48, Question.forced, hfo', hfn', run_zeroValue hz, run_newRow, grownCap, hzc]
  · exact h.elim

theorem copy_sound {o : Oper} {t t' e : TypeId} {d x : Operand} {i : TypeInfo} {w : World} {K : SV → Heap → Prop} (ho : o.op = .call { callee := .builtin .copy, args := #[d, x], argTypes := #[t, t'] })
    (ht : P.underlying t = some (.slice e)) (hi : P.info? e = some i) (ha : Agree S a)
    (h : esem P (.copy i.size (src d) (src x)) S w.heap K) : ESound P a o w K := by
  simp only [esem] at h
  split at h
  · rename_i p len cap q l c he he2
    have he' := ev_some ha he
    have he2' := ev_some ha he2
    simp only [SV.toV] at he' he2'
    obtain ⟨news, hrn, hone, hroom, h⟩ := h
    have hex : execOp a.eval o = (do pure (.value (← Builtin.copy_ #[t, t'] o.type #[.slice p len cap, .slice q l c]))) := by
      simp [execOp, ho, resolve, invoke, builtin, he', he2']
    have hsz : ∀ w, (sizeOf e).run P w = .ok i.size w := fun w => by simp [sizeOf, typeInfo, hi]
    have hfn : (Builtin.firstCells i.size (min l len) (.slice q l c)).run P w = .ok news.toArray w := by
      obtain ⟨hl, hr⟩ := hrn
      cases q with
      | none => simp only at hr; subst hr; rfl
      | some ad =>
        obtain ⟨b, o, sp⟩ := ad
        simp only at hr
        obtain ⟨hs, hr⟩ := hr
        refine run_firstCells_some (P := P) w i.size (min l len) ⟨b, o, sp⟩ l c news hl (fun j v hj => ?_)
        rcases hs with rfl | rfl
        · simp at hj
        · rw [Addr.add_lit, cell_eq]; exact hr j v hj
    cases p with
    | none =>
      refine esound_val hex (s := .v (.int .i64 (min l len : Nat))) (w' := w) ?_ (Sim.refl w) (h _ rfl)
      simp [Builtin.copy_, SV.toV, run_underlying ht, hsz, Builtin.lenOf, hfn, goInt]
    | some ad =>
      obtain ⟨b, q', sp⟩ := ad
      obtain ⟨hsp, hcs⟩ := hroom
      simp only at hsp hcs
      subst hsp
      obtain ⟨e1, e2⟩ := heap_setCells b news q' w
      refine esound_val hex (s := .v (.int .i64 (min l len : Nat))) (w' := w.setCells b q' news) ?_ e2 (by rw [e1]; exact h _ rfl)
      have hst := run_storeCells_H (P := P) (w := w) (b := b) (o := q') (vs := news) (by rw [hrn.1]; simpa using hcs) hone
      simp [Builtin.copy_, SV.toV, run_underlying ht, hsz, Builtin.lenOf, hfn, hst, goInt]
  · exact h.elim

theorem exVs_sound : ∀ {zs : List Value} {K : List Value → Prop}, exVs zs K → ∃ vs, K vs
  | [], _, h => ⟨[], h⟩
  | z :: r, K, h => by
    obtain ⟨v, h⟩ := ex1_sound h
    obtain ⟨vs, h⟩ := exVs_sound h
    exact ⟨_, h⟩

theorem exTs_sound : ∀ {zs : List Value} {K : List Value → Prop}, exTs zs K → ∃ vs, K vs
  | [], _, h => ⟨[], h⟩
  | z :: r, K, h => by
    simp only [exTs] at h
    split at h
    · obtain ⟨us, h⟩ := exVs_sound h
      obtain ⟨vs, h⟩ := exTs_sound h
      exact ⟨_, h⟩
    · obtain ⟨v, h⟩ := ex1_sound h
      obtain ⟨vs, h⟩ := exTs_sound h
      exact ⟨_, h⟩

theorem exR_sound {z v : Value} {K : Value → Prop} (h : exR z v K) : ∃ u, v = u ∧ K u := by
  unfold exR at h
  split at h
  · obtain ⟨vs, h1, h2⟩ := exTs_sound h; exact ⟨_, h1, h2⟩
  · obtain ⟨vs, h1, h2⟩ := exVs_sound h; exact ⟨_, h1, h2⟩
  · obtain ⟨u, h1, h2⟩ := ex1_sound h; exact ⟨_, h1, h2⟩

theorem call_sound {o : Oper} {f : FuncId} {as : Array Operand} {ts : Array TypeId} {z : Value} {fn : Func} {w : World} {K : SV → Heap → Prop} (ho : o.op = .call { callee := .value (.func f), args := as, argTypes := ts })
    (hf : P.funcs[f]? = some fn) (hb : fn.body.isSome = true) (hn : (fn.name == "runtime.NumGoroutine") = false) (ha : Agree S a) (h : esem P (.call f (as.toList.map src) z) S w.heap K) : ESound P a o w K := by
  simp only [esem] at h
  have h := withVs_sound ha as.toList h
  intro next Q hnx
  have hex : (execOp a.eval o).run P w = .ok (.enter f (as.map a.eval)) w := by
    have hb' : fn.body.isNone = false := by cases hb'' : fn.body <;> simp_all
    simp only [execOp, ho, resolve, Sem.run_bind, Act.eval, Deferred.ofValue, Sem.run_pure, Result.andThen_ok, invoke, callFunc, run_program, hf, hn, hb', Bool.false_eq_true, if_false]
    simp
  unfold Oper.wp
  rw [hex]
  simp only [Oper.upon]
  have e1 : (as.toList.map a.eval).toArray = as.map a.eval := by apply Array.ext'; simp
  have := h w rfl
  rw [e1] at this
  refine this.mono ?_
  rintro e w' ⟨v, rfl, hs, hr⟩
  obtain ⟨u, rfl, hk⟩ := exR_sound hr
  exact hnx _ _ hs hk
theorem callv_sound {o : Oper} {x : Tmp} {as : Array Operand} {ts : Array TypeId} {z : Value} {w : World} {K : SV → Heap → Prop} (ho : o.op = .call { callee := .value (.tmp x), args := as, argTypes := ts })
    (ha : Agree S a) (h : esem P (.callv (.t x) (as.toList.map src) z) S w.heap K) : ESound P a o w K := by
  simp only [esem] at h
  split at h
  · rename_i f first cap he
    split at h
    · rename_i fn hf
      split at h
      · rename_i hb
        simp only [Bool.and_eq_true, Bool.not_eq_true'] at hb
        have h := withVs_sound ha as.toList h
        have he' : a.eval (.tmp x) = .func (.func f) first cap := ev_some (x := .tmp x) ha he
        intro next Q hnx
        have hex : (execOp a.eval o).run P w = .ok (.enter f (first ++ as.map a.eval ++ cap)) w := by
          have hb' : fn.body.isNone = false := by cases hb'' : fn.body <;> simp_all
          simp only [execOp, ho, resolve, Sem.run_bind, he', Deferred.ofValue, Sem.run_pure, Result.andThen_ok, invoke, callFunc, run_program, hf, hb.2, hb', Bool.false_eq_true, if_false]
        unfold Oper.wp
        rw [hex]
        simp only [Oper.upon]
        have e1 : (first.toList ++ as.toList.map a.eval ++ cap.toList).toArray = first ++ as.map a.eval ++ cap := by apply Array.ext'; simp
        have := h w rfl
        rw [e1] at this
        refine this.mono ?_
        rintro e w' ⟨v, rfl, hs, hr⟩
        obtain ⟨u, rfl, hk⟩ := exR_sound hr
        exact hnx _ _ hs hk
      · exact h.elim
    · exact h.elim
  · exact h.elim
end
end Go.Vc

namespace Go.Vc

section
variable {P : Program} {S : Sym} {a : Act}

theorem beq_ne {m : Nat} (h : (!Nat.beq m 0) = true) : m ≠ 0 := by
  rintro rfl
  exact absurd h (by decide)

theorem compApp_sound {o : Oper} {t t' e : TypeId} {d : TypeDesc} {s x : Operand} {w : World} {K : SV → Heap → Prop} {ef : EOp} (ho : o.op = .call { callee := .builtin .append, args := #[s, x], argTypes := #[t, t'] })
    (ht : P.underlying t = some (.slice e)) (ht' : P.underlying t' = some d) (hd : (∃ e', d = .slice e') ∨ d = .string) (hc : compApp P e s x = some ef) (ha : Agree S a) (h : esem P ef S w.heap K) : ESound P a o w K := by
  unfold compApp at hc
  split at hc
  · rename_i z i hz hi
    split at hc
    · rename_i hb
      simp only [Option.some.injEq] at hc; subst hc
      exact app_sound ho ht ht' hd hz hi (beq_ne hb) ha h
    · cases hc
  · cases hc

theorem eff_sound {o : Oper} {ef : EOp} {w : World} {K : SV → Heap → Prop} (hc : compE P o.op o.type = some ef) (ha : Agree S a) (h : esem P ef S w.heap K) : ESound P a o w K := by
  obtain ⟨dst, op, type, pos, after, guard⟩ := o
  cases op with
  | store t x v =>
    simp only [compE] at hc
    split at hc
    · rename_i i hi
      simp only [Option.some.injEq] at hc; subst hc
      exact store_sound rfl hi ha h
    · cases hc
  | box e x =>
    simp only [compE, Option.some.injEq] at hc; subst hc
    exact box_sound rfl ha h
  | alloc e =>
    simp only [compE] at hc
    split at hc
    · rename_i z hz
      simp only [Option.some.injEq] at hc; subst hc
      exact alloc_sound rfl hz h
    · cases hc
  | buildSlice t len parts =>
    simp only [compE] at hc
    split at hc
    · rename_i e ht
      split at hc
      · rename_i z i hz hi
        split at hc
        · rename_i hb
          simp only [Bool.and_eq_true] at hb
          simp only [Option.some.injEq] at hc; subst hc
          exact bslice_sound rfl ht hz hi (Nat.eq_of_beq_eq_true hb.1.1) (beq_ne hb.1.2) (Nat.le_of_ble_eq_true hb.2) ha h
        · cases hc
      · cases hc
    · cases hc
  | makeSlice t l c =>
    simp only [compE] at hc
    split at hc
    · rename_i e ht
      split at hc
      · rename_i z i hz hi
        split at hc
        · rename_i hb
          simp only [Bool.and_eq_true] at hb
          simp only [Option.some.injEq] at hc; subst hc
          exact mkslice_sound rfl ht hz hi (Nat.eq_of_beq_eq_true hb.1.1) (beq_ne hb.1.2) (beq_ne hb.2) ha h
        · cases hc
      · cases hc
    · cases hc
  | call c =>
    obtain ⟨callee, as, ts⟩ := c
    cases callee with
    | invoke r m => simp [compE] at hc
    | builtin b =>
      obtain ⟨as⟩ := as
      obtain ⟨ts⟩ := ts
      simp only [compE] at hc
      split at hc
      · rename_i s x t t'
        split at hc
        · rename_i e e' ht ht'
          exact compApp_sound rfl ht ht' (.inl ⟨_, rfl⟩) hc ha h
        · rename_i e ht ht'
          exact compApp_sound rfl ht ht' (.inr rfl) hc ha h
        · cases hc
      · rename_i d x t t'
        split at hc
        · rename_i e e' ht ht'
          split at hc
          · rename_i i hi
            simp only [Option.some.injEq] at hc; subst hc
            exact copy_sound rfl ht hi ha h
          · cases hc
        · cases hc
      · cases hc
    | value f =>
      cases f with
      | func f =>
        simp only [compE] at hc
        split at hc
        · rename_i fn z hf hz
          split at hc
          · rename_i hb
            simp only [Bool.and_eq_true, Bool.not_eq_true'] at hb
            simp only [Option.some.injEq] at hc; subst hc
            exact call_sound rfl hf hb.1 hb.2 ha h
          · cases hc
        · cases hc
      | tmp x =>
        simp only [compE] at hc
        split at hc
        · rename_i z hz
          simp only [Option.some.injEq] at hc; subst hc
          exact callv_sound rfl ha h
        · cases hc
      | _ => simp [compE] at hc
  | _ => simp [compE] at hc
end
end Go.Vc

namespace Go.Vc

inductive SOp where
  | p (q : POp)
  | r (q : ROp)
  | e (q : EOp)

structure SOper where
  dst : Option Nat
  guard : Option (Nat × Bool)
  op : SOp
  idx : Nat
  keep : List Nat

inductive RV where
  | tmp (t : Nat)
  | cell (z : List Value) (agg : Bool) (a : Nat)

inductive SCode where
  | skip
  | region (ops : List SOper)
  | draw (ops : List SOper)
  | seq (a b : SCode)
  | cut (vars : List (Nat × Value)) (mods : List Nat) (a b : SCode)
  | cond (c : Src) (a b : SCode)
  | block (id : Nat) (a : SCode)
  | loop (mods live : List Nat) (a : SCode)
  | exit (id : Nat)
  | ret

/-! ### Predicates over the parts of values -/

def Fun1 (z : Value) (T : Type) : Type :=
  match z with
  | .int _ _ => Int → T
  | .bool _ => Bool → T
  | .string _ => ByteArray → T
  | .float _ _ => Nat → T
  | .pointer _ => Option Addr → T
  | .slice _ _ _ => Option Addr → Nat → Nat → T
  | .map _ => Option Nat → T
  | _ => Value → T

def FunA : List Value → Type → Type
  | [], T => T
  | z :: r, T => Fun1 z (FunA r T)

def FunV (z : Value) (T : Type) : Type :=
  match z with
  | .agg cs => FunA cs.toList T
  | z => Fun1 z T

def FunL : List Value → Type → Type
  | [], T => T
  | z :: r, T => FunV z (FunL r T)

/-- For all parts: the value, and what the functions give. -/
def all1 (z : Value) (T U : Type) (f : Fun1 z T) (g : Fun1 z U) (K : Value → T → U → Prop) : Prop :=
  match z, f, g with
  | .int k _, f, g => ∀ n, K (.int k n) (f n) (g n)
  | .bool _, f, g => ∀ n, K (.bool n) (f n) (g n)
  | .string _, f, g => ∀ n, K (.string n) (f n) (g n)
  | .float k _, f, g => ∀ n, K (.float k n) (f n) (g n)
  | .pointer _, f, g => ∀ n, K (.pointer n) (f n) (g n)
  | .slice _ _ _, f, g => ∀ a n m, K (.slice a n m) (f a n m) (g a n m)
  | .map _, f, g => ∀ n, K (.map n) (f n) (g n)
  | .complex _ _ _, f, g => ∀ n, K n (f n) (g n)
  | .chan _, f, g => ∀ n, K n (f n) (g n)
  | .func _ _ _, f, g => ∀ n, K n (f n) (g n)
  | .nilFunc, f, g => ∀ n, K n (f n) (g n)
  | .iface _ _, f, g => ∀ n, K n (f n) (g n)
  | .nilIface, f, g => ∀ n, K n (f n) (g n)
  | .agg _, f, g => ∀ n, K n (f n) (g n)
  | .tuple _, f, g => ∀ n, K n (f n) (g n)

def allA : (zs : List Value) → (T U : Type) → FunA zs T → FunA zs U → (List Value → T → U → Prop) → Prop
  | [], _, _, f, g, K => K [] f g
  | z :: r, T, U, f, g, K => all1 z (FunA r T) (FunA r U) f g fun v f g => allA r T U f g fun vs f g => K (v :: vs) f g

def allV (z : Value) (T U : Type) (f : FunV z T) (g : FunV z U) (K : Value → T → U → Prop) : Prop :=
  match z, f, g with
  | .agg cs, f, g => allA cs.toList T U f g fun vs f g => K (.agg vs.toArray) f g
  | .int k n, f, g => all1 (.int k n) T U f g K
  | .bool n, f, g => all1 (.bool n) T U f g K
  | .string n, f, g => all1 (.string n) T U f g K
  | .float k n, f, g => all1 (.float k n) T U f g K
  | .pointer n, f, g => all1 (.pointer n) T U f g K
  | .slice a n m, f, g => all1 (.slice a n m) T U f g K
  | .map n, f, g => all1 (.map n) T U f g K
  | .complex a b c, f, g => all1 (.complex a b c) T U f g K
  | .chan a, f, g => all1 (.chan a) T U f g K
  | .func a b c, f, g => all1 (.func a b c) T U f g K
  | .nilFunc, f, g => all1 .nilFunc T U f g K
  | .iface a b, f, g => all1 (.iface a b) T U f g K
  | .nilIface, f, g => all1 .nilIface T U f g K
  | .tuple a, f, g => all1 (.tuple a) T U f g K

def allL : (zs : List Value) → (T U : Type) → FunL zs T → FunL zs U → (List Value → T → U → Prop) → Prop
  | [], _, _, f, g, K => K [] f g
  | z :: r, T, U, f, g, K => allV z (FunL r T) (FunL r U) f g fun v f g => allL r T U f g fun vs f g => K (v :: vs) f g

/-- What the functions give of this value's parts. -/
def app1 (z : Value) (T U : Type) (f : Fun1 z T) (g : Fun1 z U) (v : Value) (K : T → U → Prop) : Prop :=
  match z, f, g, v with
  | .int k _, f, g, .int k' n => match decide (k = k') with | true => K (f n) (g n) | false => False
  | .bool _, f, g, .bool n => K (f n) (g n)
  | .string _, f, g, .string n => K (f n) (g n)
  | .float k _, f, g, .float k' n => match decide (k = k') with | true => K (f n) (g n) | false => False
  | .pointer _, f, g, .pointer n => K (f n) (g n)
  | .slice _ _ _, f, g, .slice a n m => K (f a n m) (g a n m)
  | .map _, f, g, .map n => K (f n) (g n)
  | .complex _ _ _, f, g, v => K (f v) (g v)
  | .chan _, f, g, v => K (f v) (g v)
  | .func _ _ _, f, g, v => K (f v) (g v)
  | .nilFunc, f, g, v => K (f v) (g v)
  | .iface _ _, f, g, v => K (f v) (g v)
  | .nilIface, f, g, v => K (f v) (g v)
  | .agg _, f, g, v => K (f v) (g v)
  | .tuple _, f, g, v => K (f v) (g v)
  | _, _, _, _ => False

def appA : (zs : List Value) → (T U : Type) → FunA zs T → FunA zs U → List Value → (T → U → Prop) → Prop
  | [], _, _, f, g, [], K => K f g
  | z :: r, T, U, f, g, v :: vs, K => app1 z (FunA r T) (FunA r U) f g v fun f g => appA r T U f g vs K
  | _, _, _, _, _, _, _ => False

def appV (z : Value) (T U : Type) (f : FunV z T) (g : FunV z U) (v : Value) (K : T → U → Prop) : Prop :=
  match z, f, g, v with
  | .agg cs, f, g, .agg vs => appA cs.toList T U f g vs.toList K
  | .agg _, _, _, _ => False
  | .int k n, f, g, v => app1 (.int k n) T U f g v K
  | .bool n, f, g, v => app1 (.bool n) T U f g v K
  | .string n, f, g, v => app1 (.string n) T U f g v K
  | .float k n, f, g, v => app1 (.float k n) T U f g v K
  | .pointer n, f, g, v => app1 (.pointer n) T U f g v K
  | .slice a n m, f, g, v => app1 (.slice a n m) T U f g v K
  | .map n, f, g, v => app1 (.map n) T U f g v K
  | .complex a b c, f, g, v => app1 (.complex a b c) T U f g v K
  | .chan a, f, g, v => app1 (.chan a) T U f g v K
  | .func a b c, f, g, v => app1 (.func a b c) T U f g v K
  | .nilFunc, f, g, v => app1 .nilFunc T U f g v K
  | .iface a b, f, g, v => app1 (.iface a b) T U f g v K
  | .nilIface, f, g, v => app1 .nilIface T U f g v K
  | .tuple a, f, g, v => app1 (.tuple a) T U f g v K

def appL : (zs : List Value) → (T U : Type) → FunL zs T → FunL zs U → List Value → (T → U → Prop) → Prop
  | [], _, _, f, g, [], K => K f g
  | z :: r, T, U, f, g, v :: vs, K => appV z (FunL r T) (FunL r U) f g v fun f g => appL r T U f g vs K
  | _, _, _, _, _, _, _ => False

/-! ### The walk -/

structure Kont where
  norm : Sym → Heap → Prop
  exit : Nat → Sym → Heap → Prop
  ret : Sym → Heap → Prop

def guarded (g : Option (Nat × Bool)) (S : Sym) (yes no : Sym → Prop) : Prop :=
  match g with
  | none => yes S
  | some (t, want) => match S.get t with
    | some (.v (.tuple _)) => no S
    | some s => branch s fun x => match x, want with
      | true, true => yes ((t, .b true) :: S)
      | false, false => yes ((t, .b false) :: S)
      | true, false => no ((t, .b true) :: S)
      | false, true => no ((t, .b false) :: S)
    | none => False

def stepOp (P : Program) (o : SOp) (S : Sym) (H : Heap) (K : SV → Heap → Prop) : Prop :=
  match o with
  | .p q => psem q S fun s => K s H
  | .r q => rsem q S H fun s _ => K s H
  | .e q => esem P q S H K

def WPops (P : Program) : List SOper → Sym → Heap → (Sym → Heap → Prop) → Prop
  | [], S, H, K => K S H
  | o :: r, S, H, K => guarded o.guard S (fun S => stepOp P o.op S H fun s H' => WPops P r (S.put o.dst s) H' K) (fun S => WPops P r (S.put o.dst (.v undef)) H K)

/-- The facts that must go on to hold. -/
def holds : List (Nat × (Heap → Prop)) → List Nat → Heap → Prop → Prop
  | [], _, _, X => X
  | (i, φ) :: F, l, H, X => match l.contains i with
    | true => φ H ∧ holds F l H X
    | false => holds F l H X

def WPdraw (P : Program) : List SOper → Sym → Heap → List (Nat × (Heap → Prop)) → (Sym → Heap → Prop) → Prop
  | [], S, H, _, K => K S H
  | o :: r, S, H, F, K => guarded o.guard S
      (fun S => match o.op with
        | .p q => psem q S fun s => WPdraw P r (S.put o.dst s) H F K
        | .r q => rsem q S H fun s φ => WPdraw P r (S.put o.dst s) H ((o.idx, φ) :: F) K
        | .e q => esem P q S H fun s H' => holds F o.keep H' (WPdraw P r (S.put o.dst s) H' F K))
      (fun S => WPdraw P r (S.put o.dst (.v undef)) H F K)

def SV.shape : SV → Value
  | .v x => x
  | .b _ => .bool false
  | .p _ => .bool false

def svOf : Value → SV
  | .bool b => .v (.bool b)
  | v => .v v

def getAll (S : Sym) : List Nat → Option (List SV)
  | [] => some []
  | t :: r => match S.get t, getAll S r with
    | some s, some l => some (s :: l)
    | _, _ => none

def Sym.del (S : Sym) (mods : List Nat) : Sym :=
  match S with
  | [] => []
  | x :: r => match mods.contains x.1 with
    | true => Sym.del r mods
    | false => x :: Sym.del r mods

/-- The slots among 'mods' that hold something. -/
def lives (S : Sym) : List Nat → List (Nat × SV)
  | [] => []
  | t :: r => match S.get t with
    | some s => (t, s) :: lives S r
    | none => lives S r

def syms : List Nat → List Value → Sym → Sym
  | t :: ts, v :: vs, S => (t, .v v) :: syms ts vs S
  | _, _, S => S

def WP (P : Program) : SCode → Kont → Sym → Heap → Prop
  | .skip, K, S, H => K.norm S H
  | .region ops, K, S, H => WPops P ops S H K.norm
  | .draw ops, K, S, H => WPdraw P ops S H [] K.norm
  | .seq a b, K, S, H => WP P a { K with norm := fun S H => WP P b K S H } S H
  | .cut vars mods a b, K, S, H =>
    ∃ I : FunL (vars.map (·.2)) (Heap → Prop),
      WP P a { K with norm := fun S' H' => match getAll S' (vars.map (·.1)) with
        | some ss => appL (vars.map (·.2)) (Heap → Prop) (Heap → Prop) I I (ss.map SV.toV) fun X _ => X H'
        | none => False } S H ∧
      allL (vars.map (·.2)) (Heap → Prop) (Heap → Prop) I I fun vs X _ => ∀ H', X H' → WP P b K (syms (vars.map (·.1)) vs (S.del mods)) H'
  | .cond c a b, K, S, H => match ev S c with
    | some s => branch s fun x => match x with | true => WP P a K S H | false => WP P b K S H
    | none => False
  | .block id a, K, S, H => WP P a { K with exit := fun i S H => match Nat.beq i id with | true => K.norm S H | false => K.exit i S H } S H
  | .loop mods live a, K, S, H =>
    ∃ I : FunL ((lives S live).map (·.2.shape)) (Heap → Prop), ∃ μ : FunL ((lives S live).map (·.2.shape)) (Heap → Nat),
      appL ((lives S live).map (·.2.shape)) (Heap → Prop) (Heap → Nat) I μ ((lives S live).map (·.2.toV)) (fun X _ => X H) ∧
      allL ((lives S live).map (·.2.shape)) (Heap → Prop) (Heap → Nat) I μ fun vs X m => ∀ H', X H' →
        WP P a { K with norm := fun S' H'' => match getAll S' ((lives S live).map (·.1)) with
          | some ss => appL ((lives S live).map (·.2.shape)) (Heap → Prop) (Heap → Nat) I μ (ss.map SV.toV) fun X' m' => X' H'' ∧ m' H'' < m H'
          | none => False } (syms ((lives S live).map (·.1)) vs (S.del mods)) H'
  | .exit id, K, S, H => K.exit id S H
  | .ret, K, S, H => K.ret S H

/-- The results. -/
def resK (H : Heap) : List RV → Sym → (List Value → Prop) → Prop
  | [], _, K => K []
  | .tmp t :: r, S, K => match S.get t with
    | some s => resK H r S fun vs => K (s.toV :: vs)
    | none => False
  | .cell z agg a :: r, S, K => rsem (.load z agg (.t a)) S H fun s _ => resK H r S fun vs => K (s.toV :: vs)

def retK (rs : List RV) (R : Value → Heap → Prop) (S : Sym) (H : Heap) : Prop :=
  resK H rs S fun vs => match vs with
    | [v] => R v H
    | vs => R (.tuple vs.toArray) H

def start : Nat → List Value → Sym
  | _, [] => []
  | i, v :: r => (i, .v v) :: start (i + 1) r

end Go.Vc

namespace Go.Vc

def compGuard (ops : Array Oper) (g : Option (Nat × Bool)) : Option (Option (Nat × Bool)) :=
  match g with
  | none => some none
  | some (j, want) => match (ops[j]?).bind (·.dst) with
    | some t => some (some (t, want))
    | none => none

def dstOk (N : Nat) (d : Option Nat) : Bool :=
  match d with
  | some d => Nat.blt d N
  | none => true

def compS (P : Program) (o : Op) (t : TypeId) : Option SOp :=
  match compP P o with
  | some q => some (.p q)
  | none => match compR P o with
    | some q => some (.r q)
    | none => match compE P o t with
      | some q => some (.e q)
      | none => none

def compOper (P : Program) (N : Nat) (ops : Array Oper) (o : Oper) (idx : Nat) (keep : List Nat) : Option SOper :=
  match compGuard ops o.guard, compS P o.op o.type, dstOk N o.dst with
  | some g, some q, true => some ⟨o.dst, g, q, idx, keep⟩
  | _, _, _ => none

def compOps (P : Program) (N : Nat) (ops : Array Oper) : List Oper → Option (List SOper)
  | [] => some []
  | o :: r => match compOper P N ops o 0 [], compOps P N ops r with
    | some s, some l => some (s :: l)
    | _, _ => none

structure Ag (N : Nat) (S : Sym) (a : Act) : Prop where
  size : a.tmps.size = N
  defers : a.defers = []
  agree : Agree S a

def opDst (o : Oper) : List Nat := match o.dst with | some d => [d] | none => []

def dstsL (l : List Oper) : List Nat := l.flatMap opDst

def Fr (l : List Nat) (a a' : Act) : Prop := ∀ t, t ∉ l → a'.tmps.getD t undef = a.tmps.getD t undef

theorem Fr.refl (l : List Nat) (a : Act) : Fr l a a := fun _ _ => rfl
theorem Fr.trans {l m : List Nat} {a b c : Act} (h : Fr l a b) (k : Fr m b c) : Fr (l ++ m) a c := fun t ht => by
  simp only [List.mem_append, not_or] at ht
  rw [k t ht.2, h t ht.1]
theorem Fr.mono {l m : List Nat} {a b : Act} (h : Fr l a b) (hs : ∀ t, t ∈ l → t ∈ m) : Fr m a b := fun t ht => h t (fun h' => ht (hs t h'))

theorem Fr.put (a : Act) (o : Oper) (v : Value) : Fr (opDst o) a (a.put o.dst v) := by
  intro t ht
  unfold opDst at ht
  unfold Act.put
  cases hd : o.dst with
  | none => rfl
  | some d =>
    rw [hd] at ht
    simp only [List.mem_singleton] at ht
    simp only [Array.getD_eq_getD_getElem?, Array.getElem?_setIfInBounds]
    rw [if_neg (fun h => ht h.symm)]

theorem get_cons {S : Sym} {t i : Nat} {s : SV} : Sym.get ((i, s) :: S) t = if i = t then some s else S.get t := by
  show (match Nat.beq i t with | true => some s | false => Sym.get S t) = _
  by_cases h : i = t
  · subst h; simp
  · rw [if_neg h]
    have : Nat.beq i t = false := by
      cases hb : Nat.beq i t with
      | false => rfl
      | true => exact absurd (Nat.eq_of_beq_eq_true hb) h
    rw [this]

theorem Ag.put {N : Nat} {S : Sym} {a : Act} (h : Ag N S a) {d : Option Nat} (hd : dstOk N d = true) (s : SV) : Ag N (S.put d s) (a.put d s.toV) := by
  cases d with
  | none => exact h
  | some d =>
    refine ⟨by simp [Act.put, h.size], h.defers, ?_⟩
    intro t s' ht
    simp only [Sym.put, get_cons] at ht
    have hlt : d < a.tmps.size := by rw [h.size]; simpa [dstOk] using hd
    simp only [Act.put, Array.getD_eq_getD_getElem?, Array.getElem?_setIfInBounds]
    split at ht
    · rename_i e
      subst e
      simp only [Option.some.injEq] at ht
      subst ht
      simp [hlt]
    · rename_i e
      rw [if_neg e, ← Array.getD_eq_getD_getElem?]
      exact h.agree t s' ht

theorem Ag.know {N : Nat} {S : Sym} {a : Act} (h : Ag N S a) {t : Nat} {b : Bool} (ht : a.tmps.getD t undef = .bool b) : Ag N ((t, .b b) :: S) a := by
  refine ⟨h.size, h.defers, ?_⟩
  intro t' s' h'
  rw [get_cons] at h'
  split at h'
  · rename_i e; subst e; simp only [Option.some.injEq] at h'; subst h'; exact ht
  · exact h.agree t' s' h'

theorem yielded_of {ops : Array Oper} {tmps : Array Value} {j t : Nat} {b : Bool} (hj : (ops[j]?).bind (·.dst) = some t) (ht : tmps.getD t undef = .bool b) : yielded ops tmps j = some b := by
  unfold yielded
  rw [hj]
  simp only [Option.bind_some]
  have : tmps[t]? = some (.bool b) := by
    rw [Array.getD_eq_getD_getElem?] at ht
    cases h : tmps[t]? with
    | none => rw [h] at ht; simp [undef] at ht
    | some v => rw [h] at ht; simpa using ht
  rw [this]

/-- The guard decided. -/
theorem guarded_sound {N : Nat} {ops : Array Oper} {o : Oper} {g : Option (Nat × Bool)} {S : Sym} {a : Act} {yes no : Sym → Prop} (hg : compGuard ops o.guard = some g) (ha : Ag N S a) (h : guarded g S yes no) :
    (Region.wanted o (yielded ops a.tmps) = true ∧ ∃ S', Ag N S' a ∧ yes S') ∨ (Region.wanted o (yielded ops a.tmps) = false ∧ ∃ S', Ag N S' a ∧ no S') := by
  unfold Region.wanted
  cases hog : o.guard with
  | none =>
    rw [hog] at hg
    simp only [compGuard, Option.some.injEq] at hg
    subst hg
    exact .inl ⟨rfl, S, ha, h⟩
  | some jw =>
    obtain ⟨j, want⟩ := jw
    rw [hog] at hg
    simp only [compGuard] at hg
    split at hg
    · rename_i t hj
      simp only [Option.some.injEq] at hg
      subst hg
      simp only [guarded] at h
      split at h
      · rename_i l hs
        have hb := ha.agree t _ hs
        refine .inr ⟨?_, S, ha, h⟩
        have hy : yielded ops a.tmps j = none := by
          unfold yielded
          rw [hj]
          simp only [Option.bind_some]
          rw [Array.getD_eq_getD_getElem?] at hb
          cases ht : a.tmps[t]? with
          | none => rfl
          | some v =>
            rw [ht] at hb
            simp only [Option.getD_some, SV.toV] at hb
            rw [hb]
        show (yielded ops a.tmps j == some want) = false
        rw [hy]
        rfl
      · rename_i s _ hs
        obtain ⟨b, h1, h2⟩ := branch_sound h
        have hb := ha.agree t s hs
        rw [h1] at hb
        have hy := yielded_of hj hb
        have hk := ha.know hb
        simp only [hy]
        cases b <;> cases want <;> simp only at h2
        · exact .inl ⟨rfl, _, hk, h2⟩
        · exact .inr ⟨rfl, _, hk, h2⟩
        · exact .inr ⟨rfl, _, hk, h2⟩
        · exact .inl ⟨rfl, _, hk, h2⟩
      · exact h.elim
    · cases hg

theorem step_sound {P : Program} {N : Nat} {o : Oper} {q : SOp} {S : Sym} {a : Act} {w : World} {K : SV → Heap → Prop} (hc : compS P o.op o.type = some q) (ha : Ag N S a) (h : stepOp P q S w.heap K) : ESound P a o w K := by
  unfold compS at hc
  split at hc
  · rename_i p hp
    simp only [Option.some.injEq] at hc; subst hc
    obtain ⟨s, hk, hr⟩ := pure_sound (P := P) (K := fun s => K s w.heap) hp ha.agree h
    intro next Q hn
    unfold Oper.wp
    rw [hr w]
    exact hn s w (Sim.refl w) hk
  · split at hc
    · rename_i r hr
      simp only [Option.some.injEq] at hc; subst hc
      obtain ⟨s, φ, hk, hφ, hrun⟩ := read_sound (P := P) (K := fun s _ => K s w.heap) hr ha.agree h
      intro next Q hn
      unfold Oper.wp
      rw [hrun w hφ]
      exact hn s w (Sim.refl w) hk
    · split at hc
      · rename_i e he
        simp only [Option.some.injEq] at hc; subst hc
        exact eff_sound he ha.agree h
      · cases hc

theorem compOper_spec {P : Program} {N : Nat} {ops : Array Oper} {o : Oper} {i : Nat} {k : List Nat} {s : SOper} (h : compOper P N ops o i k = some s) :
    s.dst = o.dst ∧ compGuard ops o.guard = some s.guard ∧ compS P o.op o.type = some s.op ∧ dstOk N o.dst = true ∧ s.idx = i ∧ s.keep = k := by
  unfold compOper at h
  split at h
  · rename_i g q h1 h2 h3
    simp only [Option.some.injEq] at h
    subst h
    exact ⟨rfl, h1, h2, h3, rfl, rfl⟩
  · cases h

theorem ops_sound {P : Program} {N : Nat} {ops : Array Oper} {Q : Exit → Act → World → Prop} : ∀ (l : List Oper) (sl : List SOper), compOps P N ops l = some sl → ∀ (S : Sym) (a : Act) (w : World) (K : Sym → Heap → Prop),
    Ag N S a → WPops P sl S w.heap K → (∀ S a' w', Ag N S a' → Sim w w' → Fr (dstsL l) a a' → K S w'.heap → Q .normal a' w') → wpList P ops Q l a w
  | [], sl, hc, S, a, w, K, ha, h, hn => by
    simp only [compOps, Option.some.injEq] at hc; subst hc
    exact hn S a w ha (Sim.refl w) (Fr.refl _ a) h
  | o :: r, sl, hc, S, a, w, K, ha, h, hn => by
    simp only [compOps] at hc
    split at hc
    · rename_i s l h1 h2
      simp only [Option.some.injEq] at hc; subst hc
      obtain ⟨e1, e2, e3, e4, _, _⟩ := compOper_spec h1
      simp only [WPops] at h
      simp only [wpList]
      rcases guarded_sound e2 ha h with ⟨hw, S', ha', hy⟩ | ⟨hw, S', ha', hy⟩
      · rw [if_pos hw]
        refine .inl (step_sound e3 ha' hy _ _ ?_)
        intro sv w' hs hk
        rw [e1] at hk
        refine ops_sound r l h2 _ _ w' K (ha'.put e4 sv) hk ?_
        intro S2 a2 w2 ha2 hs2 hf2 hk2
        exact hn S2 a2 w2 ha2 (hs.trans hs2) ((Fr.put a o sv.toV).trans hf2) hk2
      · rw [hw, if_neg (by simp)]
        rw [e1] at hy
        refine ops_sound r l h2 _ _ w K (ha'.put e4 (.v undef)) hy ?_
        intro S2 a2 w2 ha2 hs2 hf2 hk2
        exact hn S2 a2 w2 ha2 hs2 ((Fr.put a o undef).trans hf2) hk2
    · cases hc

end Go.Vc

namespace Go.Vc

def ancB (ops : Array Oper) : Nat → Nat → Nat → Bool
  | 0, _, _ => false
  | n + 1, j, i => match ops[j]? with
    | some o => o.after.toList.any fun e => Region.binds .any e && (Nat.beq e.on i || ancB ops n e.on i)
    | none => false

def Closed (ops : Array Oper) (listed : Array Bool) : Prop :=
  ∀ j oj, ops[j]? = some oj → listed.getD j false = true → ∀ e ∈ oj.after, Region.binds .any e = true → listed.getD e.on false = true

theorem anc_listed {ops : Array Oper} {listed : Array Bool} (hc : Closed ops listed) (i : Nat) : ∀ n j, listed.getD j false = true → ancB ops n j i = true → listed.getD i false = true
  | 0, _, _, h => by cases h
  | n + 1, j, hj, h => by
    unfold ancB at h
    split at h
    · rename_i o ho
      obtain ⟨e, he, hb⟩ := List.any_eq_true.1 h
      simp only [Bool.and_eq_true, Bool.or_eq_true] at hb
      have hl := hc j o ho hj e (by simpa using he) hb.1
      rcases hb.2 with h | h
      · rw [← Nat.eq_of_beq_eq_true h]; exact hl
      · exact anc_listed hc i n e.on hl h
    · cases h

theorem Closed.set {ops : Array Oper} {listed : Array Bool} {j : Nat} (hc : Closed ops listed) (hj : j ∈ Region.ready .any ops listed) : Closed ops (listed.setIfInBounds j true) := by
  obtain ⟨hu, oj, hoj, hall⟩ := mem_ready.1 hj
  intro k ok hk hl e he hb
  by_cases hjk : j = k
  · subst hjk
    have : ok = oj := Option.some.inj (hk.symm.trans hoj)
    subst this
    exact getD_set_true (hall e he hb)
  · rw [getD_set_ne false hjk] at hl
    exact getD_set_true (hc k ok hk hl e he hb)

/-- No effect that hangs on 'i' has come up. -/
def Live (ops : Array Oper) (eff : Nat → Bool) (listed : Array Bool) (i : Nat) : Prop :=
  ∀ j, listed.getD j false = true → eff j = true → ∀ n, ancB ops n j i = false

def Good (ops : Array Oper) (eff : Nat → Bool) (F : List (Nat × (Heap → Prop))) (listed : Array Bool) (w : World) : Prop :=
  ∀ x ∈ F, Live ops eff listed x.1 → x.2 w.heap

def wpAnyF (P : Program) (ops : Array Oper) (Q : Exit → Act → World → Prop) (eff : Nat → Bool) (F : List (Nat × (Heap → Prop))) : Nat → Array Bool → Act → World → Prop
  | 0, listed, a, w => Region.ready .any ops listed = [] ∧ Q .normal a w
  | fuel + 1, listed, a, w =>
    (Region.ready .any ops listed = [] → Q .normal a w) ∧
    ∀ i ∈ Region.ready .any ops listed, wpOp P ops Q i (fun a' w' => Good ops eff F (listed.setIfInBounds i true) w' ∧ wpAnyF P ops Q eff F fuel (listed.setIfInBounds i true) a' w') a w

section
variable {P : Program} {ops : Array Oper} {Q : Exit → Act → World → Prop} {eff : Nat → Bool} {F : List (Nat × (Heap → Prop))}

theorem wpAny_of_F : ∀ (fuel : Nat) (listed : Array Bool) (a : Act) (w : World), wpAnyF P ops Q eff F fuel listed a w → wpAny P .any ops Q fuel listed a w
  | 0, _, _, _, h => h
  | fuel + 1, _, _, _, h => ⟨h.1, fun i hi => wpOp_mono (fun a' w' h' => wpAny_of_F fuel _ a' w' h'.2) (h.2 i hi)⟩

theorem wpAnyF_sub {F' : List (Nat × (Heap → Prop))} (hs : ∀ x ∈ F, x ∈ F') : ∀ (fuel : Nat) (listed : Array Bool) (a : Act) (w : World), wpAnyF P ops Q eff F' fuel listed a w → wpAnyF P ops Q eff F fuel listed a w
  | 0, _, _, _, h => h
  | fuel + 1, _, _, _, h => ⟨h.1, fun i hi => wpOp_mono (fun a' w' h' => ⟨fun x hx => h'.1 x (hs x hx), wpAnyF_sub hs fuel _ a' w' h'.2⟩) (h.2 i hi)⟩

theorem getD_unlisted {listed : Array Bool} {i : Nat} (h : listed.getD i true = false) : listed.getD i false = false := by
  rcases Nat.lt_or_ge i listed.size with h' | h'
  · simp [h'] at h ⊢; exact h
  · simp [Array.getElem?_eq_none h'] at h

theorem getD_set_cases {listed : Array Bool} {i j : Nat} (h : (listed.setIfInBounds i true).getD j false = true) : j = i ∨ listed.getD j false = true := by
  by_cases e : i = j
  · exact .inl e.symm
  · rw [getD_set_ne false e] at h; exact .inr h

theorem Live.of_set {listed : Array Bool} {i k : Nat} (h : Live ops eff (listed.setIfInBounds k true) i) : Live ops eff listed i := fun j hj he n => h j (getD_set_true hj) he n

theorem Live.set_float {listed : Array Bool} {i k : Nat} (hk : eff k = false) (h : Live ops eff listed i) : Live ops eff (listed.setIfInBounds k true) i := fun j hj he n => by
  rcases getD_set_cases hj with rfl | h'
  · rw [hk] at he; cases he
  · exact h j h' he n

/-- While 'i' waits to come up, no effect that hangs on it has. -/
theorem live_of_unlisted {listed : Array Bool} {i : Nat} (hc : Closed ops listed) (hu : listed.getD i true = false) : Live ops eff listed i := fun j hj _ n => by
  cases h : ancB ops n j i with
  | false => rfl
  | true =>
    have := anc_listed hc i n j hj h
    rw [getD_unlisted hu] at this
    cases this

theorem wpAnyF_take {i : Nat} {oi : Oper} {v : Value} {φ : Heap → Prop} (hi : ops[i]? = some oi) (hsel : ∀ (j : Nat) (o : Oper) cs b, ops[j]? = some o → o.op ≠ .select cs b)
    (hQ : ∀ c a a' w, Q (.panic c) a w → Q (.panic c) a' w) (hei : eff i = false) :
    ∀ (fuel : Nat) (listed : Array Bool) (a : Act) (w : World), Closed ops listed →
      (∀ j oj, ops[j]? = some oj → j ≠ i → listed.getD j true = false → (∀ e ∈ oj.after, Region.binds .any e = true → e.on ≠ i) → oi.apart ops oj = true) →
      i ∈ Region.ready .any ops listed → YieldsIf P ops (fun w => φ w.heap) oi v a → φ w.heap → Good ops eff F listed w →
      wpAnyF P ops Q eff ((i, φ) :: F) fuel (listed.setIfInBounds i true) (a.put oi.dst v) w → wpAnyF P ops Q eff F (fuel + 1) listed a w := by
  intro fuel
  induction fuel with
  | zero =>
    intro listed a w _ _ hr hy hS hG H
    refine ⟨fun h => (by rw [h] at hr; cases hr), fun j hj => ?_⟩
    by_cases hji : j = i
    · subst hji
      exact hy.wpOp hi hS ⟨fun x hx hl => hG x hx hl.of_set, H.1, H.2⟩
    · have := ready_mono hj hji
      rw [H.1] at this
      cases this
  | succ fuel ih =>
    intro listed a w hc hfree hr hy hS hG H
    refine ⟨fun h => (by rw [h] at hr; cases hr), fun j hj => ?_⟩
    by_cases hji : j = i
    · subst hji
      exact hy.wpOp hi hS ⟨fun x hx hl => hG x hx hl.of_set, wpAnyF_sub (fun x hx => List.mem_cons_of_mem _ hx) _ _ _ _ H⟩
    · have h1 := H.2 j (ready_mono hj hji)
      obtain ⟨hjun, oj, hoj, hall⟩ := mem_ready.1 hj
      have hiun := (mem_ready.1 hr).1
      have hnot : ∀ e ∈ oj.after, Region.binds .any e = true → e.on ≠ i := fun e he hb heq => by
        have h1 := hall e he hb
        rw [heq, getD_unlisted hiun] at h1
        cases h1
      have h2 := wpOp_putIf hoj (hfree j oj hoj hji hjun hnot) (fun cs b => hsel i oi cs b hi) (fun cs b => hsel j oj cs b hoj) (fun c a w => hQ c _ _ w) hy h1
      have hfree' : ∀ k ok, ops[k]? = some ok → k ≠ i → (listed.setIfInBounds j true).getD k true = false →
          (∀ e ∈ ok.after, Region.binds .any e = true → e.on ≠ i) → oi.apart ops ok = true := fun k ok hk hki hun hno => by
        refine hfree k ok hk hki ?_ hno
        by_cases hjk : j = k
        · subst hjk; exact hjun
        · rw [getD_set_ne true hjk] at hun; exact hun
      have hc' := hc.set hj
      have hr' := ready_mono hr (Ne.symm hji)
      have hiun' := (mem_ready.1 hr').1
      refine wpOp_mono (fun a' w' h3 => ?_) h2
      obtain ⟨hy', hg', hw'⟩ := h3
      have hφ : φ w'.heap := hg' _ List.mem_cons_self (by
        rw [Array.setIfInBounds_comm _ _ (Ne.symm hji)]
        exact (live_of_unlisted hc' hiun').set_float hei)
      have hG' : Good ops eff F (listed.setIfInBounds j true) w' := fun x hx hl => hg' x (List.mem_cons_of_mem _ hx) (by
        rw [Array.setIfInBounds_comm _ _ (Ne.symm hji)]
        exact hl.set_float hei)
      refine ⟨hG', ih _ a' w' hc' hfree' hr' hy' hφ hG' ?_⟩
      rw [Array.setIfInBounds_comm _ _ hji]
      exact hw'
end
end Go.Vc

namespace Go.Vc

def tb (m i : Nat) : Bool := !Nat.beq (Nat.land (Nat.shiftRight m i) 1) 0

def bitm (i : Nat) : Nat := Nat.shiftLeft 1 i

theorem tb_eq (m i : Nat) : tb m i = m.testBit i := by
  have h1 : Nat.land (Nat.shiftRight m i) 1 = (m >>> i) &&& 1 := rfl
  unfold tb
  rw [h1]
  have h2 : m.testBit i = (1 &&& (m >>> i) != 0) := rfl
  rw [h2, Nat.and_comm]
  cases h : Nat.beq (1 &&& m >>> i) 0 with
  | true => rw [Nat.eq_of_beq_eq_true h]; rfl
  | false =>
    have : (1 &&& m >>> i) ≠ 0 := by
      intro e
      rw [e] at h
      exact absurd h (by decide)
    exact (bne_iff_ne.2 this).symm

theorem tb_bitm (i j : Nat) : (bitm i).testBit j = decide (i = j) := by
  have : bitm i = 2 ^ i := by show 1 <<< i = 2 ^ i; rw [Nat.one_shiftLeft]
  rw [this, Nat.testBit_two_pow]

def maskOf : List Nat → Nat
  | [] => 0
  | t :: r => Nat.lor (bitm t) (maskOf r)

theorem tb_maskOf (t : Nat) : ∀ l, (maskOf l).testBit t = decide (t ∈ l)
  | [] => by simp [maskOf]
  | u :: r => by
    have h : maskOf (u :: r) = bitm u ||| maskOf r := rfl
    rw [h, Nat.testBit_or, tb_bitm, tb_maskOf t r]
    by_cases h1 : u = t
    · subst h1; simp
    · have h2 : ¬ t = u := fun e => h1 e.symm
      simp [h1, h2]

def depsOf (o : Oper) : List Nat := (o.after.toList.filter (Region.binds .any)).map (·.on)

/-- What the schedule wants of an operation: the masks of what it waits for, of what it writes, of what it looks at; 0: it only reckons, 1: it reads the heap, 2: it acts. -/
structure OI where
  deps : Nat
  dst : Nat
  looks : Nat
  kind : Nat

def kindOf (P : Program) (o : Op) : Nat :=
  match compP P o with
  | some _ => 0
  | none => match compR P o with
    | some _ => 1
    | none => 2

def infoOf (P : Program) (ops : Array Oper) (o : Oper) : OI :=
  ⟨maskOf (depsOf o), maskOf (opDst o), maskOf (o.looksAt ops), kindOf P o.op⟩

def apartM (x y : OI) : Bool := Nat.beq (Nat.land x.dst (Nat.lor y.looks y.dst)) 0 && Nat.beq (Nat.land y.dst x.looks) 0

/-- Number i (what only looks) is apart from all that neither waits for it nor it for them. -/
def freeAll (i : Nat) (x : OI) : Nat → List OI → Bool
  | _, [] => true
  | j, y :: r => (Nat.beq i j || tb y.deps i || tb x.deps j || apartM x y) && freeAll i x (j + 1) r

def freeTab (l : List OI) : Nat → List OI → Bool
  | _, [] => true
  | i, x :: r => (Nat.beq x.kind 2 || freeAll i x 0 l) && freeTab l (i + 1) r

def readyL (m : Nat) : Nat → List OI → List (Nat × OI)
  | _, [] => []
  | i, x :: r => match tb m i, Nat.beq (Nat.land x.deps m) x.deps with
    | false, true => (i, x) :: readyL m (i + 1) r
    | _, _ => readyL m (i + 1) r

/-- The ancestors, and that they are. -/
def upOf (T : List Nat) : List Nat → Nat
  | [] => 0
  | t :: r => Nat.lor (Nat.lor (bitm t) (T.getD t 0)) (upOf T r)

def ancTab : List Nat → List Oper → List Nat
  | T, [] => T
  | T, o :: r => ancTab (T ++ [upOf T (depsOf o)]) r

def ancOk (T : List Nat) : Nat → List Oper → Bool
  | _, [] => true
  | j, o :: r => (depsOf o).all (fun t => Nat.ble (t + 1) j) && Nat.beq (T.getD j 0) (upOf T (depsOf o)) && ancOk T (j + 1) r

/-- The order of the walk: what only looks comes first, as soon as it may; what acts comes when nothing else may. -/
def sched (P : Program) (N : Nat) (ops : Array Oper) (tab : List OI) (T : List Nat) : Nat → Nat → List Nat → Option (List SOper)
  | fuel, m, reads =>
    match fuel, readyL m 0 tab with
    | _, [] => some []
    | 0, _ => none
    | fuel + 1, rs => match rs.find? (fun x => Nat.ble x.2.kind 1) with
      | some (i, x) => match ops[i]? with
        | some o => match compOper P N ops o i [], sched P N ops tab T fuel (Nat.lor m (bitm i)) (match Nat.beq x.kind 1 with | true => i :: reads | false => reads) with
          | some s, some l => some (s :: l)
          | _, _ => none
        | none => none
      | none => match rs with
        | [(j, _)] => match ops[j]? with
          | some o => match compOper P N ops o j (reads.filter fun i => !tb (T.getD j 0) i), sched P N ops tab T fuel (Nat.lor m (bitm j)) reads with
            | some s, some l => some (s :: l)
            | _, _ => none
          | none => none
        | _ => none

def schedule (P : Program) (N : Nat) (ops : Array Oper) : Option (List SOper) :=
  let tab := ops.toList.map (infoOf P ops)
  let T := ancTab [] ops.toList
  match Region.noSelect ops && freeTab tab 0 tab && (ancOk T 0 ops.toList && Nat.beq T.length ops.size) with
  | true => sched P N ops tab T ops.size 0 []
  | false => none

section
variable {P : Program} {N : Nat} {ops : Array Oper} {Q : Exit → Act → World → Prop}

def isFloat (P : Program) (ops : Array Oper) (i : Nat) : Bool :=
  match ops[i]? with
  | some o => (compP P o.op).isSome || (compR P o.op).isSome
  | none => false

structure Rel (ops : Array Oper) (listed : Array Bool) (m : Nat) : Prop where
  size : listed.size = ops.size
  same : ∀ j, listed.getD j false = m.testBit j

theorem Rel.set {listed : Array Bool} {m i : Nat} (h : Rel ops listed m) (hi : i < ops.size) : Rel ops (listed.setIfInBounds i true) (Nat.lor m (bitm i)) := by
  refine ⟨by simp [h.size], fun j => ?_⟩
  have e : Nat.lor m (bitm i) = m ||| bitm i := rfl
  rw [e, Nat.testBit_or, tb_bitm]
  by_cases hij : i = j
  · subst hij
    simp [h.size, hi]
  · rw [getD_set_ne false hij, h.same]
    simp [hij]

theorem unlisted_iff {listed : Array Bool} {m j : Nat} (h : Rel ops listed m) (hj : j < ops.size) : listed.getD j true = false ↔ m.testBit j = false := by
  rw [← h.same j]
  have : j < listed.size := by rw [h.size]; exact hj
  simp [this]

theorem sub_iff {d m : Nat} : Nat.beq (Nat.land d m) d = true ↔ ∀ t, d.testBit t = true → m.testBit t = true := by
  constructor
  · intro h t ht
    have h1 : d &&& m = d := Nat.eq_of_beq_eq_true h
    rw [← h1, Nat.testBit_and] at ht
    simp only [Bool.and_eq_true] at ht
    exact ht.2
  · intro h
    have : Nat.land d m = d := by
      show d &&& m = d
      apply Nat.eq_of_testBit_eq
      intro i
      rw [Nat.testBit_and]
      cases hd : d.testBit i with
      | false => rfl
      | true => rw [h i hd]; rfl
    rw [this]
    exact Nat.beq_refl d

theorem mem_depsOf {o : Oper} {t : Nat} : t ∈ depsOf o ↔ ∃ e ∈ o.after, Region.binds .any e = true ∧ e.on = t := by
  simp only [depsOf, List.mem_map, List.mem_filter, Array.mem_toList_iff]
  constructor
  · rintro ⟨e, ⟨h1, h2⟩, h3⟩; exact ⟨e, h1, h2, h3⟩
  · rintro ⟨e, h1, h2, h3⟩; exact ⟨e, ⟨h1, h2⟩, h3⟩

theorem mem_readyL {m i : Nat} {x : OI} : ∀ {l : List OI} {k : Nat}, (i, x) ∈ readyL m k l ↔ k ≤ i ∧ l[i - k]? = some x ∧ m.testBit i = false ∧ ∀ t, x.deps.testBit t = true → m.testBit t = true
  | [], k => by simp [readyL]
  | y :: r, k => by
    have ih := mem_readyL (m := m) (i := i) (x := x) (l := r) (k := k + 1)
    have hstep : (i, x) ∈ readyL m k (y :: r) ↔ ((i = k ∧ x = y ∧ m.testBit k = false ∧ ∀ t, y.deps.testBit t = true → m.testBit t = true) ∨ (i, x) ∈ readyL m (k + 1) r) := by
      simp only [readyL]
      split
      · rename_i h1 h2
        rw [tb_eq] at h1
        rw [sub_iff] at h2
        rw [List.mem_cons, Prod.mk.injEq]
        constructor
        · rintro (⟨rfl, rfl⟩ | h)
          · exact .inl ⟨rfl, rfl, h1, h2⟩
          · exact .inr h
        · rintro (⟨rfl, rfl, _, _⟩ | h)
          · exact .inl ⟨rfl, rfl⟩
          · exact .inr h
      · rename_i hn
        constructor
        · exact .inr
        · rintro (⟨rfl, rfl, h1, h2⟩ | h)
          · exact absurd (sub_iff.2 h2) (fun h3 => hn (by rw [tb_eq]; exact h1) h3)
          · exact h
    rw [hstep, ih]
    constructor
    · rintro (⟨rfl, rfl, h1, h2⟩ | ⟨h0, h1, h2⟩)
      · exact ⟨Nat.le_refl _, by simp, h1, h2⟩
      · refine ⟨by omega, ?_, h2⟩
        rw [show i - k = (i - (k + 1)) + 1 by omega]
        simpa using h1
    · rintro ⟨h0, h1, h2⟩
      by_cases hk : i = k
      · subst hk
        simp only [Nat.sub_self, List.getElem?_cons_zero, Option.some.injEq] at h1
        subst h1
        exact .inl ⟨rfl, rfl, h2⟩
      · refine .inr ⟨by omega, ?_, h2⟩
        rw [show i - k = (i - (k + 1)) + 1 by omega] at h1
        simpa using h1

theorem ready_iff {listed : Array Bool} {m i : Nat} (h : Rel ops listed m) : i ∈ Region.ready .any ops listed ↔ ∃ x, (i, x) ∈ readyL m 0 (ops.toList.map (infoOf P ops)) := by
  rw [mem_ready]
  constructor
  · rintro ⟨h1, o, ho, h2⟩
    have hlt := (Array.getElem?_eq_some_iff.1 ho).1
    refine ⟨infoOf P ops o, mem_readyL.2 ⟨Nat.zero_le _, by simp [ho], (unlisted_iff h hlt).1 h1, ?_⟩⟩
    intro t ht
    simp only [infoOf] at ht
    rw [tb_maskOf] at ht
    obtain ⟨e, he, hb, rfl⟩ := mem_depsOf.1 (of_decide_eq_true ht)
    rw [← h.same]
    exact h2 e he hb
  · rintro ⟨x, hx⟩
    obtain ⟨_, h1, h2, h3⟩ := mem_readyL.1 hx
    simp only [Nat.sub_zero, List.getElem?_map, Array.getElem?_toList, Option.map_eq_some_iff] at h1
    obtain ⟨o, ho, rfl⟩ := h1
    have hlt := (Array.getElem?_eq_some_iff.1 ho).1
    refine ⟨(unlisted_iff h hlt).2 h2, o, ho, fun e he hb => ?_⟩
    rw [h.same]
    exact h3 _ (by simp only [infoOf]; rw [tb_maskOf]; exact decide_eq_true (mem_depsOf.2 ⟨e, he, hb, rfl⟩))

theorem and_zero {a b t : Nat} (h : Nat.beq (Nat.land a b) 0 = true) (ha : a.testBit t = true) : b.testBit t = false := by
  have h1 : a &&& b = 0 := Nat.eq_of_beq_eq_true h
  have h2 : (a &&& b).testBit t = false := by rw [h1]; simp
  rw [Nat.testBit_and, ha] at h2
  simpa using h2

theorem apartM_sound {x y : Oper} (h : apartM (infoOf P ops x) (infoOf P ops y) = true) : x.apart ops y = true := by
  simp only [apartM, Bool.and_eq_true, infoOf] at h
  obtain ⟨h1, h2⟩ := h
  unfold Oper.apart
  rw [Bool.and_eq_true]
  constructor
  · cases hx : x.dst with
    | none => rfl
    | some d =>
      have hd : (maskOf (opDst x)).testBit d = true := by rw [tb_maskOf]; simp [opDst, hx]
      have h3 := and_zero h1 hd
      have e : Nat.lor (maskOf (y.looksAt ops)) (maskOf (opDst y)) = maskOf (y.looksAt ops) ||| maskOf (opDst y) := rfl
      rw [e, Nat.testBit_or, tb_maskOf, tb_maskOf] at h3
      simp only [Bool.or_eq_false_iff, decide_eq_false_iff_not] at h3
      simp only [Bool.and_eq_true, Bool.not_eq_true', bne_iff_ne, ne_eq]
      refine ⟨by simpa using h3.1, fun hy => h3.2 (by simp [opDst, hy])⟩
  · cases hy : y.dst with
    | none => rfl
    | some d =>
      have hd : (maskOf (opDst y)).testBit d = true := by rw [tb_maskOf]; simp [opDst, hy]
      have h3 := and_zero h2 hd
      rw [tb_maskOf] at h3
      simpa using h3

theorem freeAll_spec {i : Nat} {x : OI} : ∀ {l : List OI} {k j : Nat} {y : OI}, freeAll i x k l = true → k ≤ j → l[j - k]? = some y → i = j ∨ y.deps.testBit i = true ∨ x.deps.testBit j = true ∨ apartM x y = true
  | [], k, j, y, _, _, hy => by simp at hy
  | z :: r, k, j, y, h, hk, hy => by
    simp only [freeAll, Bool.and_eq_true, Bool.or_eq_true, tb_eq] at h
    by_cases e : j = k
    · subst e
      simp only [Nat.sub_self, List.getElem?_cons_zero, Option.some.injEq] at hy
      subst hy
      rcases h.1 with ((h1 | h1) | h1) | h1
      · exact .inl (Nat.eq_of_beq_eq_true h1)
      · exact .inr (.inl h1)
      · exact .inr (.inr (.inl h1))
      · exact .inr (.inr (.inr h1))
    · refine freeAll_spec h.2 (by omega) ?_
      rw [show j - k = (j - (k + 1)) + 1 by omega] at hy
      simpa using hy

theorem freeTab_spec {l : List OI} : ∀ {r : List OI} {k i : Nat} {x : OI}, freeTab l k r = true → k ≤ i → r[i - k]? = some x → x.kind ≠ 2 → freeAll i x 0 l = true
  | [], k, i, x, _, _, hx, _ => by simp at hx
  | z :: r, k, i, x, h, hk, hx, hn => by
    simp only [freeTab, Bool.and_eq_true, Bool.or_eq_true] at h
    by_cases e : i = k
    · subst e
      simp only [Nat.sub_self, List.getElem?_cons_zero, Option.some.injEq] at hx
      subst hx
      rcases h.1 with h1 | h1
      · exact absurd (Nat.eq_of_beq_eq_true h1) hn
      · exact h1
    · refine freeTab_spec h.2 (by omega) ?_ hn
      rw [show i - k = (i - (k + 1)) + 1 by omega] at hx
      simpa using hx

theorem tb_upOf {T : List Nat} {i : Nat} : ∀ {l : List Nat}, (upOf T l).testBit i = true → ∃ t ∈ l, i = t ∨ (T.getD t 0).testBit i = true
  | [], h => by simp [upOf] at h
  | t :: r, h => by
    have e : upOf T (t :: r) = (bitm t ||| T.getD t 0) ||| upOf T r := rfl
    rw [e, Nat.testBit_or, Nat.testBit_or, tb_bitm] at h
    simp only [Bool.or_eq_true, decide_eq_true_eq] at h
    rcases h with (h | h) | h
    · exact ⟨t, by simp, .inl h.symm⟩
    · exact ⟨t, by simp, .inr h⟩
    · obtain ⟨u, hu, h⟩ := tb_upOf h
      exact ⟨u, by simp [hu], h⟩

theorem ancOk_spec {T : List Nat} : ∀ {r : List Oper} {k j : Nat} {o : Oper}, ancOk T k r = true → k ≤ j → r[j - k]? = some o → (∀ t ∈ depsOf o, t < j) ∧ T.getD j 0 = upOf T (depsOf o)
  | [], k, j, o, _, _, ho => by simp at ho
  | z :: r, k, j, o, h, hk, ho => by
    simp only [ancOk, Bool.and_eq_true] at h
    by_cases e : j = k
    · subst e
      simp only [Nat.sub_self, List.getElem?_cons_zero, Option.some.injEq] at ho
      subst ho
      refine ⟨fun t ht => ?_, Nat.eq_of_beq_eq_true h.1.2⟩
      exact Nat.le_of_ble_eq_true (List.all_eq_true.1 h.1.1 t ht)
    · refine ancOk_spec h.2 (by omega) ?_
      rw [show j - k = (j - (k + 1)) + 1 by omega] at ho
      simpa using ho

theorem anc_tab {T : List Nat} (h : ancOk T 0 ops.toList = true) (hl : T.length = ops.size) (i : Nat) : ∀ m j, j < m → (T.getD j 0).testBit i = true → ∃ n, ancB ops n j i = true
  | 0, _, h0, _ => absurd h0 (Nat.not_lt_zero _)
  | m + 1, j, hj, h' => by
    rcases Nat.lt_or_ge j ops.size with hlt | hge
    · have ho : ops[j]? = some ops[j] := Array.getElem?_eq_getElem hlt
      obtain ⟨h1, h2⟩ := ancOk_spec h (Nat.zero_le j) (o := ops[j]) (by simp [ho])
      rw [h2] at h'
      obtain ⟨t, ht, hi⟩ := tb_upOf h'
      obtain ⟨e, he, hb, rfl⟩ := mem_depsOf.1 ht
      rcases hi with rfl | hi
      · refine ⟨1, ?_⟩
        unfold ancB
        simp only [ho, List.any_eq_true, Bool.and_eq_true, Bool.or_eq_true]
        exact ⟨e, by simpa using he, hb, .inl (Nat.beq_refl _)⟩
      · obtain ⟨n, hn⟩ := anc_tab h hl i m e.on (by have := h1 _ ht; omega) hi
        refine ⟨n + 1, ?_⟩
        unfold ancB
        simp only [ho, List.any_eq_true, Bool.and_eq_true, Bool.or_eq_true]
        exact ⟨e, by simpa using he, hb, .inr hn⟩
    · rw [List.getD_eq_getElem?_getD, List.getElem?_eq_none (by omega)] at h'
      simp at h'

theorem holds_sound {l : List Nat} {H : Heap} {X : Prop} : ∀ {F : List (Nat × (Heap → Prop))}, holds F l H X → (∀ x ∈ F, x.1 ∈ l → x.2 H) ∧ X
  | [], h => ⟨by simp, h⟩
  | (i, φ) :: F, h => by
    simp only [holds] at h
    split at h
    · obtain ⟨h1, h2⟩ := h
      obtain ⟨h3, h4⟩ := holds_sound h2
      refine ⟨fun x hx hl => ?_, h4⟩
      rcases List.mem_cons.1 hx with rfl | hx
      · exact h1
      · exact h3 x hx hl
    · rename_i hc
      obtain ⟨h3, h4⟩ := holds_sound h
      refine ⟨fun x hx hl => ?_, h4⟩
      rcases List.mem_cons.1 hx with rfl | hx
      · simp only at hl
        exact absurd (by simpa using hl) (by simpa using hc)
      · exact h3 x hx hl

def effOf (P : Program) (ops : Array Oper) (i : Nat) : Bool := !isFloat P ops i

theorem kind_float {o : Oper} {i : Nat} (ho : ops[i]? = some o) : kindOf P o.op ≠ 2 ↔ isFloat P ops i = true := by
  simp only [isFloat, ho, kindOf]
  cases compP P o.op <;> cases compR P o.op <;> simp

theorem sched_sound (hsel : Region.noSelect ops = true) (hft : freeTab (ops.toList.map (infoOf P ops)) 0 (ops.toList.map (infoOf P ops)) = true) {T : List Nat} (hT : ancOk T 0 ops.toList = true) (hTl : T.length = ops.size) (hQ : ∀ c a a' w, Q (.panic c) a w → Q (.panic c) a' w) :
    ∀ (fuel : Nat) (listed : Array Bool) (m : Nat) (reads : List Nat) (l : List SOper) (S : Sym) (a : Act) (w : World) (F F' : List (Nat × (Heap → Prop))) (K : Sym → Heap → Prop) (ds : List Nat),
      sched P N ops (ops.toList.map (infoOf P ops)) T fuel m reads = some l → Rel ops listed m → Closed ops listed → Ag N S a → WPdraw P l S w.heap F K → (∀ x ∈ F, x.1 ∈ reads) → (∀ x ∈ F', x ∈ F ∨ ∀ H, x.2 H) → Good ops (effOf P ops) F' listed w →
      (∀ (j : Nat) (o : Oper), ops[j]? = some o → ∀ d, o.dst = some d → d ∈ ds) →
      (∀ S a' w', Ag N S a' → Sim w w' → Fr ds a a' → K S w'.heap → Q .normal a' w') → wpAnyF P ops Q (effOf P ops) F' fuel listed a w := by
  have hsel' := Region.noSelect_spec hsel
  intro fuel
  induction fuel with
  | zero =>
    intro listed m reads l S a w F F' K ds hs hrel hc ha h hF hF' hG hds hn
    have hnil : readyL m 0 (ops.toList.map (infoOf P ops)) = [] → Region.ready .any ops listed = [] := fun hr => by
      rw [List.eq_nil_iff_forall_not_mem]
      intro i hi
      obtain ⟨x, hx⟩ := (ready_iff (P := P) hrel).1 hi
      rw [hr] at hx; cases hx
    unfold sched at hs
    split at hs
    · rename_i hr
      simp only [Option.some.injEq] at hs; subst hs
      exact ⟨hnil hr, hn S a w ha (Sim.refl w) (Fr.refl _ a) h⟩
    · cases hs
    · rename_i e _; cases e
  | succ fuel ih =>
    intro listed m reads l S a w F F' K ds hs hrel hc ha h hF hF' hG hds hn
    have hnil : readyL m 0 (ops.toList.map (infoOf P ops)) = [] → Region.ready .any ops listed = [] := fun hr => by
      rw [List.eq_nil_iff_forall_not_mem]
      intro i hi
      obtain ⟨x, hx⟩ := (ready_iff (P := P) hrel).1 hi
      rw [hr] at hx; cases hx
    unfold sched at hs
    split at hs
    · rename_i hr
      simp only [Option.some.injEq] at hs; subst hs
      refine ⟨fun _ => hn S a w ha (Sim.refl w) (Fr.refl _ a) h, by rw [hnil hr]; simp⟩
    · rename_i e _; cases e
    · rename_i f e hne
      obtain rfl : fuel = f := by simpa using e
      split at hs
      · -- what only looks
        rename_i i x hfind
        have hmemx := List.mem_of_find?_eq_some hfind
        have hkind : x.kind ≤ 1 := Nat.le_of_ble_eq_true (by have := List.find?_some hfind; simpa using this)
        have hmem : i ∈ Region.ready .any ops listed := (ready_iff (P := P) hrel).2 ⟨x, hmemx⟩
        split at hs
        · rename_i o ho
          split at hs
          · rename_i s l' h1 h2
            simp only [Option.some.injEq] at hs; subst hs
            obtain ⟨e1, e2, e3, e4, e5, _⟩ := compOper_spec h1
            obtain ⟨_, hx1, _, hx3⟩ := mem_readyL.1 hmemx
            have hxo : x = infoOf P ops o := by
              simp only [Nat.sub_zero, List.getElem?_map, Array.getElem?_toList, ho, Option.map_some, Option.some.injEq] at hx1
              exact hx1.symm
            have hk2 : kindOf P o.op ≠ 2 := by
              have : x.kind = kindOf P o.op := by rw [hxo]; rfl
              omega
            have hfl : isFloat P ops i = true := (kind_float ho).1 hk2
            have hfa := freeTab_spec hft (Nat.zero_le i) (x := x) (by simpa using hx1) (by rw [hxo]; exact hk2)
            have hfree : ∀ j oj, ops[j]? = some oj → j ≠ i → listed.getD j true = false → (∀ e ∈ oj.after, Region.binds .any e = true → e.on ≠ i) → o.apart ops oj = true := by
              intro j oj hoj hji hun hno
              have hjlt := (Array.getElem?_eq_some_iff.1 hoj).1
              rcases freeAll_spec hfa (Nat.zero_le j) (y := infoOf P ops oj) (by simp [hoj]) with h3 | h3 | h3 | h3
              · exact absurd h3.symm hji
              · simp only [infoOf] at h3
                rw [tb_maskOf] at h3
                obtain ⟨e, he, hb, heq⟩ := mem_depsOf.1 (of_decide_eq_true h3)
                exact absurd heq (hno e he hb)
              · have h4 := hx3 j h3
                rw [(unlisted_iff hrel hjlt).1 hun] at h4
                cases h4
              · rw [hxo] at h3
                exact apartM_sound h3
            have hei : effOf P ops i = false := by simp [effOf, hfl]
            have hc' := hc.set hmem
            have hrel' := hrel.set (Array.getElem?_eq_some_iff.1 ho).1
            have next : ∀ (S' : Sym) (v : SV) (F2 F2' : List (Nat × (Heap → Prop))) (φ : Heap → Prop) (K2 : Sym → Heap → Prop), Ag N (S'.put o.dst v) (a.put o.dst v.toV) → YieldsIf P ops (fun w => φ w.heap) o v.toV a → φ w.heap → F2' = (i, φ) :: F' →
                (∀ y ∈ F2, y.1 ∈ (match Nat.beq x.kind 1 with | true => i :: reads | false => reads)) → (∀ x ∈ F2', x ∈ F2 ∨ ∀ H, x.2 H) → K2 = K → WPdraw P l' (S'.put o.dst v) w.heap F2 K2 → wpAnyF P ops Q (effOf P ops) F' (fuel + 1) listed a w := by
              intro S' v F2 F2' φ K2 ha2 hy hφ hF2' hF2 hF22 hK2 hw2
              subst hF2'; subst hK2
              refine wpAnyF_take ho hsel' hQ hei fuel listed a w hc hfree hmem hy hφ hG ?_
              refine ih _ _ _ l' _ _ w F2 _ _ ds h2 hrel' hc' ha2 hw2 hF2 hF22 ?_ hds ?_
              · intro x hx hl
                rcases List.mem_cons.1 hx with rfl | hx
                · exact hφ
                · exact hG x hx hl.of_set
              · intro S3 a3 w3 ha3 hs3 hf3 hk3
                refine hn S3 a3 w3 ha3 hs3 ?_ hk3
                refine ((Fr.put a o v.toV).trans hf3).mono ?_
                intro t ht
                rcases List.mem_append.1 ht with ht | ht
                · unfold opDst at ht
                  cases hd : o.dst with
                  | none => rw [hd] at ht; cases ht
                  | some d => rw [hd] at ht; simp only [List.mem_singleton] at ht; subst ht; exact hds i o ho _ hd
                · exact ht
            simp only [WPdraw] at h
            rcases guarded_sound e2 ha h with ⟨hw, S', ha', hy⟩ | ⟨hw, S', ha', hy⟩
            · unfold compS at e3
              split at e3
              · rename_i p hpp
                simp only [Option.some.injEq] at e3
                rw [← e3, e1] at hy
                simp only at hy
                obtain ⟨v, hk, hr⟩ := pure_sound (P := P) hpp ha'.agree hy
                have hir : Nat.beq x.kind 1 = false := by rw [hxo]; simp only [infoOf, kindOf, hpp]; rfl
                refine next S' v F _ (fun _ => True) K (ha'.put e4 v) (.inl ⟨hw, fun w _ => hr w⟩) trivial rfl (by rw [hir]; exact hF) ?_ rfl hk
                intro x hx
                rcases List.mem_cons.1 hx with rfl | hx
                · exact .inr fun _ => trivial
                · exact hF' x hx
              · rename_i hpp
                split at e3
                · rename_i r hrr
                  simp only [Option.some.injEq] at e3
                  rw [← e3, e1, e5] at hy
                  simp only at hy
                  obtain ⟨v, φ, hk, hφ, hr⟩ := read_sound (P := P) hrr ha'.agree hy
                  have hir : Nat.beq x.kind 1 = true := by rw [hxo]; simp only [infoOf, kindOf, hpp, hrr]; rfl
                  refine next S' v _ _ φ K (ha'.put e4 v) (.inl ⟨hw, fun w hw => hr w hw⟩) hφ rfl (by
                    rw [hir]
                    intro x hx
                    rcases List.mem_cons.1 hx with rfl | hx
                    · exact List.mem_cons_self
                    · exact List.mem_cons_of_mem _ (hF x hx)) ?_ rfl hk
                  intro x hx
                  rcases List.mem_cons.1 hx with rfl | hx
                  · exact .inl List.mem_cons_self
                  · rcases hF' x hx with h | h
                    · exact .inl (List.mem_cons_of_mem _ h)
                    · exact .inr h
                · rename_i hrr
                  exfalso
                  simp [isFloat, ho, hpp, hrr] at hfl
            · rw [e1] at hy
              refine next S' (.v undef) F _ (fun _ => True) K (ha'.put e4 _) (.inr ⟨hw, rfl⟩) trivial rfl ?_ ?_ rfl hy
              · intro x hx
                split
                · exact List.mem_cons_of_mem _ (hF x hx)
                · exact hF x hx
              · intro x hx
                rcases List.mem_cons.1 hx with rfl | hx
                · exact .inr fun _ => trivial
                · exact hF' x hx
          · cases hs
        · cases hs
      · -- what acts
        rename_i hfind
        split at hs
        · rename_i j xj hr
          split at hs
          · rename_i o ho
            split at hs
            · rename_i s l' h1 h2
              simp only [Option.some.injEq] at hs; subst hs
              obtain ⟨e1, e2, e3, e4, e5, e6⟩ := compOper_spec h1
              have hmemx : (j, xj) ∈ readyL m 0 (ops.toList.map (infoOf P ops)) := by rw [hr]; simp
              have hmem : j ∈ Region.ready .any ops listed := (ready_iff (P := P) hrel).2 ⟨xj, hmemx⟩
              obtain ⟨_, hx1, _, _⟩ := mem_readyL.1 hmemx
              have hxo : xj = infoOf P ops o := by
                simp only [Nat.sub_zero, List.getElem?_map, Array.getElem?_toList, ho, Option.map_some, Option.some.injEq] at hx1
                exact hx1.symm
              have hfl : isFloat P ops j = false := by
                cases hb : isFloat P ops j with
                | false => rfl
                | true =>
                  have h3 := (kind_float (P := P) ho).2 hb
                  have h4 := List.find?_eq_none.1 hfind (j, xj) hmemx
                  have h5 : xj.kind = kindOf P o.op := by rw [hxo]; rfl
                  have h6 : kindOf P o.op ≤ 2 := by
                    unfold kindOf
                    split
                    · omega
                    · split <;> omega
                  exfalso
                  apply h4
                  show Nat.ble xj.kind 1 = true
                  exact (Nat.ble_eq).mpr (by omega)
              have hc' := hc.set hmem
              have hrel' := hrel.set (Array.getElem?_eq_some_iff.1 ho).1
              refine ⟨fun h0 => by (rw [h0] at hmem; cases hmem), fun j' hj' => ?_⟩
              obtain ⟨x', hx'⟩ := (ready_iff (P := P) hrel).1 hj'
              rw [hr] at hx'
              obtain rfl : j' = j := by
                simp only [List.mem_singleton, Prod.mk.injEq] at hx'
                exact hx'.1
              have hej : effOf P ops j' = true := by simp [effOf, hfl]
              have frput : ∀ (v : Value) (a3 : Act), Fr ds (a.put o.dst v) a3 → Fr ds a a3 := by
                intro v a3 hf3
                refine ((Fr.put a o v).trans hf3).mono ?_
                intro t ht
                rcases List.mem_append.1 ht with ht | ht
                · unfold opDst at ht
                  cases hd : o.dst with
                  | none => rw [hd] at ht; cases ht
                  | some d => rw [hd] at ht; simp only [List.mem_singleton] at ht; subst ht; exact hds j' o ho _ hd
                · exact ht
              simp only [WPdraw] at h
              unfold wpOp
              simp only [ho]
              rcases guarded_sound e2 ha h with ⟨hw, S', ha', hy⟩ | ⟨hw, S', ha', hy⟩
              · rw [if_pos hw]
                refine .inl ?_
                unfold compS at e3
                split at e3
                · rename_i p hpp
                  simp [isFloat, ho, hpp] at hfl
                · split at e3
                  · rename_i r hrr
                    simp [isFloat, ho, hrr] at hfl
                  · split at e3
                    · rename_i q hq
                      simp only [Option.some.injEq] at e3
                      rw [← e3, e1, e6] at hy
                      simp only at hy
                      refine eff_sound (P := P) hq ha'.agree hy _ _ ?_
                      intro sv w' hs' hk
                      obtain ⟨hk1, hk2⟩ := holds_sound hk
                      have hG' : Good ops (effOf P ops) F' (listed.setIfInBounds j' true) w' := by
                        intro x hx hl
                        rcases hF' x hx with h | h
                        · refine hk1 x h ?_
                          rw [List.mem_filter]
                          refine ⟨hF x h, ?_⟩
                          have hjl : (listed.setIfInBounds j' true).getD j' false = true := by
                            have := (mem_ready.1 hmem).1
                            have hlt : j' < listed.size := by
                              rcases Nat.lt_or_ge j' listed.size with h' | h'
                              · exact h'
                              · simp [Array.getElem?_eq_none h'] at this
                            simp [hlt]
                          rw [tb_eq]
                          cases hb : (T.getD j' 0).testBit x.1 with
                          | false => rfl
                          | true => exact absurd hb (by
                              obtain ⟨n, hn⟩ := anc_tab hT hTl x.1 (j' + 1) j' (Nat.lt_succ_self _) hb
                              rw [hl j' hjl hej n] at hn
                              cases hn)
                        · exact h _
                      refine ⟨hG', ih _ _ reads l' _ _ w' F F' K ds h2 hrel' hc' (ha'.put e4 _) hk2 hF hF' hG' hds ?_⟩
                      intro S3 a3 w3 ha3 hs3 hf3 hk3
                      exact hn S3 a3 w3 ha3 (hs'.trans hs3) (frput _ _ hf3) hk3
                    · cases e3
              · rw [hw, if_neg (by simp)]
                rw [e1] at hy
                have hG' : Good ops (effOf P ops) F' (listed.setIfInBounds j' true) w := fun x hx hl => hG x hx hl.of_set
                refine ⟨hG', ih _ _ reads l' _ _ w F F' K ds h2 hrel' hc' (ha'.put e4 _) hy hF hF' hG' hds ?_⟩
                intro S3 a3 w3 ha3 hs3 hf3 hk3
                exact hn S3 a3 w3 ha3 hs3 (frput _ _ hf3) hk3
            · cases hs
          · cases hs
        · cases hs

theorem schedule_sound (hQ : ∀ c a a' w, Q (.panic c) a w → Q (.panic c) a' w) {l : List SOper} (hs : schedule P N ops = some l) {S : Sym} {a : Act} {w : World} {K : Sym → Heap → Prop} (ds : List Nat)
    (ha : Ag N S a) (h : WPdraw P l S w.heap [] K) (hds : ∀ (j : Nat) (o : Oper), ops[j]? = some o → ∀ d, o.dst = some d → d ∈ ds)
    (hn : ∀ S a' w', Ag N S a' → Sim w w' → Fr ds a a' → K S w'.heap → Q .normal a' w') : wpAnyF P ops Q (effOf P ops) [] ops.size (Array.replicate ops.size false) a w := by
  unfold schedule at hs
  simp only at hs
  split at hs
  · rename_i hb
    simp only [Bool.and_eq_true] at hb
    obtain ⟨⟨h1, h2⟩, h3, h4⟩ := hb
    have hz : ∀ j, (Array.replicate ops.size false).getD j false = false := fun j => by
      rw [Array.getD_eq_getD_getElem?, Array.getElem?_replicate]
      split <;> rfl
    refine sched_sound h1 h2 h3 (Nat.eq_of_beq_eq_true h4) hQ ops.size _ 0 [] l S a w [] [] K ds hs ⟨by simp, fun j => ?_⟩ ?_ ha h (by simp) (by simp) (fun x hx => by cases hx) hds hn
    · rw [hz]; simp
    · intro j oj _ hj
      rw [hz] at hj
      cases hj
  · cases hs
end
end Go.Vc

namespace Go.Vc

def firstRegion : Code → Option Nat
  | .region id _ _ => some id
  | .seq a _ => firstRegion a
  | .block _ a => firstRegion a
  | .loop a => firstRegion a
  | _ => none

def dstsC : Code → List Nat
  | .region _ ops _ => dstsL ops.toList
  | .seq a b => dstsC a ++ dstsC b
  | .cond _ a b => dstsC a ++ dstsC b
  | .block _ a => dstsC a
  | .loop a => dstsC a
  | .scope a => dstsC a
  | _ => []

def dedup : List Nat → List Nat
  | [] => []
  | x :: r => match r.contains x with
    | true => dedup r
    | false => x :: dedup r

def without (l ex : List Nat) : List Nat := l.filter fun x => !ex.contains x

def annOf (ann : List (Nat × List (Nat × Value))) (r : Option Nat) : Option (List (Nat × Value)) :=
  match r with
  | none => none
  | some r => match ann with
    | [] => none
    | (k, v) :: l => match Nat.beq k r with
      | true => some v
      | false => annOf l (some r)

def compC (P : Program) (N : Nat) (ex : List Nat) (ann : List (Nat × List (Nat × Value))) : Code → Option SCode
  | .skip => some .skip
  | .region _ ops false => match compOps P N ops ops.toList with
    | some l => some (.region l)
    | none => none
  | .region _ ops true => match schedule P N ops with
    | some l => some (.draw l)
    | none => none
  | .seq a b => match compC P N ex ann a, compC P N ex ann b with
    | some x, some y => match annOf ann (firstRegion b) with
      | some vars => some (.cut vars (dedup (dstsC a)) x y)
      | none => some (.seq x y)
    | _, _ => none
  | .cond c a b => match compC P N ex ann a, compC P N ex ann b with
    | some x, some y => some (.cond (src c) x y)
    | _, _ => none
  | .block id a => match compC P N ex ann a with
    | some x => some (.block id x)
    | none => none
  | .loop a => match compC P N ex ann a with
    | some x => some (.loop (dedup (dstsC a)) (without (dedup (dstsC a)) ex) x)
    | none => none
  | .exit id => some (.exit id)
  | .ret => some .ret
  | _ => none

/-! ### Parts of values -/

def val1 (T : Type) (z : Value) (f : Fun1 z T) (v : Value) : Option T :=
  match z, f, v with
  | .int k _, f, .int k' n => if k = k' then some (f n) else none
  | .bool _, f, .bool n => some (f n)
  | .string _, f, .string n => some (f n)
  | .float k _, f, .float k' n => if k = k' then some (f n) else none
  | .pointer _, f, .pointer n => some (f n)
  | .slice _ _ _, f, .slice a n m => some (f a n m)
  | .map _, f, .map n => some (f n)
  | .complex _ _ _, f, v => some (f v)
  | .chan _, f, v => some (f v)
  | .func _ _ _, f, v => some (f v)
  | .nilFunc, f, v => some (f v)
  | .iface _ _, f, v => some (f v)
  | .nilIface, f, v => some (f v)
  | .agg _, f, v => some (f v)
  | .tuple _, f, v => some (f v)
  | _, _, _ => none

def valA (T : Type) : (zs : List Value) → FunA zs T → List Value → Option T
  | [], f, [] => some f
  | z :: r, f, v :: vs => (val1 (FunA r T) z f v).bind fun g => valA T r g vs
  | _, _, _ => none

def valV (T : Type) (z : Value) (f : FunV z T) (v : Value) : Option T :=
  match z, f, v with
  | .agg cs, f, .agg vs => valA T cs.toList f vs.toList
  | .agg _, _, _ => none
  | .int k n, f, v => val1 T (.int k n) f v
  | .bool n, f, v => val1 T (.bool n) f v
  | .string n, f, v => val1 T (.string n) f v
  | .float k n, f, v => val1 T (.float k n) f v
  | .pointer n, f, v => val1 T (.pointer n) f v
  | .slice a n m, f, v => val1 T (.slice a n m) f v
  | .map n, f, v => val1 T (.map n) f v
  | .complex a b c, f, v => val1 T (.complex a b c) f v
  | .chan a, f, v => val1 T (.chan a) f v
  | .func a b c, f, v => val1 T (.func a b c) f v
  | .nilFunc, f, v => val1 T .nilFunc f v
  | .iface a b, f, v => val1 T (.iface a b) f v
  | .nilIface, f, v => val1 T .nilIface f v
  | .tuple a, f, v => val1 T (.tuple a) f v

def valL (T : Type) : (zs : List Value) → FunL zs T → List Value → Option T
  | [], f, [] => some f
  | z :: r, f, v :: vs => (valV (FunL r T) z f v).bind fun g => valL T r g vs
  | _, _, _ => none

section
variable {T U : Type}

theorem app1_val {z v : Value} {f : Fun1 z T} {g : Fun1 z U} {K : T → U → Prop} (h : app1 z T U f g v K) : ∃ x y, val1 T z f v = some x ∧ val1 U z g v = some y ∧ K x y := by
  cases z <;> cases v <;> simp only [app1] at h <;> first
    | exact h.elim
    | exact ⟨_, _, rfl, rfl, h⟩
    | (split at h
       · rename_i hk
         obtain rfl := of_decide_eq_true hk
         exact ⟨_, _, if_pos rfl, if_pos rfl, h⟩
       · exact h.elim)

theorem all1_val {z v : Value} {f : Fun1 z T} {g : Fun1 z U} {K : Value → T → U → Prop} {x : T} {y : U} (h : all1 z T U f g K) (hx : val1 T z f v = some x) (hy : val1 U z g v = some y) : K v x y := by
  cases z <;> cases v <;> simp only [val1] at hx hy <;> simp only [all1] at h <;> first
    | (cases hx; done)
    | (simp only [Option.some.injEq] at hx hy; subst hx; subst hy; first | exact h _ | exact h _ _ _)
    | (split at hx
       · rename_i hk
         subst hk
         simp only [if_true, Option.some.injEq] at hx hy
         subst hx; subst hy
         exact h _
       · cases hx)

theorem appA_val : ∀ {zs vs : List Value} {f : FunA zs T} {g : FunA zs U} {K : T → U → Prop}, appA zs T U f g vs K → ∃ x y, valA T zs f vs = some x ∧ valA U zs g vs = some y ∧ K x y
  | [], [], f, g, K, h => ⟨f, g, rfl, rfl, h⟩
  | [], _ :: _, f, g, K, h => h.elim
  | _ :: _, [], f, g, K, h => h.elim
  | z :: r, v :: vs, f, g, K, h => by
    simp only [appA] at h
    obtain ⟨x, y, h1, h2, h3⟩ := app1_val h
    obtain ⟨x', y', h4, h5, h6⟩ := appA_val h3
    exact ⟨x', y', by simp only [valA, h1, Option.bind_some, h4], by simp only [valA, h2, Option.bind_some, h5], h6⟩

theorem allA_val : ∀ {zs vs : List Value} {f : FunA zs T} {g : FunA zs U} {K : List Value → T → U → Prop} {x : T} {y : U}, allA zs T U f g K → valA T zs f vs = some x → valA U zs g vs = some y → K vs x y
  | [], [], f, g, K, x, y, h, hx, hy => by
    cases hx; cases hy; exact h
  | [], _ :: _, f, g, K, x, y, h, hx, hy => by simp [valA] at hx
  | _ :: _, [], f, g, K, x, y, h, hx, hy => by simp [valA] at hx
  | z :: r, v :: vs, f, g, K, x, y, h, hx, hy => by
    simp only [valA, Option.bind_eq_some_iff] at hx hy
    obtain ⟨x', h1, h2⟩ := hx
    obtain ⟨y', h3, h4⟩ := hy
    simp only [allA] at h
    exact allA_val (K := fun vs f g => K (v :: vs) f g) (all1_val h h1 h3) h2 h4

theorem appV_val {z v : Value} {f : FunV z T} {g : FunV z U} {K : T → U → Prop} (h : appV z T U f g v K) : ∃ x y, valV T z f v = some x ∧ valV U z g v = some y ∧ K x y := by
  cases z with
  | agg cs => cases v <;> first | exact appA_val h | exact h.elim
  | int k n => exact app1_val (z := .int k n) h
  | bool n => exact app1_val (z := .bool n) h
  | string n => exact app1_val (z := .string n) h
  | float k n => exact app1_val (z := .float k n) h
  | pointer n => exact app1_val (z := .pointer n) h
  | slice a n m => exact app1_val (z := .slice a n m) h
  | map n => exact app1_val (z := .map n) h
  | complex a b c => exact app1_val (z := .complex a b c) h
  | chan a => exact app1_val (z := .chan a) h
  | func a b c => exact app1_val (z := .func a b c) h
  | nilFunc  => exact app1_val (z := .nilFunc ) h
  | iface a b => exact app1_val (z := .iface a b) h
  | nilIface  => exact app1_val (z := .nilIface ) h
  | tuple a => exact app1_val (z := .tuple a) h

theorem allV_val {z v : Value} {f : FunV z T} {g : FunV z U} {K : Value → T → U → Prop} {x : T} {y : U} (h : allV z T U f g K) (hx : valV T z f v = some x) (hy : valV U z g v = some y) : K v x y := by
  cases z with
  | agg cs =>
    cases v with
    | agg vs =>
      have := allA_val (K := fun vs f g => K (.agg vs.toArray) f g) h hx hy
      simpa using this
    | _ => simp [valV] at hx
  | int k n => exact all1_val (z := .int k n) h hx hy
  | bool n => exact all1_val (z := .bool n) h hx hy
  | string n => exact all1_val (z := .string n) h hx hy
  | float k n => exact all1_val (z := .float k n) h hx hy
  | pointer n => exact all1_val (z := .pointer n) h hx hy
  | slice a n m => exact all1_val (z := .slice a n m) h hx hy
  | map n => exact all1_val (z := .map n) h hx hy
  | complex a b c => exact all1_val (z := .complex a b c) h hx hy
  | chan a => exact all1_val (z := .chan a) h hx hy
  | func a b c => exact all1_val (z := .func a b c) h hx hy
  | nilFunc  => exact all1_val (z := .nilFunc ) h hx hy
  | iface a b => exact all1_val (z := .iface a b) h hx hy
  | nilIface  => exact all1_val (z := .nilIface ) h hx hy
  | tuple a => exact all1_val (z := .tuple a) h hx hy

theorem appL_val : ∀ {zs vs : List Value} {f : FunL zs T} {g : FunL zs U} {K : T → U → Prop}, appL zs T U f g vs K → ∃ x y, valL T zs f vs = some x ∧ valL U zs g vs = some y ∧ K x y
  | [], [], f, g, K, h => ⟨f, g, rfl, rfl, h⟩
  | [], _ :: _, f, g, K, h => h.elim
  | _ :: _, [], f, g, K, h => h.elim
  | z :: r, v :: vs, f, g, K, h => by
    simp only [appL] at h
    obtain ⟨x, y, h1, h2, h3⟩ := appV_val h
    obtain ⟨x', y', h4, h5, h6⟩ := appL_val h3
    exact ⟨x', y', by simp only [valL, h1, Option.bind_some, h4], by simp only [valL, h2, Option.bind_some, h5], h6⟩

theorem allL_val : ∀ {zs vs : List Value} {f : FunL zs T} {g : FunL zs U} {K : List Value → T → U → Prop} {x : T} {y : U}, allL zs T U f g K → valL T zs f vs = some x → valL U zs g vs = some y → K vs x y
  | [], [], f, g, K, x, y, h, hx, hy => by
    cases hx; cases hy; exact h
  | [], _ :: _, f, g, K, x, y, h, hx, hy => by simp [valL] at hx
  | _ :: _, [], f, g, K, x, y, h, hx, hy => by simp [valL] at hx
  | z :: r, v :: vs, f, g, K, x, y, h, hx, hy => by
    simp only [valL, Option.bind_eq_some_iff] at hx hy
    obtain ⟨x', h1, h2⟩ := hx
    obtain ⟨y', h3, h4⟩ := hy
    simp only [allL] at h
    exact allL_val (K := fun vs f g => K (v :: vs) f g) (allV_val h h1 h3) h2 h4
end
end Go.Vc

namespace Go.Vc

section
variable {P : Program} {N : Nat}

theorem get_put_del {S : Sym} {mods : List Nat} {t : Nat} {s : SV} (h : (S.del mods).get t = some s) : t ∉ mods ∧ S.get t = some s := by
  induction S with
  | nil => cases h
  | cons x r ih =>
    obtain ⟨i, u⟩ := x
    unfold Sym.del at h
    rw [get_cons]
    split at h
    · rename_i hm
      obtain ⟨h1, h2⟩ := ih h
      refine ⟨h1, ?_⟩
      rw [if_neg]
      · exact h2
      · rintro rfl
        exact h1 (by simpa using hm)
    · rename_i hm
      rw [get_cons] at h
      split at h
      · rename_i e
        subst e
        rw [if_pos rfl]
        exact ⟨by simpa using hm, h⟩
      · rename_i e
        obtain ⟨h1, h2⟩ := ih h
        rw [if_neg e]
        exact ⟨h1, h2⟩

theorem get_syms {S : Sym} {a : Act} : ∀ (ts : List Nat), Agree S a → Agree (syms ts (ts.map fun t => a.tmps.getD t undef) S) a
  | [], h => h
  | t :: ts, h => by
    intro t' s' h'
    simp only [List.map_cons, syms, get_cons] at h'
    split at h'
    · rename_i e; subst e
      simp only [Option.some.injEq] at h'; subst h'; rfl
    · exact get_syms ts h t' s' h'

theorem Ag.del {S : Sym} {a a' : Act} {mods : List Nat} (h : Ag N S a) (hf : Fr mods a a') (hs : a'.tmps.size = N) (hd : a'.defers = []) : Ag N (S.del mods) a' := by
  refine ⟨hs, hd, fun t s ht => ?_⟩
  obtain ⟨h1, h2⟩ := get_put_del ht
  rw [hf t h1]
  exact h.agree t s h2

theorem getAll_spec {S : Sym} {a : Act} (h : Agree S a) : ∀ {ts : List Nat} {ss : List SV}, getAll S ts = some ss → ss.map SV.toV = ts.map fun t => a.tmps.getD t undef
  | [], ss, hg => by simp only [getAll, Option.some.injEq] at hg; subst hg; rfl
  | t :: ts, ss, hg => by
    simp only [getAll] at hg
    split at hg
    · rename_i s l h1 h2
      simp only [Option.some.injEq] at hg; subst hg
      simp only [List.map_cons]
      rw [h t s h1, getAll_spec h h2]
    · cases hg

theorem lives_get {S : Sym} : ∀ {ts : List Nat} {x : Nat × SV}, x ∈ lives S ts → S.get x.1 = some x.2
  | [], x, h => by cases h
  | t :: ts, x, h => by
    simp only [lives] at h
    split at h
    · rename_i s hs
      rcases List.mem_cons.1 h with rfl | h
      · exact hs
      · exact lives_get h
    · exact lives_get h

/-- What is known where the code is left. -/
def QF (K : Kont) (N : Nat) (w : World) (a : Act) (l : List Nat) : Exit → Act → World → Prop := fun e a' w' =>
  match e with
  | .normal => Fr l a a' ∧ Sim w w' ∧ ∃ S, Ag N S a' ∧ K.norm S w'.heap
  | .exit id => Fr l a a' ∧ Sim w w' ∧ ∃ S, Ag N S a' ∧ K.exit id S w'.heap
  | .ret => Fr l a a' ∧ Sim w w' ∧ ∃ S, Ag N S a' ∧ K.ret S w'.heap
  | _ => False

theorem dedup_mem {l : List Nat} {t : Nat} : t ∈ dedup l ↔ t ∈ l := by
  induction l with
  | nil => rfl
  | cons x r ih =>
    unfold dedup
    split
    · rename_i h
      rw [ih, List.mem_cons]
      constructor
      · exact .inr
      · rintro (rfl | h')
        · simpa using h
        · exact h'
    · rw [List.mem_cons, List.mem_cons, ih]

theorem mem_dstsL {ops : Array Oper} {j : Nat} {o : Oper} {d : Nat} (ho : ops[j]? = some o) (hd : o.dst = some d) : d ∈ dstsL ops.toList := by
  unfold dstsL
  rw [List.mem_flatMap]
  refine ⟨o, ?_, by simp [opDst, hd]⟩
  have := Array.mem_of_getElem? ho
  simpa using this

theorem getD_replicate_false' (m j : Nat) : (Array.replicate m false).getD j false = false := by
  rcases Nat.lt_or_ge j m with h | h
  · simp [h]
  · simp [h]

theorem code_sound {ex : List Nat} {ann : List (Nat × List (Nat × Value))} (hm : P.follows .mixedOrders = true) : ∀ (c : Code) (sc : SCode), compC P N ex ann c = some sc → ∀ (K : Kont) (S : Sym) (a : Act) (w : World),
    Ag N S a → WP P sc K S w.heap → c.wp P (QF K N w a (dstsC c)) a w := by
  intro c
  induction c with
  | skip =>
    intro sc hc K S a w ha h
    simp only [compC, Option.some.injEq] at hc; subst hc
    exact wp_skip ⟨Fr.refl _ a, Sim.refl w, S, ha, h⟩
  | region id ops d =>
    intro sc hc K S a w ha h
    cases d with
    | false =>
      simp only [compC] at hc
      split at hc
      · rename_i l hl
        simp only [Option.some.injEq] at hc; subst hc
        refine wp_region_list (ops_sound ops.toList l hl S a w K.norm ha h ?_)
        intro S' a' w' ha' hs hf hk
        exact ⟨hf, hs, S', ha', hk⟩
      · cases hc
    | true =>
      simp only [compC] at hc
      split at hc
      · rename_i l hl
        simp only [Option.some.injEq] at hc; subst hc
        refine wp_region_any hm (wpAny_of_F (eff := effOf P ops) (F := []) _ _ _ _ (schedule_sound (fun c a a' w h => h) hl (dstsL ops.toList) (w := { w with drawn := w.drawn + 1 }) ha h ?_ ?_))
        · intro j o ho d hd
          exact mem_dstsL ho hd
        · intro S' a' w' ha' hs hf hk
          exact ⟨hf, ⟨hs.os, hs.tape, hs.output⟩, S', ha', hk⟩
      · cases hc
  | seq x y ihx ihy =>
    intro sc hc K S a w ha h
    simp only [compC] at hc
    split at hc
    · rename_i sx sy h1 h2
      split at hc
      · -- a cut
        rename_i vars _
        simp only [Option.some.injEq] at hc; subst hc
        simp only [WP] at h
        obtain ⟨I, hx, hy⟩ := h
        refine wp_seq (wp_mono (ihx sx h1 _ S a w ha hx) ?_)
        intro e a' w' hq
        cases e with
        | normal =>
          obtain ⟨hf, hs, S', ha', hk⟩ := hq
          simp only at hk
          split at hk
          · rename_i ss hss
            obtain ⟨X, Y, hX, hY, hXH⟩ := appL_val hk
            rw [getAll_spec ha'.agree hss] at hX hY
            have hall := allL_val hy hX hY
            have hmods : Fr (dedup (dstsC x)) a a' := hf.mono fun t ht => dedup_mem.2 ht
            have hd := ha.del hmods ha'.size ha'.defers
            have hag : Ag N (syms (vars.map (·.1)) ((vars.map (·.1)).map fun t => a'.tmps.getD t undef) (S.del (dedup (dstsC x)))) a' := ⟨ha'.size, ha'.defers, get_syms _ hd.agree⟩
            refine wp_mono (ihy sy h2 K _ a' w' hag (hall w'.heap hXH)) ?_
            intro e2 a2 w2 hq2
            cases e2 with
            | normal => exact ⟨hf.trans hq2.1, hs.trans hq2.2.1, hq2.2.2⟩
            | exit id => exact ⟨hf.trans hq2.1, hs.trans hq2.2.1, hq2.2.2⟩
            | ret => exact ⟨hf.trans hq2.1, hs.trans hq2.2.1, hq2.2.2⟩
            | _ => exact hq2.elim
          · exact hk.elim
        | exit id => exact ⟨hq.1.mono fun t ht => List.mem_append_left _ ht, hq.2⟩
        | ret => exact ⟨hq.1.mono fun t ht => List.mem_append_left _ ht, hq.2⟩
        | _ => exact hq.elim
      · simp only [Option.some.injEq] at hc; subst hc
        simp only [WP] at h
        refine wp_seq (wp_mono (ihx sx h1 _ S a w ha h) ?_)
        intro e a' w' hq
        cases e with
        | normal =>
          obtain ⟨hf, hs, S', ha', hk⟩ := hq
          refine wp_mono (ihy sy h2 K S' a' w' ha' hk) ?_
          intro e2 a2 w2 hq2
          cases e2 with
          | normal => exact ⟨hf.trans hq2.1, hs.trans hq2.2.1, hq2.2.2⟩
          | exit id => exact ⟨hf.trans hq2.1, hs.trans hq2.2.1, hq2.2.2⟩
          | ret => exact ⟨hf.trans hq2.1, hs.trans hq2.2.1, hq2.2.2⟩
          | _ => exact hq2.elim
        | exit id => exact ⟨hq.1.mono fun t ht => List.mem_append_left _ ht, hq.2⟩
        | ret => exact ⟨hq.1.mono fun t ht => List.mem_append_left _ ht, hq.2⟩
        | _ => exact hq.elim
    · cases hc
  | cond c x y ihx ihy =>
    intro sc hc K S a w ha h
    simp only [compC] at hc
    split at hc
    · rename_i sx sy h1 h2
      simp only [Option.some.injEq] at hc; subst hc
      simp only [WP] at h
      split at h
      · rename_i s hs
        obtain ⟨b, h3, h4⟩ := branch_sound h
        have hb : a.eval c = .bool b := by rw [ev_sound ha.agree hs, h3]
        cases b
        · refine wp_cond_false hb (wp_mono (ihy sy h2 K S a w ha h4) ?_)
          intro e a' w' hq
          cases e with
          | normal => exact ⟨hq.1.mono fun t ht => List.mem_append_right _ ht, hq.2⟩
          | exit id => exact ⟨hq.1.mono fun t ht => List.mem_append_right _ ht, hq.2⟩
          | ret => exact ⟨hq.1.mono fun t ht => List.mem_append_right _ ht, hq.2⟩
          | _ => exact hq.elim
        · refine wp_cond_true hb (wp_mono (ihx sx h1 K S a w ha h4) ?_)
          intro e a' w' hq
          cases e with
          | normal => exact ⟨hq.1.mono fun t ht => List.mem_append_left _ ht, hq.2⟩
          | exit id => exact ⟨hq.1.mono fun t ht => List.mem_append_left _ ht, hq.2⟩
          | ret => exact ⟨hq.1.mono fun t ht => List.mem_append_left _ ht, hq.2⟩
          | _ => exact hq.elim
      · exact h.elim
    · cases hc
  | block id x ih =>
    intro sc hc K S a w ha h
    simp only [compC] at hc
    split at hc
    · rename_i sx h1
      simp only [Option.some.injEq] at hc; subst hc
      simp only [WP] at h
      refine wp_block (wp_mono (ih sx h1 _ S a w ha h) ?_)
      intro e a' w' hq
      cases e with
      | normal => exact hq
      | exit i =>
        obtain ⟨hf, hs, S', ha', hk⟩ := hq
        simp only [Exit.inBlock]
        simp only at hk
        split at hk
        · rename_i hb
          rw [if_pos (Nat.eq_of_beq_eq_true hb)]
          exact ⟨hf, hs, S', ha', hk⟩
        · rename_i hb
          rw [if_neg]
          · exact ⟨hf, hs, S', ha', hk⟩
          · rintro rfl
            simp at hb
      | ret => exact hq
      | _ => exact hq.elim
    · cases hc
  | loop x ih =>
    intro sc hc K S a w ha h
    simp only [compC] at hc
    split at hc
    · rename_i sx h1
      simp only [Option.some.injEq] at hc; subst hc
      simp only [WP] at h
      generalize hlv : lives S (without (dedup (dstsC x)) ex) = lv at h
      obtain ⟨I, μ, hin, hst⟩ := h
      have hslots : lv.map (·.2.toV) = (lv.map (·.1)).map fun t => a.tmps.getD t undef := by
        rw [List.map_map]
        apply List.map_congr_left
        intro y hy
        rw [← hlv] at hy
        exact (ha.agree y.1 y.2 (lives_get hy)).symm
      refine wp_loop
        (fun a' w' => Fr (dstsC x) a a' ∧ Sim w w' ∧ a'.tmps.size = N ∧ a'.defers = [] ∧ ∃ X m, valL (Heap → Prop) _ I ((lv.map (·.1)).map fun t => a'.tmps.getD t undef) = some X ∧ valL (Heap → Nat) _ μ ((lv.map (·.1)).map fun t => a'.tmps.getD t undef) = some m ∧ X w'.heap)
        (fun a' w' => ((valL (Heap → Nat) _ μ ((lv.map (·.1)).map fun t => a'.tmps.getD t undef)).map (· w'.heap)).getD 0) ?_ ?_
      · obtain ⟨X, m, hX, hm', hXH⟩ := appL_val hin
        rw [hslots] at hX hm'
        exact ⟨Fr.refl _ a, Sim.refl w, ha.size, ha.defers, X, m, hX, hm', hXH⟩
      · rintro a1 w1 ⟨hf1, hs1, hz1, hd1, X, m, hX, hm', hXH⟩
        have hall := allL_val hst hX hm' w1.heap hXH
        have hmods : Fr (dedup (dstsC x)) a a1 := hf1.mono fun t ht => dedup_mem.2 ht
        have hd := ha.del hmods hz1 hd1
        have hag : Ag N (syms (lv.map (·.1)) ((lv.map (·.1)).map fun t => a1.tmps.getD t undef) (S.del (dedup (dstsC x)))) a1 := ⟨hz1, hd1, get_syms _ hd.agree⟩
        have hself : ∀ {b : Act}, Fr (dstsC x) a1 b → Fr (dstsC x) a b := fun hb => (hf1.trans hb).mono fun t ht => by simpa using ht
        refine wp_mono (ih sx h1 _ _ a1 w1 hag hall) ?_
        intro e a2 w2 hq
        cases e with
        | normal =>
          obtain ⟨hf2, hs2, S2, ha2, hk⟩ := hq
          simp only at hk
          split at hk
          · rename_i ss hss
            obtain ⟨X2, m2, hX2, hm2, hx2, hlt⟩ := appL_val hk
            rw [getAll_spec ha2.agree hss] at hX2 hm2
            refine ⟨⟨hself hf2, hs1.trans hs2, ha2.size, ha2.defers, X2, m2, hX2, hm2, hx2⟩, ?_⟩
            rw [hm2, hm']
            exact hlt
          · exact hk.elim
        | exit id => exact ⟨hself hq.1, hs1.trans hq.2.1, hq.2.2⟩
        | ret => exact ⟨hself hq.1, hs1.trans hq.2.1, hq.2.2⟩
        | _ => exact hq.elim
    · cases hc
  | exit id =>
    intro sc hc K S a w ha h
    simp only [compC, Option.some.injEq] at hc; subst hc
    exact wp_exit ⟨Fr.refl _ a, Sim.refl w, S, ha, h⟩
  | ret =>
    intro sc hc K S a w ha h
    simp only [compC, Option.some.injEq] at hc; subst hc
    exact wp_ret ⟨Fr.refl _ a, Sim.refl w, S, ha, h⟩
  | _ =>
    intro sc hc
    simp [compC] at hc

def compRes (P : Program) : List ResultVar → Option (List RV)
  | [] => some []
  | .tmp t :: r => match compRes P r with
    | some l => some (.tmp t :: l)
    | none => none
  | .cell a t :: r => match compR P (.load t (.tmp a)), compRes P r with
    | some (.load z ag (.t a')), some l => match Nat.beq a a' with
      | true => some (.cell z ag a' :: l)
      | false => none
    | _, _ => none

def resOf (tmps : Array Value) : ResultVar → Sem Value
  | .tmp t => pure (tmps.getD t undef)
  | .cell a t => do loadVar t (← asAddr (tmps.getD a undef))

theorem results_eq (fn : Func) (tmps : Array Value) : results fn tmps = (do
    let vs ← fn.results.mapM (resOf tmps)
    pure (if h : vs.size = 1 then vs[0] else .tuple vs)) := by
  unfold results
  congr 1

theorem res_sound {S : Sym} {a : Act} {w : World} (ha : Agree S a) : ∀ (rs : List ResultVar) (l : List RV) (K : List Value → Prop), compRes P rs = some l → resK w.heap l S K →
    ∃ vs, (rs.mapM (resOf a.tmps)).run P w = .ok vs w ∧ K vs
  | [], l, K, hc, h => by
    simp only [compRes, Option.some.injEq] at hc; subst hc
    exact ⟨[], by simp, h⟩
  | .tmp t :: r, l, K, hc, h => by
    simp only [compRes] at hc
    split at hc
    · rename_i l' hl
      simp only [Option.some.injEq] at hc; subst hc
      simp only [resK] at h
      split at h
      · rename_i s hs
        obtain ⟨vs, h1, h2⟩ := res_sound ha r l' _ hl h
        refine ⟨_, ?_, h2⟩
        rw [List.mapM_cons]
        simp only [resOf, Sem.run_bind, Sem.run_pure, Result.andThen_ok, h1, ha t s hs]
      · exact h.elim
    · cases hc
  | .cell x t :: r, l, K, hc, h => by
    simp only [compRes] at hc
    split at hc
    · rename_i z ag a' l' hl0 hl
      split at hc
      · rename_i hb
        obtain rfl := Nat.eq_of_beq_eq_true hb
        simp only [Option.some.injEq] at hc; subst hc
        simp only [resK] at h
        obtain ⟨s, φ, h1, hφ, h2⟩ := read_sound (P := P) (o := ⟨none, .load t (.tmp x), 0, "", #[], none⟩) hl0 ha h
        obtain ⟨vs, h3, h4⟩ := res_sound ha r l' _ hl h1
        refine ⟨_, ?_, h4⟩
        have h5 := h2 w hφ
        simp only [execOp, Sem.run_bind] at h5
        have h6 : ((asAddr (a.tmps.getD x undef)).run P w).andThen (fun ad w => (loadVar t ad).run P w) = .ok s.toV w := by
          cases hx : a.tmps.getD x undef with
          | pointer p =>
            cases p with
            | none => simp [Act.eval, hx, Instr.loadAt, Instr.sureAddr] at h5
            | some ad =>
              simp only [Act.eval, hx, Instr.loadAt, Instr.sureAddr, pure_bind] at h5
              cases hr : (loadVar t ad).run P w with
              | ok v w' =>
                rw [hr] at h5
                simp only [Result.andThen_ok, Sem.run_pure, Result.ok.injEq, Next.value.injEq] at h5
                obtain ⟨rfl, rfl⟩ := h5
                simpa [asAddr] using hr
              | halt q w' => rw [hr] at h5; simp at h5
          | _ => simp [Act.eval, hx, Instr.loadAt, Instr.sureAddr] at h5
        rw [List.mapM_cons]
        simp only [resOf, Sem.run_bind] at h6 ⊢
        rw [h6]
        simp only [Result.andThen_ok, h3, Sem.run_pure]
      · cases hc
    · cases hc

theorem start_get : ∀ (args : List Value) (i t : Nat) (s : SV), (start i args).get t = some s → ∃ v, args[t - i]? = some v ∧ i ≤ t ∧ s = .v v
  | [], _, _, _, h => by cases h
  | v :: r, i, t, s, h => by
    simp only [start, get_cons] at h
    split at h
    · rename_i e; subst e
      simp only [Option.some.injEq] at h
      exact ⟨v, by simp, Nat.le_refl _, h.symm⟩
    · obtain ⟨u, h1, h2, h3⟩ := start_get r (i + 1) t s h
      refine ⟨u, ?_, by omega, h3⟩
      rw [show t - i = (t - (i + 1)) + 1 by omega]
      simpa using h1

theorem start_agree (args : List Value) (n : Nat) : Agree (start 0 args) { tmps := args.toArray ++ Array.replicate n undef, defers := [] } := by
  intro t s h
  obtain ⟨v, h1, _, rfl⟩ := start_get args 0 t s h
  simp only [Nat.sub_zero] at h1
  have hlt : t < args.length := (List.getElem?_eq_some_iff.1 h1).1
  simp only [Array.getD_eq_getD_getElem?]
  rw [Array.getElem?_append_left (by simpa using hlt)]
  simp [h1, SV.toV]

/-- **THE CONTRACT OUT OF THE WALK.** -/
theorem Fn_of_WP {f : FuncId} {fn : Func} {c : Code} {sc : SCode} {rs : List RV} {ex : List Nat} {ann : List (Nat × List (Nat × Value))} {args : List Value} {H : Heap} {R : Value → Heap → Prop} (hm : P.follows .mixedOrders = true)
    (hf : P.funcs[f]? = some fn) (hb : fn.body = some c) (hc : compC P fn.ntmps ex ann c = some sc) (hr : compRes P fn.results.toList = some rs) (hn : args.length ≤ fn.ntmps) {S0 : Sym}
    (hS : Agree S0 { tmps := args.toArray ++ Array.replicate (fn.ntmps - args.toArray.size) undef, defers := [] }) (h : WP P sc ⟨fun S H => retK rs R S H, fun _ _ _ => False, fun S H => retK rs R S H⟩ S0 H) : Does P f args H R := by
  intro w hw
  subst hw
  refine calls_of_wp hf hb ?_
  have hag : Ag fn.ntmps S0 { tmps := args.toArray ++ Array.replicate (fn.ntmps - args.toArray.size) undef, defers := [] } := ⟨by simp; omega, rfl, hS⟩
  refine wp_mono (code_sound hm c sc hc _ _ _ w hag h) ?_
  intro e a' w' hq
  have fin : Sim w w' → (∃ S, Ag fn.ntmps S a' ∧ retK rs R S w'.heap) → a'.defers = [] ∧ ∃ v, (results fn a'.tmps).run P w' = .ok v w' ∧ ∃ u, Ending.returned v = .returned u ∧ Sim w w' ∧ R u w'.heap := by
    rintro hs ⟨S, ha, hk⟩
    obtain ⟨vs, h1, h2⟩ := res_sound (P := P) ha.agree fn.results.toList rs _ hr hk
    refine ⟨ha.defers, (if h : vs.toArray.size = 1 then vs.toArray[0] else .tuple vs.toArray), ?_, _, rfl, hs, ?_⟩
    · rw [results_eq]
      have e : fn.results = fn.results.toList.toArray := by simp
      rw [e, List.mapM_toArray]
      simp only [Sem.run_bind, Sem.run_map, h1, Result.andThen_ok, Sem.run_pure]
    · match vs, h2 with
      | [], h2 => exact h2
      | [v], h2 => exact h2
      | _ :: _ :: _, h2 => exact h2
  cases e with
  | normal => exact fin hq.2.1 hq.2.2
  | ret => exact fin hq.2.1 hq.2.2
  | exit id => obtain ⟨_, _, _, _, h⟩ := hq; exact h.elim
  | _ => exact hq.elim

end
end Go.Vc

namespace Go.Vc

def resSlots : List ResultVar → List Nat
  | [] => []
  | .tmp t :: r => t :: resSlots r
  | .cell _ _ :: r => resSlots r

def isWide : List (Nat × List (Nat × Value)) → Bool
  | [] => false
  | (k, _) :: r => match Nat.beq k 999999 with | true => true | false => isWide r

def startW (wide : Bool) (args : List Value) : Sym :=
  match wide with
  | true => (wideKey, .v undef) :: start 0 args
  | false => start 0 args

/-- What is to be shown of a function, for its contract. -/
def Walk (P : Program) (f : FuncId) (ann : List (Nat × List (Nat × Value))) (args : List Value) (H : Heap) (R : Value → Heap → Prop) : Prop :=
  match P.funcs[f]? with
  | none => False
  | some fn => match fn.body with
    | none => False
    | some c => match compC P fn.ntmps (resSlots fn.results.toList) ann c, compRes P fn.results.toList with
      | some sc, some rs => match Nat.ble args.length fn.ntmps && Nat.ble fn.ntmps wideKey with
        | true => WP P sc ⟨fun S H => retK rs R S H, fun _ _ _ => False, fun S H => retK rs R S H⟩ (startW (isWide ann) args) H
        | false => False
      | _, _ => False

theorem Fn_of_Walk {P : Program} {f : FuncId} {ann : List (Nat × List (Nat × Value))} {args : List Value} {H : Heap} {R : Value → Heap → Prop} (hm : P.follows .mixedOrders = true) (h : Walk P f ann args H R) : Does P f args H R := by
  unfold Walk at h
  split at h
  · exact h.elim
  · rename_i fn hf
    split at h
    · exact h.elim
    · rename_i c hb
      split at h
      · rename_i sc rs hc hr
        split at h
        · rename_i hn
          rw [Bool.and_eq_true] at hn
          have hn1 := Nat.le_of_ble_eq_true hn.1
          have hn2 := Nat.le_of_ble_eq_true hn.2
          refine Fn_of_WP hm hf hb hc hr hn1 (S0 := startW (isWide ann) args) ?_ h
          unfold startW
          split
          · intro t s hs
            rw [get_cons] at hs
            split at hs
            · rename_i e
              subst e
              simp only [Option.some.injEq] at hs
              subst hs
              have : ({ tmps := args.toArray ++ Array.replicate (fn.ntmps - args.toArray.size) undef, defers := [] } : Act).tmps.size ≤ wideKey := by simp; omega
              rw [Array.getD_eq_getD_getElem?, Array.getElem?_eq_none this]
              rfl
            · exact start_agree args _ t s hs
          · exact start_agree args _
        · exact h.elim
      · exact h.elim

/-- The contract out of what is to be shown. -/
theorem Fn_of_vc {P : Program} {f : FuncId} {ann : List (Nat × List (Nat × Value))} {args : List Value} {H : Heap} {R : Value → Heap → Prop} {V : Prop} (hm : P.follows .mixedOrders = true) (e : Walk P f ann args H R = V) (h : V) : Does P f args H R :=
  Fn_of_Walk hm (e ▸ h)

end Go.Vc

/-! Words for heaps, as a proof of a contract uses them. -/
namespace Go.Vc

/-- Block b is a row of just these cells, none of them frozen. -/
def Blk (H : Heap) (b : Nat) (cs : List Value) : Prop := ∃ e, H[b]? = some (.cells cs.toArray e)

/-- What was there is as it was, but for the blocks of M. -/
structure Ext (M : List Nat) (H H' : Heap) : Prop where
  size : H.size ≤ H'.size
  keep : ∀ k, k < H.size → k ∉ M → H'[k]? = H[k]?

theorem Ext.refl (M : List Nat) (H : Heap) : Ext M H H := ⟨Nat.le_refl _, fun _ _ _ => rfl⟩
theorem Ext.trans {M : List Nat} {A B C : Heap} (h : Ext M A B) (k : Ext M B C) : Ext M A C :=
  ⟨Nat.le_trans h.size k.size, fun i hi hm => (k.keep i (Nat.lt_of_lt_of_le hi h.size) hm).trans (h.keep i hi hm)⟩
theorem Ext.mono {M M' : List Nat} {A B : Heap} (h : Ext M A B) (hs : ∀ k, k < A.size → k ∈ M → k ∈ M') : Ext M' A B :=
  ⟨h.size, fun i hi hm => h.keep i hi (fun hx => hm (hs i hi hx))⟩
theorem Ext.any {M : List Nat} {A B : Heap} (h : Ext [] A B) : Ext M A B := h.mono fun _ _ hk => by cases hk
/-- What is written beyond what was there is not told. -/
theorem Ext.trans' {M N : List Nat} {A B C : Heap} (h : Ext M A B) (k : Ext N B C) (hn : ∀ i, i ∈ N → A.size ≤ i ∨ i ∈ M) : Ext M A C :=
  ⟨Nat.le_trans h.size k.size, fun i hi hm => (k.keep i (Nat.lt_of_lt_of_le hi h.size) (fun hx => by
    rcases hn i hx with h' | h'
    · omega
    · exact hm h')).trans (h.keep i hi hm)⟩

theorem Blk.lt {H : Heap} {b : Nat} {cs : List Value} (h : Blk H b cs) : b < H.size := by
  obtain ⟨e, h⟩ := h
  exact (Array.getElem?_eq_some_iff.1 h).1

theorem Blk.ext {M : List Nat} {H H' : Heap} {b : Nat} {cs : List Value} (h : Blk H b cs) (he : Ext M H H') (hm : b ∉ M) : Blk H' b cs := by
  have hlt := h.lt
  obtain ⟨e, h⟩ := h
  exact ⟨e, (he.keep b hlt hm).trans h⟩

theorem Blk.cell {H : Heap} {b : Nat} {cs : List Value} (h : Blk H b cs) (o : Nat) : hcell H b o = cs[o]? := by
  obtain ⟨e, h⟩ := h
  simp [hcell, h]

theorem Blk.free {H : Heap} {b : Nat} {cs : List Value} (h : Blk H b cs) (o : Nat) : hfrozen H b o = false := by
  obtain ⟨e, h⟩ := h
  simp [hfrozen, h]

theorem Blk.cells {H : Heap} {b : Nat} {cs : List Value} (h : Blk H b cs) : ∀ (n o : Nat), o + n ≤ cs.length → Cells H b o n
  | 0, _, _ => trivial
  | n + 1, o, hn => ⟨⟨⟨_, by rw [h.cell, List.getElem?_eq_getElem (by omega)]⟩, h.free o⟩, h.cells n (o + 1) (by omega)⟩

theorem New.blk {H H' : Heap} {b : Nat} {vs : List Value} {e : TypeId} (h : New H b vs e H') : Blk H' b vs := by
  obtain ⟨rfl, rfl⟩ := h
  exact ⟨e, by simp⟩
theorem New.ext {H H' : Heap} {b : Nat} {vs : List Value} {e : TypeId} (h : New H b vs e H') : Ext [] H H' := by
  obtain ⟨rfl, rfl⟩ := h
  refine ⟨by simp, fun k hk _ => ?_⟩
  rw [Array.getElem?_push, if_neg (by omega)]
theorem New.eq {H H' : Heap} {b : Nat} {vs : List Value} {e : TypeId} (h : New H b vs e H') : b = H.size := h.1
theorem New.size {H H' : Heap} {b : Nat} {vs : List Value} {e : TypeId} (h : New H b vs e H') : H'.size = H.size + 1 := by
  obtain ⟨rfl, rfl⟩ := h
  simp

/-- Some cells of a row written. -/
def splice (cs : List Value) (o : Nat) (vs : List Value) : List Value := cs.take o ++ vs ++ cs.drop (o + vs.length)

theorem splice_length (cs : List Value) (o : Nat) (vs : List Value) (h : o + vs.length ≤ cs.length) : (splice cs o vs).length = cs.length := by
  simp [splice]; omega

theorem splice_one (cs : List Value) (o : Nat) (v : Value) (h : o < cs.length) : splice cs o [v] = cs.set o v := by
  simp [splice, List.set_eq_take_append_cons_drop, h]

theorem splice_cons (cs : List Value) (o : Nat) (v : Value) (vs : List Value) (h : o + (v :: vs).length ≤ cs.length) : splice (cs.set o v) (o + 1) vs = splice cs o (v :: vs) := by
  simp only [List.length_cons] at h
  have h1 : o < cs.length := by omega
  simp only [splice, List.set_eq_take_append_cons_drop, if_pos h1]
  rw [show List.take (o + 1) (List.take o cs ++ v :: List.drop (o + 1) cs) = List.take o cs ++ [v] by
    rw [List.take_append]
    have : (List.take o cs).length = o := by simp; omega
    rw [this, List.take_of_length_le (by omega), show o + 1 - o = 1 by omega]
    simp]
  rw [show List.drop (o + 1 + vs.length) (List.take o cs ++ v :: List.drop (o + 1) cs) = List.drop (o + (v :: vs).length) cs by
    rw [List.drop_append]
    have : (List.take o cs).length = o := by simp; omega
    rw [this, List.drop_of_length_le (by omega), show o + 1 + vs.length - o = vs.length + 1 by omega]
    simp only [List.nil_append, List.drop_succ_cons, List.drop_drop, List.length_cons]
    congr 1
    omega]
  simp

theorem hset_blk {H : Heap} {b : Nat} {cs : List Value} (h : Blk H b cs) (o : Nat) (v : Value) : Blk (hset H b o v) b (cs.set o v) := by
  obtain ⟨e, h⟩ := h
  refine ⟨e, ?_⟩
  simp only [hset, Array.getElem?_modify, if_pos, h, Option.map_some]
  simp

theorem hset_other {H : Heap} {b o k : Nat} {v : Value} (h : k ≠ b) : (hset H b o v)[k]? = H[k]? := by
  simp only [hset, Array.getElem?_modify]
  rw [if_neg (fun e => h e.symm)]

theorem hset_size {H : Heap} {b o : Nat} {v : Value} : (hset H b o v).size = H.size := by simp [hset]

theorem hsets_ext {H : Heap} {b : Nat} : ∀ (vs : List Value) (o : Nat), Ext [b] H (hsets H b o vs) ∧ (hsets H b o vs).size = H.size
  | [], o => ⟨Ext.refl _ _, rfl⟩
  | v :: r, o => by
    have h1 : Ext [b] H (hset H b o v) := ⟨by rw [hset_size]; exact Nat.le_refl _, fun k _ hk => hset_other (by simpa using hk)⟩
    obtain ⟨h2, h3⟩ := hsets_ext (H := hset H b o v) r (o + 1)
    exact ⟨h1.trans h2, by rw [hsets, h3, hset_size]⟩

theorem hsets_blk {b : Nat} : ∀ (vs : List Value) (o : Nat) (H : Heap) (cs : List Value), Blk H b cs → o + vs.length ≤ cs.length → Blk (hsets H b o vs) b (splice cs o vs)
  | [], o, H, cs, h, _ => by simpa [splice, hsets] using h
  | v :: r, o, H, cs, h, hl => by
    have h1 := hset_blk h o v
    have h2 := hsets_blk r (o + 1) _ _ h1 (by simp at hl ⊢; omega)
    rw [splice_cons _ _ _ _ hl] at h2
    exact h2

theorem Puts.blk {H H' : Heap} {b o : Nat} {vs cs : List Value} (h : Puts H b o vs H') (hb : Blk H b cs) (hl : o + vs.length ≤ cs.length) : Blk H' b (splice cs o vs) := by
  rw [h]; exact hsets_blk vs o H cs hb hl
theorem Puts.ext {H H' : Heap} {b o : Nat} {vs : List Value} (h : Puts H b o vs H') : Ext [b] H H' := by
  rw [h]; exact (hsets_ext vs o).1
theorem Puts.size {H H' : Heap} {b o : Nat} {vs : List Value} (h : Puts H b o vs H') : H'.size = H.size := by
  rw [h]; exact (hsets_ext vs o).2

/-! ### Slices -/

/-- The slice (a, len, cap) is nil, or stands at the head of a block of its own, whose cells are xs and some more. -/
def Own (H : Heap) (size : Nat) (a : Option Addr) (len cap : Nat) (xs : List Value) : Prop :=
  xs.length = len * size ∧ len ≤ cap ∧ cap ≤ maxLen ∧ ((a = none ∧ cap = 0) ∨ ∃ b tail, a = some ⟨b, 0, none⟩ ∧ Blk H b (xs ++ tail) ∧ (xs ++ tail).length = cap * size)

/-- The block of a slice. -/
def blkOf (a : Option Addr) : List Nat := match a with | some ad => [ad.block] | none => []

theorem Own.row {H : Heap} {size : Nat} {a : Option Addr} {len cap : Nat} {xs : List Value} (h : Own H size a len cap xs) (l c : Nat) : SRow H size len (.slice a l c) xs := by
  obtain ⟨h1, h2, h3, h4⟩ := h
  refine ⟨h1, ?_⟩
  rcases h4 with ⟨rfl, rfl⟩ | ⟨b, tail, rfl, hb, _⟩
  · have : len = 0 := by omega
    subst this
    simpa using h1
  · refine ⟨.inr rfl, fun j u hj => ?_⟩
    have hlt : j < xs.length := (List.getElem?_eq_some_iff.1 hj).1
    show hcell H b (0 + j) = some u
    rw [Nat.zero_add, hb.cell, List.getElem?_append_left hlt]
    exact hj

theorem Own.ext {M : List Nat} {H H' : Heap} {size : Nat} {a : Option Addr} {len cap : Nat} {xs : List Value} (h : Own H size a len cap xs) (he : Ext M H H') (hm : ∀ k, k ∈ blkOf a → k ∉ M) : Own H' size a len cap xs := by
  obtain ⟨h1, h2, h3, h4⟩ := h
  refine ⟨h1, h2, h3, ?_⟩
  rcases h4 with h4 | ⟨b, tail, rfl, hb, hl⟩
  · exact .inl h4
  · exact .inr ⟨b, tail, rfl, hb.ext he (hm b (by simp [blkOf])), hl⟩

theorem Own.lt {H : Heap} {size : Nat} {a : Option Addr} {len cap : Nat} {xs : List Value} (h : Own H size a len cap xs) : ∀ k, k ∈ blkOf a → k < H.size := by
  obtain ⟨h1, h2, h3, h4⟩ := h
  rcases h4 with ⟨rfl, _⟩ | ⟨b, tail, rfl, hb, hl⟩
  · intro k hk; cases hk
  · intro k hk
    simp only [blkOf, List.mem_singleton] at hk
    subst hk
    exact hb.lt

theorem Own.nil (H : Heap) (size : Nat) : Own H size none 0 0 [] := ⟨by simp, Nat.le_refl _, by unfold maxLen; omega, .inl ⟨rfl, rfl⟩⟩

theorem Own.of_new {H : Heap} {size len cap b : Nat} {cs : List Value} (hb : Blk H b cs) (hc : cs.length = cap * size) (hl : len ≤ cap) (hm : cap ≤ maxLen) : Own H size (some ⟨b, 0, none⟩) len cap (cs.take (len * size)) := by
  refine ⟨?_, hl, hm, .inr ⟨b, cs.drop (len * size), rfl, by simpa using hb, by simpa using hc⟩⟩
  rw [List.length_take, hc]
  exact Nat.min_eq_left (Nat.mul_le_mul_right _ hl)

theorem hcell_lt {H : Heap} {b o : Nat} {v : Value} (h : hcell H b o = some v) : b < H.size := by
  unfold hcell at h
  cases hb : H[b]? with
  | none => rw [hb] at h; cases h
  | some x => exact (Array.getElem?_eq_some_iff.1 hb).1

theorem hcell_ext {M : List Nat} {H H' : Heap} {b o : Nat} {v : Value} (h : hcell H b o = some v) (he : Ext M H H') (hm : b ∉ M) : hcell H' b o = some v := by
  have hlt := hcell_lt h
  unfold hcell at h ⊢
  rw [he.keep b hlt hm]
  exact h

theorem SRow.ext {M : List Nat} {H H' : Heap} {size n : Nat} {a : Option Addr} {l c : Nat} {xs : List Value} (h : SRow H size n (.slice a l c) xs) (he : Ext M H H') (hm : ∀ k, k ∈ blkOf a → k ∉ M) : SRow H' size n (.slice a l c) xs := by
  obtain ⟨h1, h2⟩ := h
  refine ⟨h1, ?_⟩
  cases a with
  | none => exact h2
  | some ad =>
    obtain ⟨h3, h4⟩ := h2
    refine ⟨h3, fun j u hj => ?_⟩
    exact hcell_ext (h4 j u hj) he (hm _ (by simp [blkOf]))

theorem SRow.cap {H : Heap} {size n : Nat} {a : Option Addr} {l c l' c' : Nat} {xs : List Value} (h : SRow H size n (.slice a l c) xs) : SRow H size n (.slice a l' c') xs := by
  obtain ⟨h1, h2⟩ := h
  refine ⟨h1, ?_⟩
  cases a <;> exact h2

/-- An element of a row of elements of one cell. -/
theorem SRow.get {H : Heap} {n : Nat} {a : Option Addr} {l c : Nat} {xs : List Value} (h : SRow H 1 n (.slice a l c) xs) {j : Nat} {u : Value} (hj : xs[j]? = some u) : ∃ b o, a = some ⟨b, o, none⟩ ∧ hcell H b (o + j) = some u := by
  obtain ⟨h1, h2⟩ := h
  cases a with
  | none => simp only at h2; subst h2; simp at hj
  | some ad =>
    obtain ⟨b, o, sp⟩ := ad
    obtain ⟨h3, h4⟩ := h2
    simp only at h3 h4
    rcases h3 with rfl | rfl
    · simp at hj
    · exact ⟨b, o, rfl, h4 j u hj⟩

/-- **append to a slice of one's own.** -/
theorem App.own {H H' : Heap} {size : Nat} {e : TypeId} {z : List Value} {a : Option Addr} {len cap : Nat} {old news xs : List Value} {n : Nat} {a' : Option Addr} {cap' : Nat} (h : App H size e z a len cap old news n a' cap' H') (ho : Own H size a len cap xs)
    (hro : SRow H size len (.slice a len cap) old) (hn : news.length = n * size) (hz : z.length = size) :
    Own H' size a' (len + n) cap' (xs ++ news) ∧ Ext (blkOf a) H H' ∧ (∀ k, k ∈ blkOf a' → k ∈ blkOf a ∨ H.size ≤ k) := by
  have hxs : old = xs := by
    have h2 := ho.row len cap
    apply List.ext_getElem?
    intro j
    have e1 : old.length = xs.length := by rw [hro.1, h2.1]
    by_cases hj : j < xs.length
    · obtain ⟨_, h3⟩ := hro
      obtain ⟨_, h4⟩ := h2
      cases a with
      | none => simp only at h3 h4; rw [h3, h4]
      | some ad =>
        have h5 := h3.2 j _ (List.getElem?_eq_getElem (by omega))
        have h6 := h4.2 j _ (List.getElem?_eq_getElem hj)
        rw [h6] at h5
        rw [List.getElem?_eq_getElem (by omega), List.getElem?_eq_getElem hj]
        exact h5.symm
    · rw [List.getElem?_eq_none (by omega), List.getElem?_eq_none (by omega)]
  subst hxs
  obtain ⟨o1, o2, o3, o4⟩ := ho
  rcases h with ⟨hle, rfl, rfl, hH⟩ | ⟨hlt, rfl, hge, hm, rfl⟩
  · rcases o4 with ⟨rfl, rfl⟩ | ⟨b, tail, rfl, hb, hl⟩
    · simp only at hH
      subst hH
      have e1 : len = 0 := by omega
      have e2 : n = 0 := by omega
      subst e1; subst e2
      have e3 : old = [] := by simpa using o1
      have e4 : news = [] := by simpa using hn
      subst e3; subst e4
      exact ⟨Own.nil _ _, Ext.refl _ _, fun k hk => .inl hk⟩
    · simp only at hH
      subst hH
      have hfit : len * size + news.length ≤ (old ++ tail).length := by
        rw [hl, hn, ← Nat.add_mul]
        exact Nat.mul_le_mul_right _ hle
      have hb' := hsets_blk news (0 + len * size) H _ hb (by omega)
      have hs : splice (old ++ tail) (0 + len * size) news = (old ++ news) ++ tail.drop news.length := by
        unfold splice
        rw [Nat.zero_add, ← o1, List.take_left', List.drop_append]
        · simp
        · rfl
      rw [hs] at hb'
      refine ⟨⟨by rw [List.length_append, o1, hn, Nat.add_mul], hle, o3, .inr ⟨b, _, rfl, hb', ?_⟩⟩, (hsets_ext news _).1, fun k hk => .inl hk⟩
      rw [← hl]
      rw [List.length_append] at hfit
      simp only [List.length_append, List.length_drop]
      omega
  · have hsz : (List.replicate (cap' - (len + n)) z).flatten.length = (cap' - (len + n)) * size := by simp [hz]
    have hblk : Blk (H.push (.cells (old ++ news ++ (List.replicate (cap' - (len + n)) z).flatten).toArray e)) H.size (old ++ news ++ (List.replicate (cap' - (len + n)) z).flatten) := ⟨e, by simp⟩
    refine ⟨⟨by rw [List.length_append, o1, hn, Nat.add_mul], hge, hm, .inr ⟨H.size, _, rfl, hblk, ?_⟩⟩, ⟨by simp, fun k hk _ => by rw [Array.getElem?_push, if_neg (by omega)]⟩, fun k hk => .inr (by
      simp only [blkOf, List.mem_singleton] at hk
      omega)⟩
    rw [List.length_append, List.length_append, hsz, o1, hn, ← Nat.add_mul, ← Nat.add_mul]
    congr 1
    omega

/-- The cells behind the length of a slice of one's own may be written. -/
theorem Own.room {H : Heap} {size : Nat} {a : Option Addr} {len cap n : Nat} {xs : List Value} (h : Own H size a len cap xs) (hle : len + n ≤ cap) : roomOf H a (len * size) (n * size) := by
  obtain ⟨o1, o2, o3, o4⟩ := h
  rcases o4 with ⟨rfl, _⟩ | ⟨b, tail, rfl, hb, hl⟩
  · trivial
  · refine ⟨rfl, hb.cells _ _ ?_⟩
    rw [hl, Nat.zero_add, ← Nat.add_mul]
    exact Nat.mul_le_mul_right _ hle

theorem wrap_tdiv {x c : Int} (h0 : 0 ≤ x) (hc : 0 < c) (h1 : x ≤ 9223372036854775807) : IntKind.wrap .i64 (Int.tdiv x c) = x / c := by
  rw [Int.tdiv_eq_ediv_of_nonneg h0]
  have h2 : 0 ≤ x / c := Int.ediv_nonneg h0 (Int.le_of_lt hc)
  have h3 : x / c ≤ x := Int.ediv_le_self _ h0
  exact wrap_of_in64 ⟨by omega, by omega⟩

theorem tmod_pos {x c : Int} (h0 : 0 ≤ x) : Int.tmod x c = x % c := Int.tmod_eq_emod_of_nonneg h0

/-- Does, with another word of the end. -/
theorem Does.mono {P : Program} {f : FuncId} {args : List Value} {H : Heap} {R R' : Value → Heap → Prop} (h : Does P f args H R) (hr : ∀ v H', R v H' → R' v H') : Does P f args H R' :=
  fun w hw => (h w hw).mono fun _ _ ⟨v, he, hs, hv⟩ => ⟨v, he, hs, hr v _ hv⟩

def bytesV (xs : List UInt8) : List Value := xs.map fun b => .int .u8 b.toNat

theorem bytesV_length (xs : List UInt8) : (bytesV xs).length = xs.length := by simp [bytesV]
theorem bytesV_get (xs : List UInt8) (j : Nat) (h : j < xs.length) : (bytesV xs)[j]? = some (.int .u8 (xs.getD j 0).toNat) := by
  simp [bytesV, h]
theorem bytesV_set (xs : List UInt8) (j : Nat) (b : UInt8) : bytesV (xs.set j b) = (bytesV xs).set j (.int .u8 b.toNat) := by
  simp [bytesV, List.map_set]
theorem bytesV_one (xs : List UInt8) : ∀ u ∈ bytesV xs, Value.oneCell' u = true := by
  intro u hu
  simp only [bytesV, List.mem_map] at hu
  obtain ⟨b, _, rfl⟩ := hu
  rfl

theorem dec_eq {p q : Prop} {i : Decidable p} {j : Decidable q} (h : p ↔ q) : @decide p i = @decide q j := by
  rw [Bool.eq_iff_iff, decide_eq_true_iff, decide_eq_true_iff]
  exact h

theorem dec_bool {p : Prop} {i : Decidable p} {b : Bool} (h : p ↔ b = true) : @decide p i = b := by
  rw [Bool.eq_iff_iff, decide_eq_true_iff]
  exact h

theorem yes {p : Prop} {i : Decidable p} (h : p) : Value.bool (@decide p i) = .bool true := congrArg Value.bool (@decide_eq_true p i h)

/-- A cell of a row. -/
theorem SRow.at {H : Heap} {size n : Nat} {a : Option Addr} {l c : Nat} {xs : List Value} (h : SRow H size n (.slice a l c) xs) {j : Nat} {u : Value} (hj : xs[j]? = some u) : ∃ b o, a = some ⟨b, o, none⟩ ∧ hcell H b (o + j) = some u := by
  obtain ⟨h1, h2⟩ := h
  cases a with
  | none => simp only at h2; subst h2; simp at hj
  | some ad =>
    obtain ⟨b, o, sp⟩ := ad
    obtain ⟨h3, h4⟩ := h2
    simp only at h3 h4
    rcases h3 with rfl | rfl
    · simp at hj
    · exact ⟨b, o, rfl, h4 j u hj⟩

theorem flatten_at {c : Nat} : ∀ {rows : List (List Value)} {i j : Nat} {r : List Value}, (∀ r ∈ rows, r.length = c) → rows[i]? = some r → j < c → rows.flatten[i * c + j]? = r[j]?
  | [], i, j, r, _, h, _ => by simp at h
  | s :: rows, 0, j, r, hl, h, hj => by
    simp only [List.getElem?_cons_zero, Option.some.injEq] at h
    subst h
    have := hl s (by simp)
    rw [List.flatten_cons, Nat.zero_mul, Nat.zero_add, List.getElem?_append_left (by omega)]
  | s :: rows, i + 1, j, r, hl, h, hj => by
    have := hl s (by simp)
    rw [List.flatten_cons, Nat.add_mul, List.getElem?_append_right (by omega)]
    rw [show i * c + 1 * c + j - s.length = i * c + j by omega]
    exact flatten_at (fun r hr => hl r (by simp [hr])) (by simpa using h) hj

end Go.Vc

section
open Go.RowKit
namespace Go.Vc

theorem Does.below {P : Program} {f : FuncId} {args : List Value} {w : World} (h : Does P f args w.heap fun v H' => v = .bool true ∧ Ext [] w.heap H') :
    Calls P f args.toArray w fun e w' => e = .returned (.bool true) ∧ Below w.heap.size w w' :=
  (h w rfl).mono fun _ w' ⟨_, he, hs, hv, hx⟩ => ⟨by rw [he, hv], ⟨hs.os, hs.tape, hs.output, hx.size, fun k hk => hx.keep k hk (by simp)⟩⟩

end Go.Vc
end

namespace Go.Vc

theorem cell_hcell (w : World) (b o : Nat) : w.cell? ⟨b, o, none⟩ = hcell w.heap b o := by
  unfold World.cell? hcell
  cases w.heap[b]? with
  | none => rfl
  | some x => cases x <;> rfl

theorem add_none (b o n : Nat) : Addr.add ⟨b, o, none⟩ n = ⟨b, o + n, none⟩ := by
  unfold Addr.add
  split
  · subst_vars; rfl
  · rfl

theorem okWide_spot {P : Program} {w : World} {r : Reach} {base : Nat} {t e : TypeId} {a : Option Addr} {len cap : Nat} (ht : P.underlying t = some (.slice e)) (h : Value.okWide P w r base t (.slice a len cap)) : ∀ x, a = some x → x.spot = none := by
  rintro x rfl
  simp only [Value.okWide, ht, Cell.okWide, Cell.ok, World.has] at h
  exact h.2.2.2.1

theorem flat_at {H : Heap} {b o c : Nat} : ∀ (rows : List (List Value)) (k : Nat), (∀ i r, rows[i]? = some r → r.length = c ∧ ∀ j u, r[j]? = some u → hcell H b (o + ((k + i) * c + j)) = some u) →
    rows.flatten.length = rows.length * c ∧ ∀ j u, rows.flatten[j]? = some u → hcell H b (o + (k * c + j)) = some u
  | [], k, _ => by simp
  | r :: rows, k, h => by
    obtain ⟨h1, h2⟩ := h 0 r rfl
    obtain ⟨h3, h4⟩ := flat_at rows (k + 1) (fun i r' hr => by
      have := h (i + 1) r' (by simpa using hr)
      rw [show k + 1 + i = k + (i + 1) by omega]
      exact this)
    refine ⟨by simp only [List.flatten_cons, List.length_append, h1, h3, List.length_cons]; rw [Nat.add_mul]; omega, fun j u hj => ?_⟩
    rw [List.flatten_cons] at hj
    rcases Nat.lt_or_ge j r.length with hl | hl
    · rw [List.getElem?_append_left hl] at hj
      have := h2 j u hj
      simpa using this
    · rw [List.getElem?_append_right hl] at hj
      have := h4 _ u hj
      rw [Nat.add_mul, h1] at this
      rw [h1] at hl
      rw [show k * c + j = k * c + 1 * c + (j - c) by omega]
      exact this

section
variable {H : Type} {enc : TypeId × Value → H} {P : Program} {w : World} {base : Nat} {spare : Nat → Bool} {held : Bool}

theorem trod_rows {t e : TypeId} {c fuel len cap : Nat} {a : Option Addr} {x : DataW H × List MemPlace} (ht : P.underlying t = some (.slice e)) (hc : P.cellsOf e = c) (hsp : ∀ x, a = some x → x.spot = none)
    (h : DataW.trod enc P w base spare held fuel t [.slice a len cap] = some x) :
    ∃ rows : List (List Value), rows.length = len ∧ len ≤ maxLen ∧ (∀ r ∈ rows, ∃ n y, DataW.trod enc P w base spare held n e r = some y) ∧ (∀ r ∈ rows, r.length = c) ∧ SRow w.heap c len (.slice a len cap) rows.flatten := by
  rcases DataW.trod_slice ht h with ⟨h0, _⟩ | ⟨ad, len', cap', elems, rest, n, _, h0, _, hb, hl, hm, hlen, hel, _, _⟩
  · simp only [List.cons.injEq, Value.slice.injEq, and_true] at h0
    obtain ⟨rfl, rfl, rfl⟩ := h0
    exact ⟨[], rfl, Nat.zero_le _, by simp, by simp, by simp, rfl⟩
  · simp only [List.cons.injEq, Value.slice.injEq, and_true] at h0
    obtain ⟨rfl, rfl, rfl⟩ := h0
    obtain ⟨b, o, sp⟩ := ad
    have hs := hsp _ rfl
    simp only at hs
    subst hs
    rw [hc] at hel
    have each : ∀ i, i < len → ∃ r, w.cells? base (Addr.add ⟨b, o, none⟩ (i * c)) c = some r ∧ ∃ y, DataW.trod enc P w base spare held n e r = some y := by
      intro i hi
      have h1 := hel i hi
      rw [List.getElem?_eq_getElem (by omega)] at h1
      cases h2 : w.cells? base (Addr.add ⟨b, o, none⟩ (i * c)) c with
      | none => rw [h2] at h1; cases h1
      | some r => rw [h2] at h1; exact ⟨r, rfl, _, h1⟩
    have row : ∀ i r, w.cells? base (Addr.add ⟨b, o, none⟩ (i * c)) c = some r → r.length = c ∧ ∀ j u, r[j]? = some u → hcell w.heap b (o + (i * c + j)) = some u := by
      intro i r hr
      unfold World.cells? at hr
      split at hr
      · have h2 := Go.mapM_some_length hr
        simp only [List.length_range] at h2
        refine ⟨h2, fun j u hj => ?_⟩
        have hjc : j < c := by have := (List.getElem?_eq_some_iff.1 hj).1; omega
        have h3 := Go.mapM_some_get hr j j (by simp [hjc])
        rw [hj] at h3
        rw [add_none, add_none, cell_hcell, Nat.add_assoc] at h3
        exact h3
      · cases hr
    refine ⟨(List.range len).map fun i => (w.cells? base (Addr.add ⟨b, o, none⟩ (i * c)) c).getD [], by simp, by omega, ?_, ?_, ?_⟩
    · intro r hr
      obtain ⟨i, hi, rfl⟩ := List.mem_map.1 hr
      obtain ⟨r, hr, y, hy⟩ := each i (by simpa using hi)
      rw [hr]
      exact ⟨n, y, hy⟩
    · intro r hr
      obtain ⟨i, hi, rfl⟩ := List.mem_map.1 hr
      obtain ⟨r, hr, y, hy⟩ := each i (by simpa using hi)
      rw [hr]
      exact (row i r hr).1
    · have := flat_at (H := w.heap) (b := b) (o := o) (c := c) ((List.range len).map fun i => (w.cells? base (Addr.add ⟨b, o, none⟩ (i * c)) c).getD []) 0 (by
        intro i r hr
        simp only [List.getElem?_map, Option.map_eq_some_iff] at hr
        obtain ⟨i', hi, rfl⟩ := hr
        have hi2 := List.getElem?_eq_some_iff.1 hi
        obtain ⟨hlt, he⟩ := hi2
        simp only [List.getElem_range] at he
        subst he
        obtain ⟨r, hr, y, hy⟩ := each i (by simpa using hlt)
        rw [hr]
        simpa using row i r hr)
      refine ⟨by simpa using this.1, .inr rfl, fun j u hj => ?_⟩
      have := this.2 j u hj
      simpa using this

theorem rows_map {α : Type} {f : α → List Value} {good : α → Prop} : ∀ (rows : List (List Value)), (∀ r ∈ rows, ∃ x, r = f x ∧ good x) → ∃ xs : List α, rows = xs.map f ∧ ∀ x ∈ xs, good x
  | [], _ => ⟨[], rfl, by simp⟩
  | r :: rows, h => by
    obtain ⟨x, hx, hg⟩ := h r (by simp)
    obtain ⟨xs, h1, h2⟩ := rows_map rows (fun r hr => h r (by simp [hr]))
    exact ⟨x :: xs, by rw [hx, h1]; rfl, by intro y hy; rcases List.mem_cons.1 hy with rfl | hy; exact hg; exact h2 y hy⟩

theorem flatten_single {α : Type} (f : α → Value) : ∀ xs : List α, (xs.map fun x => [f x]).flatten = xs.map f
  | [] => rfl
  | x :: xs => by simp [flatten_single f xs]

theorem arg_ints {t e : TypeId} {k : IntKind} {len cap : Nat} {a : Option Addr} {d : DataW H} {ps : List MemPlace} (ht : P.underlying t = some (.slice e)) (he : P.underlying e = some (.int k)) (hc : P.cellsOf e = 1) (hsp : ∀ x, a = some x → x.spot = none)
    (h : DataW.Trod enc P w base spare held t (.slice a len cap) d ps) :
    ∃ xs : List Int, xs.length = len ∧ len ≤ maxLen ∧ SRow w.heap 1 len (.slice a len cap) (xs.map fun n => .int k n) ∧ ∀ n ∈ xs, (Lit.int k n).wf = true := by
  obtain ⟨fuel, hf⟩ := h
  obtain ⟨rows, h1, h2, h3, _, h5⟩ := trod_rows ht hc hsp hf
  obtain ⟨xs, rfl, h7⟩ := rows_map (f := fun n : Int => [.int k n]) (good := fun n => (Lit.int k n).wf = true) rows (by
    intro r hr
    obtain ⟨n, y, hy⟩ := h3 r hr
    obtain ⟨z, hz, _, hw⟩ := DataW.trod_int he hy
    exact ⟨z, hz, hw⟩)
  rw [flatten_single] at h5
  exact ⟨xs, by simpa using h1, h2, h5, h7⟩

theorem arg_bytes {t e : TypeId} {len cap : Nat} {a : Option Addr} {d : DataW H} {ps : List MemPlace} (ht : P.underlying t = some (.slice e)) (he : P.underlying e = some (.int .u8)) (hc : P.cellsOf e = 1) (hsp : ∀ x, a = some x → x.spot = none)
    (h : DataW.Trod enc P w base spare held t (.slice a len cap) d ps) :
    ∃ xs : List UInt8, xs.length = len ∧ len ≤ maxLen ∧ SRow w.heap 1 len (.slice a len cap) (bytesV xs) := by
  obtain ⟨xs, h1, h2, h3, h4⟩ := arg_ints ht he hc hsp h
  refine ⟨xs.map fun n => UInt8.ofNat n.toNat, by simpa using h1, h2, ?_⟩
  have : bytesV (xs.map fun n => UInt8.ofNat n.toNat) = xs.map fun n => .int .u8 n := by
    unfold bytesV
    rw [List.map_map]
    refine List.map_congr_left fun n hn => ?_
    have := h4 n hn
    simp only [Lit.wf, IntKind.min, IntKind.max, IntKind.signed, IntKind.bits] at this
    simp only [Function.comp, Value.int.injEq, true_and]
    rw [UInt8.toNat_ofNat']
    simp at this
    omega
  rw [this]
  exact h3

theorem wf_i64 {n : Int} (h : (Lit.int .i64 n).wf = true) : -9223372036854775808 ≤ n ∧ n ≤ 9223372036854775807 := by
  simpa [Lit.wf, IntKind.min, IntKind.max, IntKind.signed, IntKind.bits] using h


inductive CK where
  | i (k : IntKind)
  | b
  | s

def CK.ok : CK → Value → Prop
  | .i k, .int k' n => k' = k ∧ (Lit.int k n).wf = true
  | .b, .bool _ => True
  | .s, .string x => x.size ≤ maxLen
  | _, _ => False

def CellsAre : List CK → List Value → Prop
  | [], [] => True
  | c :: cs, v :: vs => c.ok v ∧ CellsAre cs vs
  | _, _ => False

def fieldsK (P : Program) (f : TypeId → Option (List CK)) : Nat → List Field → Option (List CK)
  | _, [] => some []
  | off, fd :: r => match Nat.beq fd.offset off, f fd.type with
    | true, some ks => match Nat.beq ks.length (P.cellsOf fd.type), fieldsK P f (off + P.cellsOf fd.type) r with
      | true, some rs => some (ks ++ rs)
      | _, _ => none
    | _, _ => none

def kindsOf (P : Program) : Nat → TypeId → Option (List CK)
  | 0, _ => none
  | n + 1, t => match P.underlying t with
    | some .bool => some [.b]
    | some (.int k) => some [.i k]
    | some .string => some [.s]
    | some (.struct fs) => match fieldsK P (kindsOf P n) 0 fs.toList with
      | some ks => match Nat.beq ks.length (P.cellsOf t) with
        | true => some ks
        | false => none
      | none => none
    | _ => none

theorem CellsAre.append : ∀ {ks rs : List CK} {a b : List Value}, CellsAre ks a → CellsAre rs b → CellsAre (ks ++ rs) (a ++ b)
  | [], _, [], _, _, h => h
  | _ :: _, _, _ :: _, _, h, h' => ⟨h.1, h.2.append h'⟩

theorem CellsAre.length : ∀ {ks : List CK} {a : List Value}, CellsAre ks a → a.length = ks.length
  | [], [], _ => rfl
  | _ :: _, _ :: _, h => by simp [h.2.length]

theorem fieldsK_sound {f : TypeId → Option (List CK)} {g : TypeId → List Value → Option (DataW H × List MemPlace)} (hf : ∀ t ks cs y, f t = some ks → g t cs = some y → CellsAre ks cs) (cs : List Value) :
    ∀ (fs : List Field) (off : Nat) (ks : List CK), fieldsK P f off fs = some ks → (∀ fd ∈ fs, ∃ y, g fd.type ((cs.drop fd.offset).take (P.cellsOf fd.type)) = some y) → CellsAre ks ((cs.drop off).take ks.length)
  | [], off, ks, h, _ => by
    simp only [fieldsK, Option.some.injEq] at h
    subst h
    simp [CellsAre]
  | fd :: r, off, ks, h, hm => by
    simp only [fieldsK] at h
    split at h
    · rename_i k1 h1 h2
      split at h
      · rename_i rs h3 h4
        simp only [Option.some.injEq] at h
        subst h
        obtain ⟨y, hy⟩ := hm fd (by simp)
        have e1 : fd.offset = off := Nat.eq_of_beq_eq_true h1
        have e3 : k1.length = P.cellsOf fd.type := Nat.eq_of_beq_eq_true h3
        rw [e1] at hy
        have h5 := hf _ _ _ _ h2 hy
        have h6 := fieldsK_sound hf cs r _ rs h4 (fun fd h => hm fd (by simp [h]))
        have e : (cs.drop off).take (k1 ++ rs).length = (cs.drop off).take (P.cellsOf fd.type) ++ (cs.drop (off + P.cellsOf fd.type)).take rs.length := by
          rw [List.length_append, e3, List.take_add, List.drop_drop]
        rw [e]
        exact h5.append h6
      · cases h
    · cases h

theorem kindsOf_sound : ∀ (n : Nat) (t : TypeId) (ks : List CK) (fuel : Nat) (cs : List Value) (y : DataW H × List MemPlace), kindsOf P n t = some ks → DataW.trod enc P w base spare held fuel t cs = some y → CellsAre ks cs
  | 0, _, _, _, _, _, h, _ => by cases h
  | n + 1, t, ks, fuel, cs, y, h, hy => by
    unfold kindsOf at h
    split at h
    · rename_i hu
      simp only [Option.some.injEq] at h; subst h
      obtain ⟨b, rfl, _⟩ := DataW.trod_bool hu hy
      exact ⟨trivial, trivial⟩
    · rename_i k hu
      simp only [Option.some.injEq] at h; subst h
      obtain ⟨z, rfl, _, hw⟩ := DataW.trod_int hu hy
      exact ⟨⟨rfl, hw⟩, trivial⟩
    · rename_i hu
      simp only [Option.some.injEq] at h; subst h
      obtain ⟨z, rfl, _, hw⟩ := DataW.trod_string hu hy
      exact ⟨hw, trivial⟩
    · rename_i fs hu
      split at h
      · rename_i ks' hk
        split at h
        · rename_i hl
          simp only [Option.some.injEq] at h; subst h
          have hl' := Nat.eq_of_beq_eq_true hl
          obtain ⟨xs, m, _, _, hlen, hl2, hm⟩ := DataW.trod_struct hu hy
          have := fieldsK_sound (P := P) (g := fun t cs => DataW.trod enc P w base spare held m t cs) (fun t ks cs y h1 h2 => kindsOf_sound n t ks m cs y h1 h2) cs fs.toList 0 ks' hk (fun fd hfd => by
            obtain ⟨i, hi, he⟩ := List.mem_iff_getElem.1 hfd
            simp only [Array.length_toList] at hi
            have := hm i fd (by rw [Array.getElem?_eq_getElem hi]; simpa using he)
            rw [List.getElem?_eq_getElem (by omega)] at this
            exact ⟨_, this⟩)
          rw [List.drop_zero, List.take_of_length_le (by omega)] at this
          exact this
        · cases h
      · cases h
    · cases h

theorem arg_rows {t e : TypeId} {c n : Nat} {ks : List CK} {len cap : Nat} {a : Option Addr} {d : DataW H} {ps : List MemPlace} (ht : P.underlying t = some (.slice e)) (hk : kindsOf P n e = some ks) (hc : P.cellsOf e = c) (hsp : ∀ x, a = some x → x.spot = none)
    (h : DataW.Trod enc P w base spare held t (.slice a len cap) d ps) :
    ∃ rows : List (List Value), rows.length = len ∧ len ≤ maxLen ∧ SRow w.heap c len (.slice a len cap) rows.flatten ∧ ∀ r ∈ rows, CellsAre ks r := by
  obtain ⟨fuel, hf⟩ := h
  obtain ⟨rows, h1, h2, h3, _, h5⟩ := trod_rows ht hc hsp hf
  exact ⟨rows, h1, h2, h5, fun r hr => by
    obtain ⟨m, y, hy⟩ := h3 r hr
    exact kindsOf_sound n e ks m r y hk hy⟩

end
end Go.Vc

/-! Regions of a heap, and rows of elements of any kind. -/
namespace Go.Vc

/-- What was there is as it was, but for the blocks of which M holds. -/
structure ExtP (M : Nat → Prop) (H H' : Heap) : Prop where
  size : H.size ≤ H'.size
  keep : ∀ k, k < H.size → ¬ M k → H'[k]? = H[k]?

section
variable {M N : Nat → Prop} {A B C H H' : Heap}

theorem Ext.toP {L : List Nat} (h : Ext L H H') : ExtP (fun k => k ∈ L) H H' := ⟨h.size, h.keep⟩
theorem ExtP.refl (M : Nat → Prop) (H : Heap) : ExtP M H H := ⟨Nat.le_refl _, fun _ _ _ => rfl⟩
theorem ExtP.mono (h : ExtP M A B) (hs : ∀ k, k < A.size → M k → N k) : ExtP N A B := ⟨h.size, fun k hk hn => h.keep k hk fun hm => hn (hs k hk hm)⟩
theorem Ext.lift {L : List Nat} (h : Ext L A B) (hs : ∀ k, k < A.size → k ∈ L → N k) : ExtP N A B := h.toP.mono hs
theorem Ext.anyP (h : Ext [] A B) : ExtP N A B := h.lift (by simp)
/-- What is written beyond what was there is not told. -/
theorem ExtP.trans' (h : ExtP M A B) (k : ExtP N B C) (hn : ∀ i, N i → A.size ≤ i ∨ M i) : ExtP M A C :=
  ⟨Nat.le_trans h.size k.size, fun i hi hm => (k.keep i (Nat.lt_of_lt_of_le hi h.size) fun hx => by
    rcases hn i hx with h' | h'
    · omega
    · exact hm h').trans (h.keep i hi hm)⟩
theorem ExtP.trans (h : ExtP M A B) (k : ExtP M B C) : ExtP M A C := h.trans' k fun _ => .inr
theorem Ext.transP (h : Ext [] A B) (k : ExtP M B C) (hn : ∀ i, M i → A.size ≤ i) : Ext [] A C :=
  ⟨Nat.le_trans h.size k.size, fun i hi _ => (k.keep i (Nat.lt_of_lt_of_le hi h.size) fun hx => by
    have := hn i hx; omega).trans (h.keep i hi (by simp))⟩

theorem Blk.extP {b : Nat} {cs : List Value} (h : Blk H b cs) (he : ExtP M H H') (hm : ¬ M b) : Blk H' b cs := by
  have hlt := h.lt
  obtain ⟨e, h⟩ := h
  exact ⟨e, (he.keep b hlt hm).trans h⟩
theorem hcell_extP {b o : Nat} {v : Value} (h : hcell H b o = some v) (he : ExtP M H H') (hm : ¬ M b) : hcell H' b o = some v := by
  have hlt := hcell_lt h
  unfold hcell at h ⊢
  rw [he.keep b hlt hm]
  exact h
theorem SRow.extP {size n : Nat} {a : Option Addr} {l c : Nat} {xs : List Value} (h : SRow H size n (.slice a l c) xs) (he : ExtP M H H') (hm : ∀ k, k ∈ blkOf a → ¬ M k) : SRow H' size n (.slice a l c) xs := by
  obtain ⟨h1, h2⟩ := h
  refine ⟨h1, ?_⟩
  cases a with
  | none => exact h2
  | some ad =>
    obtain ⟨h3, h4⟩ := h2
    refine ⟨h3, fun j u hj => ?_⟩
    exact hcell_extP (h4 j u hj) he (hm _ (by simp [blkOf]))
theorem Own.extP {size : Nat} {a : Option Addr} {len cap : Nat} {xs : List Value} (h : Own H size a len cap xs) (he : ExtP M H H') (hm : ∀ k, k ∈ blkOf a → ¬ M k) : Own H' size a len cap xs := by
  obtain ⟨h1, h2, h3, h4⟩ := h
  refine ⟨h1, h2, h3, ?_⟩
  rcases h4 with h4 | ⟨b, tail, rfl, hb, hl⟩
  · exact .inl h4
  · exact .inr ⟨b, tail, rfl, hb.extP he (hm b (by simp [blkOf])), hl⟩
end

/-- A region, and all that is new since. -/
def grow (F : Nat → Prop) (H H' : Heap) : Nat → Prop := fun k => F k ∨ (H.size ≤ k ∧ k < H'.size)

/-- A kind of elements: of so many cells; 'fp': the blocks that it stands on beside. -/
structure Elem (α : Type) where
  sz : Nat
  pos : 0 < sz
  ok : Heap → List Value → α → Prop
  fp : List Value → List Nat
  len : ∀ {H v x}, ok H v x → v.length = sz
  one : ∀ {H v x}, ok H v x → ∀ u ∈ v, Value.oneCell' u = true
  lt : ∀ {H v x}, ok H v x → ∀ k ∈ fp v, k < H.size
  ext : ∀ {M H H' v x}, ok H v x → ExtP M H H' → (∀ k ∈ fp v, ¬ M k) → ok H' v x

/-- A row of elements of one's own, whose blocks are all in G. -/
def Seq {α : Type} (E : Elem α) (H : Heap) (G : Nat → Prop) (a : Option Addr) (n c : Nat) (xs : List α) : Prop :=
  ∃ vs : List (List Value), Own H E.sz a n c vs.flatten ∧ vs.length = xs.length ∧ ∀ (i : Nat) (x : α), xs[i]? = some x → ∃ v, vs[i]? = some v ∧ E.ok H v x ∧ ∀ k ∈ E.fp v, G k

section
variable {α : Type} {E : Elem α} {H H1 H2 H' : Heap} {G G' M : Nat → Prop} {a a' : Option Addr} {n c c' : Nat} {xs : List α}

theorem flatten_len {c : Nat} : ∀ {rows : List (List Value)}, (∀ r ∈ rows, r.length = c) → rows.flatten.length = rows.length * c
  | [], _ => by simp
  | r :: rows, h => by
    rw [List.flatten_cons, List.length_append, h r (by simp), flatten_len (fun r hr => h r (by simp [hr])), List.length_cons, Nat.add_mul]
    omega

theorem Seq.rows (vs : List (List Value)) (hl : vs.length = xs.length) (h : ∀ (i : Nat) (x : α), xs[i]? = some x → ∃ v, vs[i]? = some v ∧ E.ok H v x ∧ ∀ k ∈ E.fp v, G k) : ∀ r ∈ vs, r.length = E.sz := by
  intro r hr
  obtain ⟨i, hi, rfl⟩ := List.mem_iff_getElem.1 hr
  obtain ⟨v, h1, h2, _⟩ := h i _ (List.getElem?_eq_getElem (by omega))
  rw [List.getElem?_eq_getElem hi, Option.some.injEq] at h1
  rw [h1]
  exact E.len h2

theorem Seq.num (h : Seq E H G a n c xs) : xs.length = n := by
  obtain ⟨vs, h1, h2, h3⟩ := h
  have h4 := flatten_len (Seq.rows vs h2 h3)
  have h5 := h1.1
  rw [h4, h2] at h5
  exact Nat.eq_of_mul_eq_mul_right E.pos h5

theorem Seq.nil (E : Elem α) (H : Heap) (G : Nat → Prop) : Seq E H G none 0 0 [] := ⟨[], Own.nil _ _, rfl, by simp⟩

theorem Seq.cap (h : Seq E H G a n c xs) : n ≤ c ∧ c ≤ maxLen := by
  obtain ⟨vs, h1, h2, h3⟩ := h
  exact ⟨h1.2.1, h1.2.2.1⟩

theorem Seq.lt (h : Seq E H G a n c xs) : ∀ k, k ∈ blkOf a → k < H.size := by
  obtain ⟨vs, h1, h2, h3⟩ := h
  exact h1.lt

theorem Seq.extP (h : Seq E H G a n c xs) (he : ExtP M H H') (h1 : ∀ k, k ∈ blkOf a → ¬ M k) (h2 : ∀ k, G k → ¬ M k) : Seq E H' G a n c xs := by
  obtain ⟨vs, g1, g2, g3⟩ := h
  refine ⟨vs, g1.extP he h1, g2, fun i x hx => ?_⟩
  obtain ⟨v, q1, q2, q3⟩ := g3 i x hx
  exact ⟨v, q1, E.ext q2 he (fun k hk => h2 k (q3 k hk)), q3⟩

theorem Seq.mono (h : Seq E H G a n c xs) (hg : ∀ k, k < H.size → G k → G' k) : Seq E H G' a n c xs := by
  obtain ⟨vs, g1, g2, g3⟩ := h
  refine ⟨vs, g1, g2, fun i x hx => ?_⟩
  obtain ⟨v, q1, q2, q3⟩ := g3 i x hx
  exact ⟨v, q1, q2, fun k hk => hg k (E.lt q2 k hk) (q3 k hk)⟩

/-- An element. -/
theorem Seq.get (h : Seq E H G a n c xs) {i : Nat} {x : α} (hx : xs[i]? = some x) :
    ∃ b o v, a = some ⟨b, o, none⟩ ∧ (∀ j u, v[j]? = some u → hcell H b (o + i * E.sz + j) = some u) ∧ E.ok H v x ∧ ∀ k ∈ E.fp v, G k := by
  obtain ⟨vs, g1, g2, g3⟩ := h
  obtain ⟨v, q1, q2, q3⟩ := g3 i x hx
  have hrows := Seq.rows vs g2 g3
  have hv := E.len q2
  have hpos := E.pos
  have hcell : ∀ j u, v[j]? = some u → ∃ b o, a = some ⟨b, o, none⟩ ∧ hcell H b (o + (i * E.sz + j)) = some u := fun j u hj => by
    have hlt := (List.getElem?_eq_some_iff.1 hj).1
    have := flatten_at hrows q1 (j := j) (by omega)
    rw [hj] at this
    exact (g1.row n c).at this
  obtain ⟨b, o, rfl, _⟩ := hcell 0 _ (List.getElem?_eq_getElem (by omega))
  refine ⟨b, o, v, rfl, fun j u hj => ?_, q2, q3⟩
  obtain ⟨b', o', e, hc⟩ := hcell j u hj
  cases e
  rw [Nat.add_assoc]
  exact hc

/-- An element of one cell. -/
theorem Seq.get1 (h : Seq E H G a n c xs) (h1 : E.sz = 1) {i : Nat} {x : α} (hx : xs[i]? = some x) :
    ∃ b o u, a = some ⟨b, o, none⟩ ∧ hcell H b (o + i) = some u ∧ E.ok H [u] x ∧ ∀ k ∈ E.fp [u], G k := by
  obtain ⟨b, o, v, e, hc, q2, q3⟩ := h.get hx
  have hv := E.len q2
  match v, hv with
  | [u], _ =>
    have := hc 0 u rfl
    rw [h1, Nat.mul_one, Nat.add_zero] at this
    exact ⟨b, o, u, e, this, q2, q3⟩
  | [], hv => simp at hv; omega
  | _ :: _ :: _, hv => simp at hv; omega

theorem flatten_set {c : Nat} : ∀ {rows : List (List Value)} {i : Nat} {r : List Value}, (∀ r ∈ rows, r.length = c) → r.length = c → i < rows.length → splice rows.flatten (i * c) r = (rows.set i r).flatten
  | [], i, r, _, _, h => by simp at h
  | s :: rows, 0, r, hl, hr, _ => by
    have := hl s (by simp)
    rw [List.set_cons_zero, List.flatten_cons, List.flatten_cons, Nat.zero_mul]
    unfold splice
    rw [List.take_zero, List.nil_append, Nat.zero_add, hr, ← this, List.drop_left']
    rfl
  | s :: rows, i + 1, r, hl, hr, h => by
    have hs := hl s (by simp)
    have ih := flatten_set (rows := rows) (i := i) (fun r hr => hl r (by simp [hr])) hr (by simpa using h)
    rw [List.set_cons_succ, List.flatten_cons, List.flatten_cons, ← ih]
    unfold splice
    rw [Nat.add_mul, Nat.one_mul, List.take_append, List.take_of_length_le (by omega), show i * c + c - s.length = i * c by omega, List.drop_append, List.drop_of_length_le (by omega), show i * c + c + r.length - s.length = i * c + r.length by omega]
    simp

theorem splice_append_left {xs ys vs : List Value} {o : Nat} (h : o + vs.length ≤ xs.length) : splice (xs ++ ys) o vs = splice xs o vs ++ ys := by
  unfold splice
  rw [List.take_append_of_le_length (by omega), List.drop_append_of_le_length (by omega), List.append_assoc, List.append_assoc, List.append_assoc]

/-- An element may be written whole. -/
theorem Seq.put (h : Seq E H G a n c xs) {i : Nat} (hi : i < n) (hG : ∀ k, G k → k ∉ blkOf a) :
    ∃ b, a = some ⟨b, 0, none⟩ ∧ Cells H b (0 + i * E.sz) E.sz ∧ ∀ v x H', E.ok H v x → (∀ k ∈ E.fp v, G k) → Puts H b (0 + i * E.sz) v H' → Seq E H' G a n c (xs.set i x) ∧ Ext (blkOf a) H H' := by
  have hnum := h.num
  obtain ⟨vs, g1, g2, g3⟩ := h
  have hrows := Seq.rows vs g2 g3
  have hfl := flatten_len hrows
  obtain ⟨o1, o2, o3, o4⟩ := g1
  have hmul : i * E.sz + E.sz ≤ n * E.sz := by
    have : (i + 1) * E.sz ≤ n * E.sz := Nat.mul_le_mul_right _ hi
    rw [Nat.add_mul] at this
    omega
  have hpos := E.pos
  rcases o4 with ⟨rfl, rfl⟩ | ⟨b, tail, rfl, hb, hbl⟩
  · omega
  · have hin : 0 + i * E.sz + E.sz ≤ (vs.flatten ++ tail).length := by rw [List.length_append]; omega
    refine ⟨b, rfl, hb.cells _ _ hin, fun v x H' hv hf hp => ?_⟩
    have hvl := E.len hv
    have hb2 := hp.blk hb (by omega)
    have he : Ext (blkOf (some ⟨b, 0, none⟩)) H H' := hp.ext
    rw [Nat.zero_add, splice_append_left (by omega), flatten_set hrows hvl (by omega)] at hb2
    have hlen2 : (vs.set i v).flatten.length = vs.flatten.length := by
      rw [flatten_len (c := E.sz), hfl, List.length_set]
      intro r hr
      rcases List.mem_or_eq_of_mem_set hr with hr | rfl
      · exact hrows r hr
      · exact hvl
    refine ⟨⟨vs.set i v, ⟨by rw [hlen2]; exact o1, o2, o3, .inr ⟨b, tail, rfl, hb2, by rw [List.length_append, hlen2, ← hbl, List.length_append]⟩⟩, by simp [g2], fun j y hy => ?_⟩, he⟩
    by_cases e : i = j
    · subst e
      rw [List.getElem?_set_self (by omega), Option.some.injEq] at hy
      subst hy
      exact ⟨v, by rw [List.getElem?_set_self (by omega)], E.ext hv he.toP (fun k hk hk' => hG k (hf k hk) hk'), hf⟩
    · rw [List.getElem?_set_ne e] at hy
      obtain ⟨w, q1, q2, q3⟩ := g3 j y hy
      exact ⟨w, by rw [List.getElem?_set_ne e]; exact q1, E.ext q2 he.toP (fun k hk hk' => hG k (q3 k hk) hk'), q3⟩

theorem Seq.put1 (h : Seq E H G a n c xs) (h1 : E.sz = 1) {i : Nat} (hi : i < n) (hG : ∀ k, G k → k ∉ blkOf a) :
    ∃ b, a = some ⟨b, 0, none⟩ ∧ Cells H b (0 + i) 1 ∧ ∀ u x H', E.ok H [u] x → (∀ k ∈ E.fp [u], G k) → Puts H b (0 + i) [u] H' → Seq E H' G a n c (xs.set i x) ∧ Ext (blkOf a) H H' := by
  obtain ⟨b, e, hc, hp⟩ := h.put hi hG
  rw [h1, Nat.mul_one] at hc hp
  exact ⟨b, e, hc, fun u x H' => hp [u] x H'⟩

/-- One element appended. -/
theorem Seq.push (h : Seq E H G a n c xs) (hG : ∀ k, G k → k ∉ blkOf a) {w : Nat} {e e' : TypeId} {z v : List Value} {x : α} (hv : E.ok H v x) (hf : ∀ k ∈ E.fp v, G k) (hz : z.length = E.sz) (hw : (n + 1) * w ≤ 140737488355328)
    {R : Option Addr → Nat → Heap → Prop} (k : ∀ a' c' H', Seq E H' G a' (n + 1) c' (xs ++ [x]) → Ext (blkOf a) H H' → (∀ k, k ∈ blkOf a' → k ∈ blkOf a ∨ H.size ≤ k) → R a' c' H') (b : Nat) (H2 : Heap) (hn : New H b v e H2) :
    ∃ old news : List Value, SRow H2 E.sz n (.slice a n c) old ∧ SRow H2 E.sz 1 (.slice (some ⟨b, 0, none⟩) 1 1) news ∧ (∀ u ∈ news, Value.oneCell' u = true) ∧ (n + 1) * w ≤ 140737488355328 ∧
      (n + 1 ≤ c → roomOf H2 a (n * E.sz) (1 * E.sz)) ∧ ∀ a' c' H', App H2 E.sz e' z a n c old news 1 a' c' H' → R a' c' H' := by
  obtain ⟨vs, g1, g2, g3⟩ := h
  have hx := hn.ext
  have ho2 := g1.ext hx (by simp)
  have hb := hn.blk
  have hvl := E.len hv
  refine ⟨vs.flatten, v, ho2.row n c, ⟨by omega, .inr rfl, fun j u hj => ?_⟩, E.one hv, hw, fun hle => ho2.room hle, fun a' c' H' happ => ?_⟩
  · show hcell H2 b (0 + j) = some u
    rw [Nat.zero_add, hb.cell]
    exact hj
  · obtain ⟨q1, q2, q3⟩ := happ.own ho2 (ho2.row n c) (by omega) hz
    have hs := hn.size
    have hxx : Ext (blkOf a) H H' := hx.any.trans q2
    refine k a' c' H' ⟨vs ++ [v], by rw [List.flatten_append]; simpa using q1, by simp [g2], fun i y hy => ?_⟩ hxx (fun i hi => by
      rcases q3 i hi with h | h
      · exact .inl h
      · exact .inr (by omega))
    have keep : ∀ {w y}, E.ok H w y → (∀ k ∈ E.fp w, G k) → E.ok H' w y := fun h1 h2 => E.ext h1 hxx.toP (fun k hk hk' => hG k (h2 k hk) hk')
    by_cases hlt : i < xs.length
    · rw [List.getElem?_append_left hlt] at hy
      obtain ⟨w, r1, r2, r3⟩ := g3 i y hy
      exact ⟨w, by rw [List.getElem?_append_left (by omega)]; exact r1, keep r2 r3, r3⟩
    · rw [List.getElem?_append_right (by omega)] at hy
      have e : i - xs.length = 0 := by
        have := (List.getElem?_eq_some_iff.1 hy).1
        simp at this; omega
      rw [e] at hy
      simp only [List.getElem?_cons_zero, Option.some.injEq] at hy
      subst hy
      exact ⟨v, by rw [List.getElem?_append_right (by omega), g2, e]; rfl, keep hv hf, hf⟩

/-- The cells, to be laid somewhere else. -/
theorem Seq.copy (h : Seq E H G a n c xs) : ∃ flat, Own H E.sz a n c flat ∧ (∀ u ∈ flat, Value.oneCell' u = true) ∧
    ∀ {M H2 a' c'}, Own H2 E.sz a' n c' flat → ExtP M H H2 → (∀ k, G k → ¬ M k) → Seq E H2 G a' n c' xs := by
  obtain ⟨vs, g1, g2, g3⟩ := h
  refine ⟨vs.flatten, g1, fun u hu => ?_, fun ho hx hm => ⟨vs, ho, g2, fun i x hi => ?_⟩⟩
  · obtain ⟨r, hr, hu⟩ := List.mem_flatten.1 hu
    obtain ⟨i, hi, rfl⟩ := List.mem_iff_getElem.1 hr
    obtain ⟨v, q1, q2, _⟩ := g3 i _ (List.getElem?_eq_getElem (by omega))
    rw [List.getElem?_eq_getElem hi, Option.some.injEq] at q1
    rw [q1] at hu
    exact E.one q2 u hu
  · obtain ⟨v, q1, q2, q3⟩ := g3 i x hi
    exact ⟨v, q1, E.ext q2 hx (fun k hk => hm k (q3 k hk)), q3⟩

end
end Go.Vc

/-! Rows with slices of bytes within. -/
namespace Go.Vc

inductive CY where
  | c (k : CK)
  | y

def CY.ok (H : Heap) : CY → Value → Prop
  | .c k, v => k.ok v
  | .y, v => ∃ a len cap xs, v = .slice a len cap ∧ xs.length = len ∧ len ≤ maxLen ∧ SRow H 1 len (.slice a len cap) (bytesV xs)

def CellsIn (H : Heap) : List CY → List Value → Prop
  | [], [] => True
  | c :: cs, v :: vs => c.ok H v ∧ CellsIn H cs vs
  | _, _ => False

theorem CellsIn.append {H : Heap} : ∀ {ks rs : List CY} {a b : List Value}, CellsIn H ks a → CellsIn H rs b → CellsIn H (ks ++ rs) (a ++ b)
  | [], _, [], _, _, h => h
  | _ :: _, _, _ :: _, _, h, h' => ⟨h.1, h.2.append h'⟩

theorem CellsIn.length {H : Heap} : ∀ {ks : List CY} {a : List Value}, CellsIn H ks a → a.length = ks.length
  | [], [], _ => rfl
  | _ :: _, _ :: _, h => by simp [h.2.length]

theorem CellsIn.of {H : Heap} : ∀ {ks : List CK} {a : List Value}, CellsAre ks a → CellsIn H (ks.map .c) a
  | [], [], _ => trivial
  | _ :: _, _ :: _, h => ⟨h.1, CellsIn.of h.2⟩

def fieldsY (P : Program) (f : TypeId → Option (List CY)) : Nat → List Field → Option (List CY)
  | _, [] => some []
  | off, fd :: r => match Nat.beq fd.offset off, f fd.type with
    | true, some ks => match Nat.beq ks.length (P.cellsOf fd.type), fieldsY P f (off + P.cellsOf fd.type) r with
      | true, some rs => some (ks ++ rs)
      | _, _ => none
    | _, _ => none

def kindsY (P : Program) : Nat → TypeId → Option (List CY)
  | 0, _ => none
  | n + 1, t => match P.underlying t with
    | some (.struct fs) => match fieldsY P (kindsY P n) 0 fs.toList with
      | some ks => match Nat.beq ks.length (P.cellsOf t) with
        | true => some ks
        | false => none
      | none => none
    | some (.slice e) => match P.underlying e, Nat.beq (P.cellsOf e) 1 with
      | some (.int .u8), true => some [.y]
      | _, _ => none
    | _ => (kindsOf P 1 t).map fun l => l.map .c

section
variable {H : Type} {enc : TypeId × Value → H} {P : Program} {w : World} {base : Nat} {spare : Nat → Bool} {held : Bool}

theorem inner_bytes {t e : TypeId} {fuel : Nat} {cs : List Value} {y : DataW H × List MemPlace} (ht : P.underlying t = some (.slice e)) (he : P.underlying e = some (.int .u8)) (hc : P.cellsOf e = 1)
    (h : DataW.trod enc P w base spare held fuel t cs = some y) : CellsIn w.heap [.y] cs := by
  have h' := h
  rcases DataW.trod_slice ht h with ⟨rfl, _⟩ | ⟨ad, len, cap, elems, rest, n, _, rfl, _, hb, hl, hm, hlen, hel, _, _⟩
  · exact ⟨⟨none, 0, 0, [], rfl, rfl, Nat.zero_le _, rfl, rfl⟩, trivial⟩
  · by_cases h0 : len = 0
    · subst h0
      exact ⟨⟨some ad, 0, cap, [], rfl, rfl, Nat.zero_le _, rfl, .inl rfl, fun j u hj => by simp [bytesV] at hj⟩, trivial⟩
    · have hsp : ∀ x, some ad = some x → x.spot = none := by
        rintro x ⟨rfl⟩
        have h1 := hel 0 (by omega)
        rw [List.getElem?_eq_getElem (by omega), hc] at h1
        cases h2 : w.cells? base (ad.add (0 * 1)) 1 with
        | none => rw [h2] at h1; cases h1
        | some r =>
          unfold World.cells? at h2
          split at h2
          · have h3 := Go.mapM_some_length h2
            simp only [List.length_range] at h3
            have h4 := Go.mapM_some_get h2 0 0 (by simp)
            rw [List.getElem?_eq_getElem (by omega)] at h4
            have e0 : (ad.add (0 * 1)).add 0 = ad := by simp [Addr.add]
            rw [e0] at h4
            unfold World.cell? at h4
            split at h4
            · split at h4
              · cases h4
              · rename_i hs
                simpa using hs
            · cases h4
          · cases h2
      obtain ⟨xs, q1, q2, q3⟩ := arg_bytes ht he hc hsp ⟨fuel, h'⟩
      exact ⟨⟨some ad, len, cap, xs, rfl, q1, q2, q3⟩, trivial⟩

theorem fieldsY_sound {f : TypeId → Option (List CY)} {g : TypeId → List Value → Option (DataW H × List MemPlace)} {M : Heap} (hf : ∀ t ks cs y, f t = some ks → g t cs = some y → CellsIn M ks cs) (cs : List Value) :
    ∀ (fs : List Field) (off : Nat) (ks : List CY), fieldsY P f off fs = some ks → (∀ fd ∈ fs, ∃ y, g fd.type ((cs.drop fd.offset).take (P.cellsOf fd.type)) = some y) → CellsIn M ks ((cs.drop off).take ks.length)
  | [], off, ks, h, _ => by
    simp only [fieldsY, Option.some.injEq] at h
    subst h
    simp [CellsIn]
  | fd :: r, off, ks, h, hm => by
    simp only [fieldsY] at h
    split at h
    · rename_i k1 h1 h2
      split at h
      · rename_i rs h3 h4
        simp only [Option.some.injEq] at h
        subst h
        obtain ⟨y, hy⟩ := hm fd (by simp)
        have e1 : fd.offset = off := Nat.eq_of_beq_eq_true h1
        have e3 : k1.length = P.cellsOf fd.type := Nat.eq_of_beq_eq_true h3
        rw [e1] at hy
        have h5 := hf _ _ _ _ h2 hy
        have h6 := fieldsY_sound hf cs r _ rs h4 (fun fd h => hm fd (by simp [h]))
        have e : (cs.drop off).take (k1 ++ rs).length = (cs.drop off).take (P.cellsOf fd.type) ++ (cs.drop (off + P.cellsOf fd.type)).take rs.length := by
          rw [List.length_append, e3, List.take_add, List.drop_drop]
        rw [e]
        exact h5.append h6
      · cases h
    · cases h

theorem kindsY_sound : ∀ (n : Nat) (t : TypeId) (ks : List CY) (fuel : Nat) (cs : List Value) (y : DataW H × List MemPlace), kindsY P n t = some ks → DataW.trod enc P w base spare held fuel t cs = some y → CellsIn w.heap ks cs
  | 0, _, _, _, _, _, h, _ => by cases h
  | n + 1, t, ks, fuel, cs, y, h, hy => by
    unfold kindsY at h
    split at h
    · rename_i fs hu
      split at h
      · rename_i ks' hk
        split at h
        · rename_i hl
          simp only [Option.some.injEq] at h; subst h
          have hl' := Nat.eq_of_beq_eq_true hl
          obtain ⟨xs, m, _, _, hlen, hl2, hm⟩ := DataW.trod_struct hu hy
          have := fieldsY_sound (P := P) (g := fun t cs => DataW.trod enc P w base spare held m t cs) (fun t ks cs y h1 h2 => kindsY_sound n t ks m cs y h1 h2) cs fs.toList 0 ks' hk (fun fd hfd => by
            obtain ⟨i, hi, he⟩ := List.mem_iff_getElem.1 hfd
            simp only [Array.length_toList] at hi
            have := hm i fd (by rw [Array.getElem?_eq_getElem hi]; simpa using he)
            rw [List.getElem?_eq_getElem (by omega)] at this
            exact ⟨_, this⟩)
          rw [List.drop_zero, List.take_of_length_le (by omega)] at this
          exact this
        · cases h
      · cases h
    · rename_i e hu
      split at h
      · rename_i hue hc
        simp only [Option.some.injEq] at h; subst h
        exact inner_bytes hu hue (Nat.eq_of_beq_eq_true hc) hy
      · cases h
    · simp only [Option.map_eq_some_iff] at h
      obtain ⟨l, hl, rfl⟩ := h
      exact CellsIn.of (kindsOf_sound 1 t l fuel cs y hl hy)

theorem arg_rowsY {t e : TypeId} {c n : Nat} {ks : List CY} {len cap : Nat} {a : Option Addr} {d : DataW H} {ps : List MemPlace} (ht : P.underlying t = some (.slice e)) (hk : kindsY P n e = some ks) (hc : P.cellsOf e = c) (hsp : ∀ x, a = some x → x.spot = none)
    (h : DataW.Trod enc P w base spare held t (.slice a len cap) d ps) :
    ∃ rows : List (List Value), rows.length = len ∧ len ≤ maxLen ∧ SRow w.heap c len (.slice a len cap) rows.flatten ∧ ∀ r ∈ rows, CellsIn w.heap ks r := by
  obtain ⟨fuel, hf⟩ := h
  obtain ⟨rows, h1, h2, h3, _, h5⟩ := trod_rows ht hc hsp hf
  exact ⟨rows, h1, h2, h5, fun r hr => by
    obtain ⟨m, y, hy⟩ := h3 r hr
    exact kindsY_sound n e ks m r y hk hy⟩
end
end Go.Vc

namespace Go.Vc
open Go.ChangeShapes Go.WideShapes

section
variable {H : Type} {enc : TypeId × Value → H} {P : Program} {w : World} {base : Nat} {spare : Nat → Bool} {held : Bool}

theorem trod_float {t : TypeId} {k : FloatKind} {fuel : Nat} {cs : List Value} {x : DataW H × List MemPlace} (ht : P.underlying t = some (.float k)) (h : DataW.trod enc P w base spare held fuel t cs = some x) : ∃ n, cs = [.float k n] ∧ x = (.lit (.float k n), []) ∧ (Lit.float k n).wf = true := by
  cases fuel with
  | zero => simp [DataW.trod] at h
  | succ n =>
    unfold DataW.trod at h
    rw [ht] at h
    split at h <;> simp_all

theorem arg_floats {t e : TypeId} {k : FloatKind} {len cap : Nat} {a : Option Addr} {d : DataW H} {ps : List MemPlace} (ht : P.underlying t = some (.slice e)) (he : P.underlying e = some (.float k)) (hc : P.cellsOf e = 1) (hsp : ∀ x, a = some x → x.spot = none)
    (h : DataW.Trod enc P w base spare held t (.slice a len cap) d ps) :
    ∃ xs : List Nat, xs.length = len ∧ len ≤ maxLen ∧ SRow w.heap 1 len (.slice a len cap) (xs.map fun n => .float k n) ∧ ∀ n ∈ xs, (Lit.float k n).wf = true := by
  obtain ⟨fuel, hf⟩ := h
  obtain ⟨rows, h1, h2, h3, _, h5⟩ := trod_rows ht hc hsp hf
  obtain ⟨xs, rfl, h7⟩ := rows_map (f := fun n : Nat => [.float k n]) (good := fun n => (Lit.float k n).wf = true) rows (by
    intro r hr
    obtain ⟨n, y, hy⟩ := h3 r hr
    obtain ⟨z, hz, _, hw⟩ := trod_float he hy
    exact ⟨z, hz, hw⟩)
  rw [flatten_single] at h5
  exact ⟨xs, by simpa using h1, h2, h5, h7⟩
end
end Go.Vc

