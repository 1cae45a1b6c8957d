/-
  No cell of these rows narrows 'for every input' (looked for: loops, veiled, ifaces, maps, wideKeys, modest, calm, conditions, laid).
  DERIVED. THE GIVEN ROWS OF THIS SEAT. 8 by the template 'for every input the law returns true; each argument reads behind the call as it read before'; 0 by the template 'total and deterministic' (their statements: YthcmooaodofgoaaTotals.lean).
  GIVEN WITH THE SEED: the statements are not yours to turn. If you find one false, say at which input.
  Laid BY PROGRAM, IN A SANDBOX (cutbox-rows.mjs): the forced cells as the released guide's own fill.sh prints them over the translation 23efb82b7da5f516… (all of the seat's roots in one cut). By AI agents, Wed Nov 11 2026. No macro, syntax, notation, axiom, sorry.
-/
import Derived.Test.YthcmooaodofgoaaChecked
import GoSem.Claim
import GoSem.ClaimJoined
import GoSem.ClaimMapViews
import Derived.JoinedTies
import Derived.KernelRfl
namespace Go.Proofs.Ythcmooaodofgoaa
/- THE CELL 'sum', in the pinned program and in every row, IS THE sha256 OF THE DUMP (.gsa) THAT YthcmooaodofgoaaProg.lean LOADS. Nothing in Lean hashes anything: it is a label: what it is worth is what the hold of that sum in a sandbox is worth. -/
noncomputable def Try.pinned : Pinned := { name := "ythcmooaodofgoaa", sum := "23efb82b7da5f516f62b461e39f2386728d5ae3a2d475c6963448a452420b14d", checked := Try.checked }
namespace Rows
def none {H : Type} : Left H := { results := [], args := [] }

/-- 'pentimentolaw6.BitsRuns': WHATEVER THE INPUT: true; the input reads as it did. -/
def bitsRunsSpec : ChangeSpec := { name := "bitsRuns", fn := fun _ => fun
  | [d1, d2] => { results := [.lit (.bool true)], args := [d1, d2] }
  | _ => none }
def bitsRunsRow : OpenClaim := { program := "ythcmooaodofgoaa", sum := "23efb82b7da5f516f62b461e39f2386728d5ae3a2d475c6963448a452420b14d", func := "pentimento/pentimentolaw6.BitsRuns", spec := "bitsRuns", apart := false }
def BitsRunsSaid : Prop := bitsRunsRow.holds Try.pinned (OpenSpec.ofChange bitsRunsSpec)

/-- ITS FALSE NEIGHBOUR: 'it returns false'. Refute it at one input. -/
def bitsRunsWrong : ChangeSpec := { name := "bitsRuns", fn := fun _ => fun
  | [d1, d2] => { results := [.lit (.bool false)], args := [d1, d2] }
  | _ => none }
def BitsRunsWrongFalsely : Prop := bitsRunsRow.holds Try.pinned (OpenSpec.ofChange bitsRunsWrong)

/-- 'pentimentolaw6.BitsKnown': WHATEVER THE INPUT: true; the input reads as it did. -/
def bitsKnownSpec : ChangeSpec := { name := "bitsKnown", fn := fun _ => fun
  | [] => { results := [.lit (.bool true)], args := [] }
  | _ => none }
def bitsKnownRow : OpenClaim := { program := "ythcmooaodofgoaa", sum := "23efb82b7da5f516f62b461e39f2386728d5ae3a2d475c6963448a452420b14d", func := "pentimento/pentimentolaw6.BitsKnown", spec := "bitsKnown", apart := false }
def BitsKnownSaid : Prop := bitsKnownRow.holds Try.pinned (OpenSpec.ofChange bitsKnownSpec)

/-- ITS FALSE NEIGHBOUR: 'it returns false'. Refute it at one input. -/
def bitsKnownWrong : ChangeSpec := { name := "bitsKnown", fn := fun _ => fun
  | [] => { results := [.lit (.bool false)], args := [] }
  | _ => none }
def BitsKnownWrongFalsely : Prop := bitsKnownRow.holds Try.pinned (OpenSpec.ofChange bitsKnownWrong)

/-- 'pentimentolaw6.BitsPlay': WHATEVER THE INPUT: true; the input reads as it did. -/
def bitsPlaySpec : ChangeSpec := { name := "bitsPlay", fn := fun _ => fun
  | [d1, d2] => { results := [.lit (.bool true)], args := [d1, d2] }
  | _ => none }
def bitsPlayRow : OpenClaim := { program := "ythcmooaodofgoaa", sum := "23efb82b7da5f516f62b461e39f2386728d5ae3a2d475c6963448a452420b14d", func := "pentimento/pentimentolaw6.BitsPlay", spec := "bitsPlay", apart := false }
def BitsPlaySaid : Prop := bitsPlayRow.holds Try.pinned (OpenSpec.ofChange bitsPlaySpec)

/-- ITS FALSE NEIGHBOUR: 'it returns false'. Refute it at one input. -/
def bitsPlayWrong : ChangeSpec := { name := "bitsPlay", fn := fun _ => fun
  | [d1, d2] => { results := [.lit (.bool false)], args := [d1, d2] }
  | _ => none }
def BitsPlayWrongFalsely : Prop := bitsPlayRow.holds Try.pinned (OpenSpec.ofChange bitsPlayWrong)

/-- 'pentimentolaw6.BitsLoads': WHATEVER THE INPUT: true; the input reads as it did. -/
def bitsLoadsSpec : ChangeSpec := { name := "bitsLoads", fn := fun _ => fun
  | [d1, d2, d3] => { results := [.lit (.bool true)], args := [d1, d2, d3] }
  | _ => none }
def bitsLoadsRow : OpenClaim := { program := "ythcmooaodofgoaa", sum := "23efb82b7da5f516f62b461e39f2386728d5ae3a2d475c6963448a452420b14d", func := "pentimento/pentimentolaw6.BitsLoads", spec := "bitsLoads", apart := false }
def BitsLoadsSaid : Prop := bitsLoadsRow.holds Try.pinned (OpenSpec.ofChange bitsLoadsSpec)

/-- ITS FALSE NEIGHBOUR: 'it returns false'. Refute it at one input. -/
def bitsLoadsWrong : ChangeSpec := { name := "bitsLoads", fn := fun _ => fun
  | [d1, d2, d3] => { results := [.lit (.bool false)], args := [d1, d2, d3] }
  | _ => none }
def BitsLoadsWrongFalsely : Prop := bitsLoadsRow.holds Try.pinned (OpenSpec.ofChange bitsLoadsWrong)

/-- 'pentimentolaw7.ExtentPlays': WHATEVER THE INPUT: true; the input reads as it did. -/
def extentPlaysSpec : ChangeSpec := { name := "extentPlays", fn := fun _ => fun
  | [d1, d2, d3] => { results := [.lit (.bool true)], args := [d1, d2, d3] }
  | _ => none }
def extentPlaysRow : OpenClaim := { program := "ythcmooaodofgoaa", sum := "23efb82b7da5f516f62b461e39f2386728d5ae3a2d475c6963448a452420b14d", func := "pentimento/pentimentolaw7.ExtentPlays", spec := "extentPlays", unfollowed := true, recurses := true, apart := false }
def ExtentPlaysSaid : Prop := extentPlaysRow.holds Try.pinned (OpenSpec.ofChange extentPlaysSpec)

/-- ITS FALSE NEIGHBOUR: 'it returns false'. Refute it at one input. -/
def extentPlaysWrong : ChangeSpec := { name := "extentPlays", fn := fun _ => fun
  | [d1, d2, d3] => { results := [.lit (.bool false)], args := [d1, d2, d3] }
  | _ => none }
def ExtentPlaysWrongFalsely : Prop := extentPlaysRow.holds Try.pinned (OpenSpec.ofChange extentPlaysWrong)

/-- 'pentimentolaw7.ExtentApart': WHATEVER THE INPUT: true; the input reads as it did. -/
def extentApartSpec : ChangeSpec := { name := "extentApart", fn := fun _ => fun
  | [d1, d2, d3, d4] => { results := [.lit (.bool true)], args := [d1, d2, d3, d4] }
  | _ => none }
def extentApartRow : OpenClaim := { program := "ythcmooaodofgoaa", sum := "23efb82b7da5f516f62b461e39f2386728d5ae3a2d475c6963448a452420b14d", func := "pentimento/pentimentolaw7.ExtentApart", spec := "extentApart", unfollowed := true, recurses := true, apart := false }
def ExtentApartSaid : Prop := extentApartRow.holds Try.pinned (OpenSpec.ofChange extentApartSpec)

/-- ITS FALSE NEIGHBOUR: 'it returns false'. Refute it at one input. -/
def extentApartWrong : ChangeSpec := { name := "extentApart", fn := fun _ => fun
  | [d1, d2, d3, d4] => { results := [.lit (.bool false)], args := [d1, d2, d3, d4] }
  | _ => none }
def ExtentApartWrongFalsely : Prop := extentApartRow.holds Try.pinned (OpenSpec.ofChange extentApartWrong)

/-- 'pentimentolaw7.ExtentKnown': WHATEVER THE INPUT: true; the input reads as it did. -/
def extentKnownSpec : ChangeSpec := { name := "extentKnown", fn := fun _ => fun
  | [] => { results := [.lit (.bool true)], args := [] }
  | _ => none }
def extentKnownRow : OpenClaim := { program := "ythcmooaodofgoaa", sum := "23efb82b7da5f516f62b461e39f2386728d5ae3a2d475c6963448a452420b14d", func := "pentimento/pentimentolaw7.ExtentKnown", spec := "extentKnown", unfollowed := true, recurses := true, apart := false }
def ExtentKnownSaid : Prop := extentKnownRow.holds Try.pinned (OpenSpec.ofChange extentKnownSpec)

/-- ITS FALSE NEIGHBOUR: 'it returns false'. Refute it at one input. -/
def extentKnownWrong : ChangeSpec := { name := "extentKnown", fn := fun _ => fun
  | [] => { results := [.lit (.bool false)], args := [] }
  | _ => none }
def ExtentKnownWrongFalsely : Prop := extentKnownRow.holds Try.pinned (OpenSpec.ofChange extentKnownWrong)

/-- 'pentimentolaw7.ExtentRaw': WHATEVER THE INPUT: true; the input reads as it did. -/
def extentRawSpec : ChangeSpec := { name := "extentRaw", fn := fun _ => fun
  | [d1, d2, d3, d4, d5, d6, d7] => { results := [.lit (.bool true)], args := [d1, d2, d3, d4, d5, d6, d7] }
  | _ => none }
def extentRawRow : OpenClaim := { program := "ythcmooaodofgoaa", sum := "23efb82b7da5f516f62b461e39f2386728d5ae3a2d475c6963448a452420b14d", func := "pentimento/pentimentolaw7.ExtentRaw", spec := "extentRaw", unfollowed := true, recurses := true, apart := false }
def ExtentRawSaid : Prop := extentRawRow.holds Try.pinned (OpenSpec.ofChange extentRawSpec)

/-- ITS FALSE NEIGHBOUR: 'it returns false'. Refute it at one input. -/
def extentRawWrong : ChangeSpec := { name := "extentRaw", fn := fun _ => fun
  | [d1, d2, d3, d4, d5, d6, d7] => { results := [.lit (.bool false)], args := [d1, d2, d3, d4, d5, d6, d7] }
  | _ => none }
def ExtentRawWrongFalsely : Prop := extentRawRow.holds Try.pinned (OpenSpec.ofChange extentRawWrong)

/- THE SECOND FORM. 'bulk': how many values and letters a reading holds, each counted each time it is reached (what is shared counts as often as it is met; a slice's spare places count too). A statement '..UptoSaid' is the law's where the arguments, and the package variables that the reading takes, are together of bulk at most 1048576: NARROWER than '..Said'. Prove '..Said' where nothing that the law and all that it calls make is longer than what came in: it says more and counts as full. Else prove '..UptoSaid'. A law counts once. -/
mutual
def uptoBulk {H : Type} : DataW H → Nat
  | .lit (.string bytes) => bytes.length + 1
  | .lit _ => 1
  | .nil => 1
  | .ptr d => uptoBulk d + 1
  | .slice elems spare => uptoBulkAll elems + uptoBulkAll spare + 1
  | .agg parts => uptoBulkAll parts + 1
  | .iface _ d => uptoBulk d + 1
  | .map entries => uptoBulkEntries entries + 1
  | .held _ => 1
def uptoBulkAll {H : Type} : List (DataW H) → Nat
  | [] => 0
  | d :: r => uptoBulk d + uptoBulkAll r
def uptoBulkEntries {H : Type} : List (Lit × DataW H) → Nat
  | [] => 0
  | x :: r => uptoBulkEntry x + uptoBulkEntries r
def uptoBulkEntry {H : Type} : Lit × DataW H → Nat
  | (.string bytes, d) => bytes.length + uptoBulk d + 1
  | (_, d) => uptoBulk d + 1
 end
def uptoSmall : (H : Type) → List (DataW H) → Bool := fun _ ds => decide (uptoBulkAll ds ≤ 1048576)
def OpenSpec.upto (s : _root_.Go.ChangeSpec) : _root_.Go.OpenSpec := { _root_.Go.OpenSpec.ofChange s with cond := some uptoSmall }

/-- 'pentimentolaw6.BitsRuns', WHERE WHAT IT READS IS OF BULK AT MOST 1048576: true; the input reads as it did. -/
def bitsRunsUptoRow : OpenClaim := { program := "ythcmooaodofgoaa", sum := "23efb82b7da5f516f62b461e39f2386728d5ae3a2d475c6963448a452420b14d", func := "pentimento/pentimentolaw6.BitsRuns", spec := "bitsRuns", apart := false, narrowed := true }
def BitsRunsUptoSaid : Prop := bitsRunsUptoRow.holds Try.pinned (OpenSpec.upto bitsRunsSpec)

/-- 'pentimentolaw6.BitsKnown', WHERE WHAT IT READS IS OF BULK AT MOST 1048576: true; the input reads as it did. -/
def bitsKnownUptoRow : OpenClaim := { program := "ythcmooaodofgoaa", sum := "23efb82b7da5f516f62b461e39f2386728d5ae3a2d475c6963448a452420b14d", func := "pentimento/pentimentolaw6.BitsKnown", spec := "bitsKnown", apart := false, narrowed := true }
def BitsKnownUptoSaid : Prop := bitsKnownUptoRow.holds Try.pinned (OpenSpec.upto bitsKnownSpec)

/-- 'pentimentolaw6.BitsPlay', WHERE WHAT IT READS IS OF BULK AT MOST 1048576: true; the input reads as it did. -/
def bitsPlayUptoRow : OpenClaim := { program := "ythcmooaodofgoaa", sum := "23efb82b7da5f516f62b461e39f2386728d5ae3a2d475c6963448a452420b14d", func := "pentimento/pentimentolaw6.BitsPlay", spec := "bitsPlay", apart := false, narrowed := true }
def BitsPlayUptoSaid : Prop := bitsPlayUptoRow.holds Try.pinned (OpenSpec.upto bitsPlaySpec)

/-- 'pentimentolaw6.BitsLoads', WHERE WHAT IT READS IS OF BULK AT MOST 1048576: true; the input reads as it did. -/
def bitsLoadsUptoRow : OpenClaim := { program := "ythcmooaodofgoaa", sum := "23efb82b7da5f516f62b461e39f2386728d5ae3a2d475c6963448a452420b14d", func := "pentimento/pentimentolaw6.BitsLoads", spec := "bitsLoads", apart := false, narrowed := true }
def BitsLoadsUptoSaid : Prop := bitsLoadsUptoRow.holds Try.pinned (OpenSpec.upto bitsLoadsSpec)

/-- 'pentimentolaw7.ExtentPlays', WHERE WHAT IT READS IS OF BULK AT MOST 1048576: true; the input reads as it did. -/
def extentPlaysUptoRow : OpenClaim := { program := "ythcmooaodofgoaa", sum := "23efb82b7da5f516f62b461e39f2386728d5ae3a2d475c6963448a452420b14d", func := "pentimento/pentimentolaw7.ExtentPlays", spec := "extentPlays", unfollowed := true, recurses := true, apart := false, narrowed := true }
def ExtentPlaysUptoSaid : Prop := extentPlaysUptoRow.holds Try.pinned (OpenSpec.upto extentPlaysSpec)

/-- 'pentimentolaw7.ExtentApart', WHERE WHAT IT READS IS OF BULK AT MOST 1048576: true; the input reads as it did. -/
def extentApartUptoRow : OpenClaim := { program := "ythcmooaodofgoaa", sum := "23efb82b7da5f516f62b461e39f2386728d5ae3a2d475c6963448a452420b14d", func := "pentimento/pentimentolaw7.ExtentApart", spec := "extentApart", unfollowed := true, recurses := true, apart := false, narrowed := true }
def ExtentApartUptoSaid : Prop := extentApartUptoRow.holds Try.pinned (OpenSpec.upto extentApartSpec)

/-- 'pentimentolaw7.ExtentKnown', WHERE WHAT IT READS IS OF BULK AT MOST 1048576: true; the input reads as it did. -/
def extentKnownUptoRow : OpenClaim := { program := "ythcmooaodofgoaa", sum := "23efb82b7da5f516f62b461e39f2386728d5ae3a2d475c6963448a452420b14d", func := "pentimento/pentimentolaw7.ExtentKnown", spec := "extentKnown", unfollowed := true, recurses := true, apart := false, narrowed := true }
def ExtentKnownUptoSaid : Prop := extentKnownUptoRow.holds Try.pinned (OpenSpec.upto extentKnownSpec)

/-- 'pentimentolaw7.ExtentRaw', WHERE WHAT IT READS IS OF BULK AT MOST 1048576: true; the input reads as it did. -/
def extentRawUptoRow : OpenClaim := { program := "ythcmooaodofgoaa", sum := "23efb82b7da5f516f62b461e39f2386728d5ae3a2d475c6963448a452420b14d", func := "pentimento/pentimentolaw7.ExtentRaw", spec := "extentRaw", unfollowed := true, recurses := true, apart := false, narrowed := true }
def ExtentRawUptoSaid : Prop := extentRawUptoRow.holds Try.pinned (OpenSpec.upto extentRawSpec)

end Rows
end Go.Proofs.Ythcmooaodofgoaa
