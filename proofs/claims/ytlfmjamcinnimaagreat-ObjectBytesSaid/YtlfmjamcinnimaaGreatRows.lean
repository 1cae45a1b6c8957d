/-
  No cell of these rows narrows 'for every input' (looked for: loops, veiled, ifaces, maps, wideKeys, modest, calm, conditions, laid).
  DERIVED. THE GIVEN ROWS OF THIS SEAT. 7 by the template 'for every input the law returns true; each argument reads behind the call as it read before'; 0 by the template 'total and deterministic' (their statements: YtlfmjamcinnimaaGreatTotals.lean).
  GIVEN WITH THE SEED: the statements are not yours to turn. If you find one false, say at which input.
  Laid BY PROGRAM, IN A SANDBOX (cutbox-rows.mjs): the forced cells as the released guide's own fill.sh prints them over the translation 09268b2b17fd8315… (all of the seat's roots in one cut). By AI agents, Wed Nov 11 2026. No macro, syntax, notation, axiom, sorry.
-/
import Derived.Test.YtlfmjamcinnimaaGreatChecked
import GoSem.Claim
import GoSem.ClaimJoined
import GoSem.ClaimMapViews
import Derived.JoinedTies
import Derived.KernelRfl
namespace Go.Proofs.YtlfmjamcinnimaaGreat
/- THE CELL 'sum', in the pinned program and in every row, IS THE sha256 OF THE DUMP (.gsa) THAT YtlfmjamcinnimaaGreatProg.lean LOADS. Nothing in Lean hashes anything: it is a label: what it is worth is what the hold of that sum in a sandbox is worth. -/
noncomputable def Tryz.pinned : Pinned := { name := "ytlfmjamcinnimaagreat", sum := "09268b2b17fd8315bf5403d249a39364e9e1a20153de395fa17b2f513d10b0b4", checked := Tryz.checked }
namespace Rows
def none {H : Type} : Left H := { results := [], args := [] }

/-- 'pentimentolaw8.ObjectForms': WHATEVER THE INPUT: true; the input reads as it did. -/
def objectFormsSpec : ChangeSpec := { name := "objectForms", fn := fun _ => fun
  | [d1, d2, d3] => { results := [.lit (.bool true)], args := [d1, d2, d3] }
  | _ => none }
def objectFormsRow : OpenClaim := { program := "ytlfmjamcinnimaagreat", sum := "09268b2b17fd8315bf5403d249a39364e9e1a20153de395fa17b2f513d10b0b4", func := "pentimento/pentimentolaw8.ObjectForms", spec := "objectForms", unfollowed := true, recurses := true, apart := false }
def ObjectFormsSaid : Prop := objectFormsRow.holds Tryz.pinned (OpenSpec.ofChange objectFormsSpec)

/-- ITS FALSE NEIGHBOUR: 'it returns false'. Refute it at one input. -/
def objectFormsWrong : ChangeSpec := { name := "objectForms", fn := fun _ => fun
  | [d1, d2, d3] => { results := [.lit (.bool false)], args := [d1, d2, d3] }
  | _ => none }
def ObjectFormsWrongFalsely : Prop := objectFormsRow.holds Tryz.pinned (OpenSpec.ofChange objectFormsWrong)

/-- 'pentimentolaw8.ObjectFills': WHATEVER THE INPUT: true; the input reads as it did. -/
def objectFillsSpec : ChangeSpec := { name := "objectFills", fn := fun _ => fun
  | [d1, d2, d3] => { results := [.lit (.bool true)], args := [d1, d2, d3] }
  | _ => none }
def objectFillsRow : OpenClaim := { program := "ytlfmjamcinnimaagreat", sum := "09268b2b17fd8315bf5403d249a39364e9e1a20153de395fa17b2f513d10b0b4", func := "pentimento/pentimentolaw8.ObjectFills", spec := "objectFills", unfollowed := true, recurses := true, apart := false }
def ObjectFillsSaid : Prop := objectFillsRow.holds Tryz.pinned (OpenSpec.ofChange objectFillsSpec)

/-- ITS FALSE NEIGHBOUR: 'it returns false'. Refute it at one input. -/
def objectFillsWrong : ChangeSpec := { name := "objectFills", fn := fun _ => fun
  | [d1, d2, d3] => { results := [.lit (.bool false)], args := [d1, d2, d3] }
  | _ => none }
def ObjectFillsWrongFalsely : Prop := objectFillsRow.holds Tryz.pinned (OpenSpec.ofChange objectFillsWrong)

/-- 'pentimentolaw8.ObjectUndoes': WHATEVER THE INPUT: true; the input reads as it did. -/
def objectUndoesSpec : ChangeSpec := { name := "objectUndoes", fn := fun _ => fun
  | [d1, d2] => { results := [.lit (.bool true)], args := [d1, d2] }
  | _ => none }
def objectUndoesRow : OpenClaim := { program := "ytlfmjamcinnimaagreat", sum := "09268b2b17fd8315bf5403d249a39364e9e1a20153de395fa17b2f513d10b0b4", func := "pentimento/pentimentolaw8.ObjectUndoes", spec := "objectUndoes", unfollowed := true, recurses := true, apart := false }
def ObjectUndoesSaid : Prop := objectUndoesRow.holds Tryz.pinned (OpenSpec.ofChange objectUndoesSpec)

/-- ITS FALSE NEIGHBOUR: 'it returns false'. Refute it at one input. -/
def objectUndoesWrong : ChangeSpec := { name := "objectUndoes", fn := fun _ => fun
  | [d1, d2] => { results := [.lit (.bool false)], args := [d1, d2] }
  | _ => none }
def ObjectUndoesWrongFalsely : Prop := objectUndoesRow.holds Tryz.pinned (OpenSpec.ofChange objectUndoesWrong)

/-- 'pentimentolaw8.ObjectKnown': WHATEVER THE INPUT: true; the input reads as it did. -/
def objectKnownSpec : ChangeSpec := { name := "objectKnown", fn := fun _ => fun
  | [] => { results := [.lit (.bool true)], args := [] }
  | _ => none }
def objectKnownRow : OpenClaim := { program := "ytlfmjamcinnimaagreat", sum := "09268b2b17fd8315bf5403d249a39364e9e1a20153de395fa17b2f513d10b0b4", func := "pentimento/pentimentolaw8.ObjectKnown", spec := "objectKnown", unfollowed := true, recurses := true, apart := false }
def ObjectKnownSaid : Prop := objectKnownRow.holds Tryz.pinned (OpenSpec.ofChange objectKnownSpec)

/-- ITS FALSE NEIGHBOUR: 'it returns false'. Refute it at one input. -/
def objectKnownWrong : ChangeSpec := { name := "objectKnown", fn := fun _ => fun
  | [] => { results := [.lit (.bool false)], args := [] }
  | _ => none }
def ObjectKnownWrongFalsely : Prop := objectKnownRow.holds Tryz.pinned (OpenSpec.ofChange objectKnownWrong)

/-- 'pentimentolaw8.ObjectPrefix': WHATEVER THE INPUT: true; the input reads as it did. -/
def objectPrefixSpec : ChangeSpec := { name := "objectPrefix", fn := fun _ => fun
  | [d] => { results := [.lit (.bool true)], args := [d] }
  | _ => none }
def objectPrefixRow : OpenClaim := { program := "ytlfmjamcinnimaagreat", sum := "09268b2b17fd8315bf5403d249a39364e9e1a20153de395fa17b2f513d10b0b4", func := "pentimento/pentimentolaw8.ObjectPrefix", spec := "objectPrefix", unfollowed := true, recurses := true, apart := false }
def ObjectPrefixSaid : Prop := objectPrefixRow.holds Tryz.pinned (OpenSpec.ofChange objectPrefixSpec)

/-- ITS FALSE NEIGHBOUR: 'it returns false'. Refute it at one input. -/
def objectPrefixWrong : ChangeSpec := { name := "objectPrefix", fn := fun _ => fun
  | [d] => { results := [.lit (.bool false)], args := [d] }
  | _ => none }
def ObjectPrefixWrongFalsely : Prop := objectPrefixRow.holds Tryz.pinned (OpenSpec.ofChange objectPrefixWrong)

/-- 'pentimentolaw8.ObjectBytes': WHATEVER THE INPUT: true; the input reads as it did. -/
def objectBytesSpec : ChangeSpec := { name := "objectBytes", fn := fun _ => fun
  | [d1, d2] => { results := [.lit (.bool true)], args := [d1, d2] }
  | _ => none }
def objectBytesRow : OpenClaim := { program := "ytlfmjamcinnimaagreat", sum := "09268b2b17fd8315bf5403d249a39364e9e1a20153de395fa17b2f513d10b0b4", func := "pentimento/pentimentolaw8.ObjectBytes", spec := "objectBytes", unfollowed := true, recurses := true, apart := false }
def ObjectBytesSaid : Prop := objectBytesRow.holds Tryz.pinned (OpenSpec.ofChange objectBytesSpec)

/-- ITS FALSE NEIGHBOUR: 'it returns false'. Refute it at one input. -/
def objectBytesWrong : ChangeSpec := { name := "objectBytes", fn := fun _ => fun
  | [d1, d2] => { results := [.lit (.bool false)], args := [d1, d2] }
  | _ => none }
def ObjectBytesWrongFalsely : Prop := objectBytesRow.holds Tryz.pinned (OpenSpec.ofChange objectBytesWrong)

/-- 'pentimentolaw8.ObjectPlays': WHATEVER THE INPUT: true; the input reads as it did. -/
def objectPlaysSpec : ChangeSpec := { name := "objectPlays", fn := fun _ => fun
  | [d1, d2, d3, d4] => { results := [.lit (.bool true)], args := [d1, d2, d3, d4] }
  | _ => none }
def objectPlaysRow : OpenClaim := { program := "ytlfmjamcinnimaagreat", sum := "09268b2b17fd8315bf5403d249a39364e9e1a20153de395fa17b2f513d10b0b4", func := "pentimento/pentimentolaw8.ObjectPlays", spec := "objectPlays", unfollowed := true, recurses := true, apart := false }
def ObjectPlaysSaid : Prop := objectPlaysRow.holds Tryz.pinned (OpenSpec.ofChange objectPlaysSpec)

/-- ITS FALSE NEIGHBOUR: 'it returns false'. Refute it at one input. -/
def objectPlaysWrong : ChangeSpec := { name := "objectPlays", fn := fun _ => fun
  | [d1, d2, d3, d4] => { results := [.lit (.bool false)], args := [d1, d2, d3, d4] }
  | _ => none }
def ObjectPlaysWrongFalsely : Prop := objectPlaysRow.holds Tryz.pinned (OpenSpec.ofChange objectPlaysWrong)

/- THE SECOND FORM. 'bulk': how many values and letters a reading holds, each counted each time it is reached (what is shared counts as often as it is met; a slice's spare places count too). A statement '..UptoSaid' is the law's where the arguments, and the package variables that the reading takes, are together of bulk at most 1048576: NARROWER than '..Said'. Prove '..Said' where nothing that the law and all that it calls make is longer than what came in: it says more and counts as full. Else prove '..UptoSaid'. A law counts once. -/
mutual
def uptoBulk {H : Type} : DataW H → Nat
  | .lit (.string bytes) => bytes.length + 1
  | .lit _ => 1
  | .nil => 1
  | .ptr d => uptoBulk d + 1
  | .slice elems spare => uptoBulkAll elems + uptoBulkAll spare + 1
  | .agg parts => uptoBulkAll parts + 1
  | .iface _ d => uptoBulk d + 1
  | .map entries => uptoBulkEntries entries + 1
  | .held _ => 1
def uptoBulkAll {H : Type} : List (DataW H) → Nat
  | [] => 0
  | d :: r => uptoBulk d + uptoBulkAll r
def uptoBulkEntries {H : Type} : List (Lit × DataW H) → Nat
  | [] => 0
  | x :: r => uptoBulkEntry x + uptoBulkEntries r
def uptoBulkEntry {H : Type} : Lit × DataW H → Nat
  | (.string bytes, d) => bytes.length + uptoBulk d + 1
  | (_, d) => uptoBulk d + 1
 end
def uptoSmall : (H : Type) → List (DataW H) → Bool := fun _ ds => decide (uptoBulkAll ds ≤ 1048576)
def OpenSpec.upto (s : _root_.Go.ChangeSpec) : _root_.Go.OpenSpec := { _root_.Go.OpenSpec.ofChange s with cond := some uptoSmall }

/-- 'pentimentolaw8.ObjectForms', WHERE WHAT IT READS IS OF BULK AT MOST 1048576: true; the input reads as it did. -/
def objectFormsUptoRow : OpenClaim := { program := "ytlfmjamcinnimaagreat", sum := "09268b2b17fd8315bf5403d249a39364e9e1a20153de395fa17b2f513d10b0b4", func := "pentimento/pentimentolaw8.ObjectForms", spec := "objectForms", unfollowed := true, recurses := true, apart := false, narrowed := true }
def ObjectFormsUptoSaid : Prop := objectFormsUptoRow.holds Tryz.pinned (OpenSpec.upto objectFormsSpec)

/-- 'pentimentolaw8.ObjectFills', WHERE WHAT IT READS IS OF BULK AT MOST 1048576: true; the input reads as it did. -/
def objectFillsUptoRow : OpenClaim := { program := "ytlfmjamcinnimaagreat", sum := "09268b2b17fd8315bf5403d249a39364e9e1a20153de395fa17b2f513d10b0b4", func := "pentimento/pentimentolaw8.ObjectFills", spec := "objectFills", unfollowed := true, recurses := true, apart := false, narrowed := true }
def ObjectFillsUptoSaid : Prop := objectFillsUptoRow.holds Tryz.pinned (OpenSpec.upto objectFillsSpec)

/-- 'pentimentolaw8.ObjectUndoes', WHERE WHAT IT READS IS OF BULK AT MOST 1048576: true; the input reads as it did. -/
def objectUndoesUptoRow : OpenClaim := { program := "ytlfmjamcinnimaagreat", sum := "09268b2b17fd8315bf5403d249a39364e9e1a20153de395fa17b2f513d10b0b4", func := "pentimento/pentimentolaw8.ObjectUndoes", spec := "objectUndoes", unfollowed := true, recurses := true, apart := false, narrowed := true }
def ObjectUndoesUptoSaid : Prop := objectUndoesUptoRow.holds Tryz.pinned (OpenSpec.upto objectUndoesSpec)

/-- 'pentimentolaw8.ObjectKnown', WHERE WHAT IT READS IS OF BULK AT MOST 1048576: true; the input reads as it did. -/
def objectKnownUptoRow : OpenClaim := { program := "ytlfmjamcinnimaagreat", sum := "09268b2b17fd8315bf5403d249a39364e9e1a20153de395fa17b2f513d10b0b4", func := "pentimento/pentimentolaw8.ObjectKnown", spec := "objectKnown", unfollowed := true, recurses := true, apart := false, narrowed := true }
def ObjectKnownUptoSaid : Prop := objectKnownUptoRow.holds Tryz.pinned (OpenSpec.upto objectKnownSpec)

/-- 'pentimentolaw8.ObjectPrefix', WHERE WHAT IT READS IS OF BULK AT MOST 1048576: true; the input reads as it did. -/
def objectPrefixUptoRow : OpenClaim := { program := "ytlfmjamcinnimaagreat", sum := "09268b2b17fd8315bf5403d249a39364e9e1a20153de395fa17b2f513d10b0b4", func := "pentimento/pentimentolaw8.ObjectPrefix", spec := "objectPrefix", unfollowed := true, recurses := true, apart := false, narrowed := true }
def ObjectPrefixUptoSaid : Prop := objectPrefixUptoRow.holds Tryz.pinned (OpenSpec.upto objectPrefixSpec)

/-- 'pentimentolaw8.ObjectBytes', WHERE WHAT IT READS IS OF BULK AT MOST 1048576: true; the input reads as it did. -/
def objectBytesUptoRow : OpenClaim := { program := "ytlfmjamcinnimaagreat", sum := "09268b2b17fd8315bf5403d249a39364e9e1a20153de395fa17b2f513d10b0b4", func := "pentimento/pentimentolaw8.ObjectBytes", spec := "objectBytes", unfollowed := true, recurses := true, apart := false, narrowed := true }
def ObjectBytesUptoSaid : Prop := objectBytesUptoRow.holds Tryz.pinned (OpenSpec.upto objectBytesSpec)

/-- 'pentimentolaw8.ObjectPlays', WHERE WHAT IT READS IS OF BULK AT MOST 1048576: true; the input reads as it did. -/
def objectPlaysUptoRow : OpenClaim := { program := "ytlfmjamcinnimaagreat", sum := "09268b2b17fd8315bf5403d249a39364e9e1a20153de395fa17b2f513d10b0b4", func := "pentimento/pentimentolaw8.ObjectPlays", spec := "objectPlays", unfollowed := true, recurses := true, apart := false, narrowed := true }
def ObjectPlaysUptoSaid : Prop := objectPlaysUptoRow.holds Tryz.pinned (OpenSpec.upto objectPlaysSpec)

end Rows
end Go.Proofs.YtlfmjamcinnimaaGreat
