/-
  No cell of these rows narrows 'for every input' (looked for: loops, veiled, ifaces, maps, wideKeys, modest, calm, conditions, laid).
  DERIVED. THE GIVEN ROWS OF THIS SEAT. 10 by the template 'for every input the law returns true; each argument reads behind the call as it read before'; 0 by the template 'total and deterministic' (their statements: YtmknlojgjlpgfaaTotals.lean).
  GIVEN WITH THE SEED: the statements are not yours to turn. If you find one false, say at which input.
  Laid BY PROGRAM, IN A SANDBOX (cutbox-rows.mjs): the forced cells as the released guide's own fill.sh prints them over the translation 817f69442c5c1c39… (all of the seat's roots in one cut). By AI agents, Wed Nov 11 2026. No macro, syntax, notation, axiom, sorry.
-/
import Derived.Test.YtmknlojgjlpgfaaChecked
import GoSem.Claim
import GoSem.ClaimJoined
import GoSem.ClaimMapViews
import Derived.JoinedTies
import Derived.KernelRfl
namespace Go.Proofs.Ytmknlojgjlpgfaa
/- THE CELL 'sum', in the pinned program and in every row, IS THE sha256 OF THE DUMP (.gsa) THAT YtmknlojgjlpgfaaProg.lean LOADS. Nothing in Lean hashes anything: it is a label: what it is worth is what the hold of that sum in a sandbox is worth. -/
noncomputable def Try.pinned : Pinned := { name := "ytmknlojgjlpgfaa", sum := "817f69442c5c1c3933f3a5a693ea8611cbc6f29475bcc79760999df96d689076", checked := Try.checked }
namespace Rows
def none {H : Type} : Left H := { results := [], args := [] }

/-- 'lamplighterlaw39.HashSums': WHATEVER THE INPUT: true; the input reads as it did. -/
def hashSumsSpec : ChangeSpec := { name := "hashSums", fn := fun _ => fun
  | [d1, d2] => { results := [.lit (.bool true)], args := [d1, d2] }
  | _ => none }
def hashSumsRow : OpenClaim := { program := "ytmknlojgjlpgfaa", sum := "817f69442c5c1c3933f3a5a693ea8611cbc6f29475bcc79760999df96d689076", func := "lamplighter/lamplighterlaw39.HashSums", spec := "hashSums", apart := false }
def HashSumsSaid : Prop := hashSumsRow.holds Try.pinned (OpenSpec.ofChange hashSumsSpec)

/-- ITS FALSE NEIGHBOUR: 'it returns false'. Refute it at one input. -/
def hashSumsWrong : ChangeSpec := { name := "hashSums", fn := fun _ => fun
  | [d1, d2] => { results := [.lit (.bool false)], args := [d1, d2] }
  | _ => none }
def HashSumsWrongFalsely : Prop := hashSumsRow.holds Try.pinned (OpenSpec.ofChange hashSumsWrong)

/-- 'lamplighterlaw39.HashSpread': WHATEVER THE INPUT: true; the input reads as it did. -/
def hashSpreadSpec : ChangeSpec := { name := "hashSpread", fn := fun _ => fun
  | [d1, d2] => { results := [.lit (.bool true)], args := [d1, d2] }
  | _ => none }
def hashSpreadRow : OpenClaim := { program := "ytmknlojgjlpgfaa", sum := "817f69442c5c1c3933f3a5a693ea8611cbc6f29475bcc79760999df96d689076", func := "lamplighter/lamplighterlaw39.HashSpread", spec := "hashSpread", apart := false }
def HashSpreadSaid : Prop := hashSpreadRow.holds Try.pinned (OpenSpec.ofChange hashSpreadSpec)

/-- ITS FALSE NEIGHBOUR: 'it returns false'. Refute it at one input. -/
def hashSpreadWrong : ChangeSpec := { name := "hashSpread", fn := fun _ => fun
  | [d1, d2] => { results := [.lit (.bool false)], args := [d1, d2] }
  | _ => none }
def HashSpreadWrongFalsely : Prop := hashSpreadRow.holds Try.pinned (OpenSpec.ofChange hashSpreadWrong)

/-- 'lamplighterlaw38.GateEnds': WHATEVER THE INPUT: true; the input reads as it did. -/
def gateEndsSpec : ChangeSpec := { name := "gateEnds", fn := fun _ => fun
  | [d1, d2] => { results := [.lit (.bool true)], args := [d1, d2] }
  | _ => none }
def gateEndsRow : OpenClaim := { program := "ytmknlojgjlpgfaa", sum := "817f69442c5c1c3933f3a5a693ea8611cbc6f29475bcc79760999df96d689076", func := "lamplighter/lamplighterlaw38.GateEnds", spec := "gateEnds", apart := false }
def GateEndsSaid : Prop := gateEndsRow.holds Try.pinned (OpenSpec.ofChange gateEndsSpec)

/-- ITS FALSE NEIGHBOUR: 'it returns false'. Refute it at one input. -/
def gateEndsWrong : ChangeSpec := { name := "gateEnds", fn := fun _ => fun
  | [d1, d2] => { results := [.lit (.bool false)], args := [d1, d2] }
  | _ => none }
def GateEndsWrongFalsely : Prop := gateEndsRow.holds Try.pinned (OpenSpec.ofChange gateEndsWrong)

/-- 'lamplighterlaw38.GatePlays': WHATEVER THE INPUT: true; the input reads as it did. -/
def gatePlaysSpec : ChangeSpec := { name := "gatePlays", fn := fun _ => fun
  | [d] => { results := [.lit (.bool true)], args := [d] }
  | _ => none }
def gatePlaysRow : OpenClaim := { program := "ytmknlojgjlpgfaa", sum := "817f69442c5c1c3933f3a5a693ea8611cbc6f29475bcc79760999df96d689076", func := "lamplighter/lamplighterlaw38.GatePlays", spec := "gatePlays", apart := false }
def GatePlaysSaid : Prop := gatePlaysRow.holds Try.pinned (OpenSpec.ofChange gatePlaysSpec)

/-- ITS FALSE NEIGHBOUR: 'it returns false'. Refute it at one input. -/
def gatePlaysWrong : ChangeSpec := { name := "gatePlays", fn := fun _ => fun
  | [d] => { results := [.lit (.bool false)], args := [d] }
  | _ => none }
def GatePlaysWrongFalsely : Prop := gatePlaysRow.holds Try.pinned (OpenSpec.ofChange gatePlaysWrong)

/-- 'lamplighterlaw37.CountPlays': WHATEVER THE INPUT: true; the input reads as it did. -/
def countPlaysSpec : ChangeSpec := { name := "countPlays", fn := fun _ => fun
  | [d1, d2] => { results := [.lit (.bool true)], args := [d1, d2] }
  | _ => none }
def countPlaysRow : OpenClaim := { program := "ytmknlojgjlpgfaa", sum := "817f69442c5c1c3933f3a5a693ea8611cbc6f29475bcc79760999df96d689076", func := "lamplighter/lamplighterlaw37.CountPlays", spec := "countPlays", apart := false }
def CountPlaysSaid : Prop := countPlaysRow.holds Try.pinned (OpenSpec.ofChange countPlaysSpec)

/-- ITS FALSE NEIGHBOUR: 'it returns false'. Refute it at one input. -/
def countPlaysWrong : ChangeSpec := { name := "countPlays", fn := fun _ => fun
  | [d1, d2] => { results := [.lit (.bool false)], args := [d1, d2] }
  | _ => none }
def CountPlaysWrongFalsely : Prop := countPlaysRow.holds Try.pinned (OpenSpec.ofChange countPlaysWrong)

/-- 'lamplighterlaw37.CountSums': WHATEVER THE INPUT: true; the input reads as it did. -/
def countSumsSpec : ChangeSpec := { name := "countSums", fn := fun _ => fun
  | [d1, d2] => { results := [.lit (.bool true)], args := [d1, d2] }
  | _ => none }
def countSumsRow : OpenClaim := { program := "ytmknlojgjlpgfaa", sum := "817f69442c5c1c3933f3a5a693ea8611cbc6f29475bcc79760999df96d689076", func := "lamplighter/lamplighterlaw37.CountSums", spec := "countSums", apart := false }
def CountSumsSaid : Prop := countSumsRow.holds Try.pinned (OpenSpec.ofChange countSumsSpec)

/-- ITS FALSE NEIGHBOUR: 'it returns false'. Refute it at one input. -/
def countSumsWrong : ChangeSpec := { name := "countSums", fn := fun _ => fun
  | [d1, d2] => { results := [.lit (.bool false)], args := [d1, d2] }
  | _ => none }
def CountSumsWrongFalsely : Prop := countSumsRow.holds Try.pinned (OpenSpec.ofChange countSumsWrong)

/-- 'lamplighterlaw37.CountReads': WHATEVER THE INPUT: true; the input reads as it did. -/
def countReadsSpec : ChangeSpec := { name := "countReads", fn := fun _ => fun
  | [d1, d2] => { results := [.lit (.bool true)], args := [d1, d2] }
  | _ => none }
def countReadsRow : OpenClaim := { program := "ytmknlojgjlpgfaa", sum := "817f69442c5c1c3933f3a5a693ea8611cbc6f29475bcc79760999df96d689076", func := "lamplighter/lamplighterlaw37.CountReads", spec := "countReads", apart := false }
def CountReadsSaid : Prop := countReadsRow.holds Try.pinned (OpenSpec.ofChange countReadsSpec)

/-- ITS FALSE NEIGHBOUR: 'it returns false'. Refute it at one input. -/
def countReadsWrong : ChangeSpec := { name := "countReads", fn := fun _ => fun
  | [d1, d2] => { results := [.lit (.bool false)], args := [d1, d2] }
  | _ => none }
def CountReadsWrongFalsely : Prop := countReadsRow.holds Try.pinned (OpenSpec.ofChange countReadsWrong)

/-- 'lamplighterlaw10.TextClasses': WHATEVER THE INPUT: true; the input reads as it did. -/
def textClassesSpec : ChangeSpec := { name := "textClasses", fn := fun _ => fun
  | [d] => { results := [.lit (.bool true)], args := [d] }
  | _ => none }
def textClassesRow : OpenClaim := { program := "ytmknlojgjlpgfaa", sum := "817f69442c5c1c3933f3a5a693ea8611cbc6f29475bcc79760999df96d689076", func := "lamplighter/lamplighterlaw10.TextClasses", spec := "textClasses", inPlace := ["internal/bytealg.IndexByteString"], apart := false }
def TextClassesSaid : Prop := textClassesRow.holds Try.pinned (OpenSpec.ofChange textClassesSpec)

/-- ITS FALSE NEIGHBOUR: 'it returns false'. Refute it at one input. -/
def textClassesWrong : ChangeSpec := { name := "textClasses", fn := fun _ => fun
  | [d] => { results := [.lit (.bool false)], args := [d] }
  | _ => none }
def TextClassesWrongFalsely : Prop := textClassesRow.holds Try.pinned (OpenSpec.ofChange textClassesWrong)

/-- 'lamplighterlaw10.TextRuns': WHATEVER THE INPUT: true; the input reads as it did. -/
def textRunsSpec : ChangeSpec := { name := "textRuns", fn := fun _ => fun
  | [d1, d2] => { results := [.lit (.bool true)], args := [d1, d2] }
  | _ => none }
def textRunsRow : OpenClaim := { program := "ytmknlojgjlpgfaa", sum := "817f69442c5c1c3933f3a5a693ea8611cbc6f29475bcc79760999df96d689076", func := "lamplighter/lamplighterlaw10.TextRuns", spec := "textRuns", inPlace := ["internal/bytealg.IndexByteString"], apart := false }
def TextRunsSaid : Prop := textRunsRow.holds Try.pinned (OpenSpec.ofChange textRunsSpec)

/-- ITS FALSE NEIGHBOUR: 'it returns false'. Refute it at one input. -/
def textRunsWrong : ChangeSpec := { name := "textRuns", fn := fun _ => fun
  | [d1, d2] => { results := [.lit (.bool false)], args := [d1, d2] }
  | _ => none }
def TextRunsWrongFalsely : Prop := textRunsRow.holds Try.pinned (OpenSpec.ofChange textRunsWrong)

/-- 'lamplighterlaw10.TextQuotes': WHATEVER THE INPUT: true; the input reads as it did. -/
def textQuotesSpec : ChangeSpec := { name := "textQuotes", fn := fun _ => fun
  | [d1, d2] => { results := [.lit (.bool true)], args := [d1, d2] }
  | _ => none }
def textQuotesRow : OpenClaim := { program := "ytmknlojgjlpgfaa", sum := "817f69442c5c1c3933f3a5a693ea8611cbc6f29475bcc79760999df96d689076", func := "lamplighter/lamplighterlaw10.TextQuotes", spec := "textQuotes", inPlace := ["internal/bytealg.IndexByteString"], apart := false }
def TextQuotesSaid : Prop := textQuotesRow.holds Try.pinned (OpenSpec.ofChange textQuotesSpec)

/-- ITS FALSE NEIGHBOUR: 'it returns false'. Refute it at one input. -/
def textQuotesWrong : ChangeSpec := { name := "textQuotes", fn := fun _ => fun
  | [d1, d2] => { results := [.lit (.bool false)], args := [d1, d2] }
  | _ => none }
def TextQuotesWrongFalsely : Prop := textQuotesRow.holds Try.pinned (OpenSpec.ofChange textQuotesWrong)

/- THE SECOND FORM. 'bulk': how many values and letters a reading holds, each counted each time it is reached (what is shared counts as often as it is met; a slice's spare places count too). A statement '..UptoSaid' is the law's where the arguments, and the package variables that the reading takes, are together of bulk at most 1048576: NARROWER than '..Said'. Prove '..Said' where nothing that the law and all that it calls make is longer than what came in: it says more and counts as full. Else prove '..UptoSaid'. A law counts once. -/
mutual
def uptoBulk {H : Type} : DataW H → Nat
  | .lit (.string bytes) => bytes.length + 1
  | .lit _ => 1
  | .nil => 1
  | .ptr d => uptoBulk d + 1
  | .slice elems spare => uptoBulkAll elems + uptoBulkAll spare + 1
  | .agg parts => uptoBulkAll parts + 1
  | .iface _ d => uptoBulk d + 1
  | .map entries => uptoBulkEntries entries + 1
  | .held _ => 1
def uptoBulkAll {H : Type} : List (DataW H) → Nat
  | [] => 0
  | d :: r => uptoBulk d + uptoBulkAll r
def uptoBulkEntries {H : Type} : List (Lit × DataW H) → Nat
  | [] => 0
  | x :: r => uptoBulkEntry x + uptoBulkEntries r
def uptoBulkEntry {H : Type} : Lit × DataW H → Nat
  | (.string bytes, d) => bytes.length + uptoBulk d + 1
  | (_, d) => uptoBulk d + 1
 end
def uptoSmall : (H : Type) → List (DataW H) → Bool := fun _ ds => decide (uptoBulkAll ds ≤ 1048576)
def OpenSpec.upto (s : _root_.Go.ChangeSpec) : _root_.Go.OpenSpec := { _root_.Go.OpenSpec.ofChange s with cond := some uptoSmall }

/-- 'lamplighterlaw39.HashSums', WHERE WHAT IT READS IS OF BULK AT MOST 1048576: true; the input reads as it did. -/
def hashSumsUptoRow : OpenClaim := { program := "ytmknlojgjlpgfaa", sum := "817f69442c5c1c3933f3a5a693ea8611cbc6f29475bcc79760999df96d689076", func := "lamplighter/lamplighterlaw39.HashSums", spec := "hashSums", apart := false, narrowed := true }
def HashSumsUptoSaid : Prop := hashSumsUptoRow.holds Try.pinned (OpenSpec.upto hashSumsSpec)

/-- 'lamplighterlaw39.HashSpread', WHERE WHAT IT READS IS OF BULK AT MOST 1048576: true; the input reads as it did. -/
def hashSpreadUptoRow : OpenClaim := { program := "ytmknlojgjlpgfaa", sum := "817f69442c5c1c3933f3a5a693ea8611cbc6f29475bcc79760999df96d689076", func := "lamplighter/lamplighterlaw39.HashSpread", spec := "hashSpread", apart := false, narrowed := true }
def HashSpreadUptoSaid : Prop := hashSpreadUptoRow.holds Try.pinned (OpenSpec.upto hashSpreadSpec)

/-- 'lamplighterlaw38.GateEnds', WHERE WHAT IT READS IS OF BULK AT MOST 1048576: true; the input reads as it did. -/
def gateEndsUptoRow : OpenClaim := { program := "ytmknlojgjlpgfaa", sum := "817f69442c5c1c3933f3a5a693ea8611cbc6f29475bcc79760999df96d689076", func := "lamplighter/lamplighterlaw38.GateEnds", spec := "gateEnds", apart := false, narrowed := true }
def GateEndsUptoSaid : Prop := gateEndsUptoRow.holds Try.pinned (OpenSpec.upto gateEndsSpec)

/-- 'lamplighterlaw38.GatePlays', WHERE WHAT IT READS IS OF BULK AT MOST 1048576: true; the input reads as it did. -/
def gatePlaysUptoRow : OpenClaim := { program := "ytmknlojgjlpgfaa", sum := "817f69442c5c1c3933f3a5a693ea8611cbc6f29475bcc79760999df96d689076", func := "lamplighter/lamplighterlaw38.GatePlays", spec := "gatePlays", apart := false, narrowed := true }
def GatePlaysUptoSaid : Prop := gatePlaysUptoRow.holds Try.pinned (OpenSpec.upto gatePlaysSpec)

/-- 'lamplighterlaw37.CountPlays', WHERE WHAT IT READS IS OF BULK AT MOST 1048576: true; the input reads as it did. -/
def countPlaysUptoRow : OpenClaim := { program := "ytmknlojgjlpgfaa", sum := "817f69442c5c1c3933f3a5a693ea8611cbc6f29475bcc79760999df96d689076", func := "lamplighter/lamplighterlaw37.CountPlays", spec := "countPlays", apart := false, narrowed := true }
def CountPlaysUptoSaid : Prop := countPlaysUptoRow.holds Try.pinned (OpenSpec.upto countPlaysSpec)

/-- 'lamplighterlaw37.CountSums', WHERE WHAT IT READS IS OF BULK AT MOST 1048576: true; the input reads as it did. -/
def countSumsUptoRow : OpenClaim := { program := "ytmknlojgjlpgfaa", sum := "817f69442c5c1c3933f3a5a693ea8611cbc6f29475bcc79760999df96d689076", func := "lamplighter/lamplighterlaw37.CountSums", spec := "countSums", apart := false, narrowed := true }
def CountSumsUptoSaid : Prop := countSumsUptoRow.holds Try.pinned (OpenSpec.upto countSumsSpec)

/-- 'lamplighterlaw37.CountReads', WHERE WHAT IT READS IS OF BULK AT MOST 1048576: true; the input reads as it did. -/
def countReadsUptoRow : OpenClaim := { program := "ytmknlojgjlpgfaa", sum := "817f69442c5c1c3933f3a5a693ea8611cbc6f29475bcc79760999df96d689076", func := "lamplighter/lamplighterlaw37.CountReads", spec := "countReads", apart := false, narrowed := true }
def CountReadsUptoSaid : Prop := countReadsUptoRow.holds Try.pinned (OpenSpec.upto countReadsSpec)

/-- 'lamplighterlaw10.TextClasses', WHERE WHAT IT READS IS OF BULK AT MOST 1048576: true; the input reads as it did. -/
def textClassesUptoRow : OpenClaim := { program := "ytmknlojgjlpgfaa", sum := "817f69442c5c1c3933f3a5a693ea8611cbc6f29475bcc79760999df96d689076", func := "lamplighter/lamplighterlaw10.TextClasses", spec := "textClasses", inPlace := ["internal/bytealg.IndexByteString"], apart := false, narrowed := true }
def TextClassesUptoSaid : Prop := textClassesUptoRow.holds Try.pinned (OpenSpec.upto textClassesSpec)

/-- 'lamplighterlaw10.TextRuns', WHERE WHAT IT READS IS OF BULK AT MOST 1048576: true; the input reads as it did. -/
def textRunsUptoRow : OpenClaim := { program := "ytmknlojgjlpgfaa", sum := "817f69442c5c1c3933f3a5a693ea8611cbc6f29475bcc79760999df96d689076", func := "lamplighter/lamplighterlaw10.TextRuns", spec := "textRuns", inPlace := ["internal/bytealg.IndexByteString"], apart := false, narrowed := true }
def TextRunsUptoSaid : Prop := textRunsUptoRow.holds Try.pinned (OpenSpec.upto textRunsSpec)

/-- 'lamplighterlaw10.TextQuotes', WHERE WHAT IT READS IS OF BULK AT MOST 1048576: true; the input reads as it did. -/
def textQuotesUptoRow : OpenClaim := { program := "ytmknlojgjlpgfaa", sum := "817f69442c5c1c3933f3a5a693ea8611cbc6f29475bcc79760999df96d689076", func := "lamplighter/lamplighterlaw10.TextQuotes", spec := "textQuotes", inPlace := ["internal/bytealg.IndexByteString"], apart := false, narrowed := true }
def TextQuotesUptoSaid : Prop := textQuotesUptoRow.holds Try.pinned (OpenSpec.upto textQuotesSpec)

end Rows
end Go.Proofs.Ytmknlojgjlpgfaa
