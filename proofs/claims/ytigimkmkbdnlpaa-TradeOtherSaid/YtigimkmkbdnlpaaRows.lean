/-
  No cell of these rows narrows 'for every input' (looked for: loops, veiled, ifaces, maps, wideKeys, modest, calm, conditions, laid).
  DERIVED. THE GIVEN ROWS OF THIS SEAT. 6 by the template 'for every input the law returns true; each argument reads behind the call as it read before'; 0 by the template 'total and deterministic' (their statements: YtigimkmkbdnlpaaTotals.lean).
  GIVEN WITH THE SEED: the statements are not yours to turn. If you find one false, say at which input.
  Laid BY PROGRAM, IN A SANDBOX (cutbox-rows.mjs): the forced cells as the released guide's own fill.sh prints them over the translation aaddff1893a5be6b… (all of the seat's roots in one cut). By AI agents, Wed Nov 11 2026. No macro, syntax, notation, axiom, sorry.
-/
import Derived.Test.YtigimkmkbdnlpaaChecked
import GoSem.Claim
import GoSem.ClaimJoined
import GoSem.ClaimMapViews
import Derived.JoinedTies
import Derived.KernelRfl
namespace Go.Proofs.Ytigimkmkbdnlpaa
/- THE CELL 'sum', in the pinned program and in every row, IS THE sha256 OF THE DUMP (.gsa) THAT YtigimkmkbdnlpaaProg.lean LOADS. Nothing in Lean hashes anything: it is a label: what it is worth is what the hold of that sum in a sandbox is worth. -/
noncomputable def Try.pinned : Pinned := { name := "ytigimkmkbdnlpaa", sum := "aaddff1893a5be6b7af10e595b79bafd8aaa27489e6147daa220a23a70f6bd4e", checked := Try.checked }
namespace Rows
def none {H : Type} : Left H := { results := [], args := [] }

/-- 'backflushlaw48.TradeSpec': WHATEVER THE INPUT: true; the input reads as it did. -/
def tradeSpecSpec : ChangeSpec := { name := "tradeSpec", fn := fun _ => fun
  | [d1, d2, d3] => { results := [.lit (.bool true)], args := [d1, d2, d3] }
  | _ => none }
def tradeSpecRow : OpenClaim := { program := "ytigimkmkbdnlpaa", sum := "aaddff1893a5be6b7af10e595b79bafd8aaa27489e6147daa220a23a70f6bd4e", func := "backflush/backflushlaw48.TradeSpec", spec := "tradeSpec", unfollowed := true, recurses := true, plainKeys := false, apart := false }
def TradeSpecSaid : Prop := tradeSpecRow.holds Try.pinned (OpenSpec.ofChange tradeSpecSpec)

/-- ITS FALSE NEIGHBOUR: 'it returns false'. Refute it at one input. -/
def tradeSpecWrong : ChangeSpec := { name := "tradeSpec", fn := fun _ => fun
  | [d1, d2, d3] => { results := [.lit (.bool false)], args := [d1, d2, d3] }
  | _ => none }
def TradeSpecWrongFalsely : Prop := tradeSpecRow.holds Try.pinned (OpenSpec.ofChange tradeSpecWrong)

/-- 'backflushlaw48.TradeTakeSpec': WHATEVER THE INPUT: true; the input reads as it did. -/
def tradeTakeSpecSpec : ChangeSpec := { name := "tradeTakeSpec", fn := fun _ => fun
  | [d1, d2, d3] => { results := [.lit (.bool true)], args := [d1, d2, d3] }
  | _ => none }
def tradeTakeSpecRow : OpenClaim := { program := "ytigimkmkbdnlpaa", sum := "aaddff1893a5be6b7af10e595b79bafd8aaa27489e6147daa220a23a70f6bd4e", func := "backflush/backflushlaw48.TradeTakeSpec", spec := "tradeTakeSpec", unfollowed := true, recurses := true, plainKeys := false, apart := false }
def TradeTakeSpecSaid : Prop := tradeTakeSpecRow.holds Try.pinned (OpenSpec.ofChange tradeTakeSpecSpec)

/-- ITS FALSE NEIGHBOUR: 'it returns false'. Refute it at one input. -/
def tradeTakeSpecWrong : ChangeSpec := { name := "tradeTakeSpec", fn := fun _ => fun
  | [d1, d2, d3] => { results := [.lit (.bool false)], args := [d1, d2, d3] }
  | _ => none }
def TradeTakeSpecWrongFalsely : Prop := tradeTakeSpecRow.holds Try.pinned (OpenSpec.ofChange tradeTakeSpecWrong)

/-- 'backflushlaw48.TradeAgain': WHATEVER THE INPUT: true; the input reads as it did. -/
def tradeAgainSpec : ChangeSpec := { name := "tradeAgain", fn := fun _ => fun
  | [d1, d2, d3, d4] => { results := [.lit (.bool true)], args := [d1, d2, d3, d4] }
  | _ => none }
def tradeAgainRow : OpenClaim := { program := "ytigimkmkbdnlpaa", sum := "aaddff1893a5be6b7af10e595b79bafd8aaa27489e6147daa220a23a70f6bd4e", func := "backflush/backflushlaw48.TradeAgain", spec := "tradeAgain", unfollowed := true, recurses := true, plainKeys := false, apart := false }
def TradeAgainSaid : Prop := tradeAgainRow.holds Try.pinned (OpenSpec.ofChange tradeAgainSpec)

/-- ITS FALSE NEIGHBOUR: 'it returns false'. Refute it at one input. -/
def tradeAgainWrong : ChangeSpec := { name := "tradeAgain", fn := fun _ => fun
  | [d1, d2, d3, d4] => { results := [.lit (.bool false)], args := [d1, d2, d3, d4] }
  | _ => none }
def TradeAgainWrongFalsely : Prop := tradeAgainRow.holds Try.pinned (OpenSpec.ofChange tradeAgainWrong)

/-- 'backflushlaw48.TradeOnce': WHATEVER THE INPUT: true; the input reads as it did. -/
def tradeOnceSpec : ChangeSpec := { name := "tradeOnce", fn := fun _ => fun
  | [d1, d2, d3] => { results := [.lit (.bool true)], args := [d1, d2, d3] }
  | _ => none }
def tradeOnceRow : OpenClaim := { program := "ytigimkmkbdnlpaa", sum := "aaddff1893a5be6b7af10e595b79bafd8aaa27489e6147daa220a23a70f6bd4e", func := "backflush/backflushlaw48.TradeOnce", spec := "tradeOnce", unfollowed := true, recurses := true, plainKeys := false, apart := false }
def TradeOnceSaid : Prop := tradeOnceRow.holds Try.pinned (OpenSpec.ofChange tradeOnceSpec)

/-- ITS FALSE NEIGHBOUR: 'it returns false'. Refute it at one input. -/
def tradeOnceWrong : ChangeSpec := { name := "tradeOnce", fn := fun _ => fun
  | [d1, d2, d3] => { results := [.lit (.bool false)], args := [d1, d2, d3] }
  | _ => none }
def TradeOnceWrongFalsely : Prop := tradeOnceRow.holds Try.pinned (OpenSpec.ofChange tradeOnceWrong)

/-- 'backflushlaw48.TradeOther': WHATEVER THE INPUT: true; the input reads as it did. -/
def tradeOtherSpec : ChangeSpec := { name := "tradeOther", fn := fun _ => fun
  | [d1, d2, d3, d4] => { results := [.lit (.bool true)], args := [d1, d2, d3, d4] }
  | _ => none }
def tradeOtherRow : OpenClaim := { program := "ytigimkmkbdnlpaa", sum := "aaddff1893a5be6b7af10e595b79bafd8aaa27489e6147daa220a23a70f6bd4e", func := "backflush/backflushlaw48.TradeOther", spec := "tradeOther", unfollowed := true, recurses := true, plainKeys := false, apart := false }
def TradeOtherSaid : Prop := tradeOtherRow.holds Try.pinned (OpenSpec.ofChange tradeOtherSpec)

/-- ITS FALSE NEIGHBOUR: 'it returns false'. Refute it at one input. -/
def tradeOtherWrong : ChangeSpec := { name := "tradeOther", fn := fun _ => fun
  | [d1, d2, d3, d4] => { results := [.lit (.bool false)], args := [d1, d2, d3, d4] }
  | _ => none }
def TradeOtherWrongFalsely : Prop := tradeOtherRow.holds Try.pinned (OpenSpec.ofChange tradeOtherWrong)

/-- 'backflushlaw13.OptionsWhichSpec': WHATEVER THE INPUT: true; the input reads as it did. -/
def optionsWhichSpecSpec : ChangeSpec := { name := "optionsWhichSpec", fn := fun _ => fun
  | [d1, d2, d3, d4, d5] => { results := [.lit (.bool true)], args := [d1, d2, d3, d4, d5] }
  | _ => none }
def optionsWhichSpecRow : OpenClaim := { program := "ytigimkmkbdnlpaa", sum := "aaddff1893a5be6b7af10e595b79bafd8aaa27489e6147daa220a23a70f6bd4e", func := "backflush/backflushlaw13.OptionsWhichSpec", spec := "optionsWhichSpec", unfollowed := true, recurses := true, plainKeys := false, apart := false }
def OptionsWhichSpecSaid : Prop := optionsWhichSpecRow.holds Try.pinned (OpenSpec.ofChange optionsWhichSpecSpec)

/-- ITS FALSE NEIGHBOUR: 'it returns false'. Refute it at one input. -/
def optionsWhichSpecWrong : ChangeSpec := { name := "optionsWhichSpec", fn := fun _ => fun
  | [d1, d2, d3, d4, d5] => { results := [.lit (.bool false)], args := [d1, d2, d3, d4, d5] }
  | _ => none }
def OptionsWhichSpecWrongFalsely : Prop := optionsWhichSpecRow.holds Try.pinned (OpenSpec.ofChange optionsWhichSpecWrong)

/- THE SECOND FORM. 'bulk': how many values and letters a reading holds, each counted each time it is reached (what is shared counts as often as it is met; a slice's spare places count too). A statement '..UptoSaid' is the law's where the arguments, and the package variables that the reading takes, are together of bulk at most 1048576: NARROWER than '..Said'. Prove '..Said' where nothing that the law and all that it calls make is longer than what came in: it says more and counts as full. Else prove '..UptoSaid'. A law counts once. -/
mutual
def uptoBulk {H : Type} : DataW H → Nat
  | .lit (.string bytes) => bytes.length + 1
  | .lit _ => 1
  | .nil => 1
  | .ptr d => uptoBulk d + 1
  | .slice elems spare => uptoBulkAll elems + uptoBulkAll spare + 1
  | .agg parts => uptoBulkAll parts + 1
  | .iface _ d => uptoBulk d + 1
  | .map entries => uptoBulkEntries entries + 1
  | .held _ => 1
def uptoBulkAll {H : Type} : List (DataW H) → Nat
  | [] => 0
  | d :: r => uptoBulk d + uptoBulkAll r
def uptoBulkEntries {H : Type} : List (Lit × DataW H) → Nat
  | [] => 0
  | x :: r => uptoBulkEntry x + uptoBulkEntries r
def uptoBulkEntry {H : Type} : Lit × DataW H → Nat
  | (.string bytes, d) => bytes.length + uptoBulk d + 1
  | (_, d) => uptoBulk d + 1
 end
def uptoSmall : (H : Type) → List (DataW H) → Bool := fun _ ds => decide (uptoBulkAll ds ≤ 1048576)
def OpenSpec.upto (s : _root_.Go.ChangeSpec) : _root_.Go.OpenSpec := { _root_.Go.OpenSpec.ofChange s with cond := some uptoSmall }

/-- 'backflushlaw48.TradeSpec', WHERE WHAT IT READS IS OF BULK AT MOST 1048576: true; the input reads as it did. -/
def tradeSpecUptoRow : OpenClaim := { program := "ytigimkmkbdnlpaa", sum := "aaddff1893a5be6b7af10e595b79bafd8aaa27489e6147daa220a23a70f6bd4e", func := "backflush/backflushlaw48.TradeSpec", spec := "tradeSpec", unfollowed := true, recurses := true, plainKeys := false, apart := false, narrowed := true }
def TradeSpecUptoSaid : Prop := tradeSpecUptoRow.holds Try.pinned (OpenSpec.upto tradeSpecSpec)

/-- 'backflushlaw48.TradeTakeSpec', WHERE WHAT IT READS IS OF BULK AT MOST 1048576: true; the input reads as it did. -/
def tradeTakeSpecUptoRow : OpenClaim := { program := "ytigimkmkbdnlpaa", sum := "aaddff1893a5be6b7af10e595b79bafd8aaa27489e6147daa220a23a70f6bd4e", func := "backflush/backflushlaw48.TradeTakeSpec", spec := "tradeTakeSpec", unfollowed := true, recurses := true, plainKeys := false, apart := false, narrowed := true }
def TradeTakeSpecUptoSaid : Prop := tradeTakeSpecUptoRow.holds Try.pinned (OpenSpec.upto tradeTakeSpecSpec)

/-- 'backflushlaw48.TradeAgain', WHERE WHAT IT READS IS OF BULK AT MOST 1048576: true; the input reads as it did. -/
def tradeAgainUptoRow : OpenClaim := { program := "ytigimkmkbdnlpaa", sum := "aaddff1893a5be6b7af10e595b79bafd8aaa27489e6147daa220a23a70f6bd4e", func := "backflush/backflushlaw48.TradeAgain", spec := "tradeAgain", unfollowed := true, recurses := true, plainKeys := false, apart := false, narrowed := true }
def TradeAgainUptoSaid : Prop := tradeAgainUptoRow.holds Try.pinned (OpenSpec.upto tradeAgainSpec)

/-- 'backflushlaw48.TradeOnce', WHERE WHAT IT READS IS OF BULK AT MOST 1048576: true; the input reads as it did. -/
def tradeOnceUptoRow : OpenClaim := { program := "ytigimkmkbdnlpaa", sum := "aaddff1893a5be6b7af10e595b79bafd8aaa27489e6147daa220a23a70f6bd4e", func := "backflush/backflushlaw48.TradeOnce", spec := "tradeOnce", unfollowed := true, recurses := true, plainKeys := false, apart := false, narrowed := true }
def TradeOnceUptoSaid : Prop := tradeOnceUptoRow.holds Try.pinned (OpenSpec.upto tradeOnceSpec)

/-- 'backflushlaw48.TradeOther', WHERE WHAT IT READS IS OF BULK AT MOST 1048576: true; the input reads as it did. -/
def tradeOtherUptoRow : OpenClaim := { program := "ytigimkmkbdnlpaa", sum := "aaddff1893a5be6b7af10e595b79bafd8aaa27489e6147daa220a23a70f6bd4e", func := "backflush/backflushlaw48.TradeOther", spec := "tradeOther", unfollowed := true, recurses := true, plainKeys := false, apart := false, narrowed := true }
def TradeOtherUptoSaid : Prop := tradeOtherUptoRow.holds Try.pinned (OpenSpec.upto tradeOtherSpec)

/-- 'backflushlaw13.OptionsWhichSpec', WHERE WHAT IT READS IS OF BULK AT MOST 1048576: true; the input reads as it did. -/
def optionsWhichSpecUptoRow : OpenClaim := { program := "ytigimkmkbdnlpaa", sum := "aaddff1893a5be6b7af10e595b79bafd8aaa27489e6147daa220a23a70f6bd4e", func := "backflush/backflushlaw13.OptionsWhichSpec", spec := "optionsWhichSpec", unfollowed := true, recurses := true, plainKeys := false, apart := false, narrowed := true }
def OptionsWhichSpecUptoSaid : Prop := optionsWhichSpecUptoRow.holds Try.pinned (OpenSpec.upto optionsWhichSpecSpec)

end Rows
end Go.Proofs.Ytigimkmkbdnlpaa
