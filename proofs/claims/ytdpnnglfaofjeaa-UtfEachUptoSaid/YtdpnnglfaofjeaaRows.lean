/-
  No cell of these rows narrows 'for every input' (looked for: loops, veiled, ifaces, maps, wideKeys, modest, calm, conditions, laid).
  DERIVED. THE GIVEN ROWS OF THIS SEAT. 9 by the template 'for every input the law returns true; each argument reads behind the call as it read before'; 0 by the template 'total and deterministic' (their statements: YtdpnnglfaofjeaaTotals.lean).
  GIVEN WITH THE SEED: the statements are not yours to turn. If you find one false, say at which input.
  Laid BY PROGRAM, IN A SANDBOX (cutbox-rows.mjs): the forced cells as the released guide's own fill.sh prints them over the translation 8a5c278d338d2bac… (all of the seat's roots in one cut). By AI agents, Wed Nov 11 2026. No macro, syntax, notation, axiom, sorry.
-/
import Derived.Test.YtdpnnglfaofjeaaChecked
import GoSem.Claim
import GoSem.ClaimJoined
import GoSem.ClaimMapViews
import Derived.JoinedTies
import Derived.KernelRfl
namespace Go.Proofs.Ytdpnnglfaofjeaa
/- THE CELL 'sum', in the pinned program and in every row, IS THE sha256 OF THE DUMP (.gsa) THAT YtdpnnglfaofjeaaProg.lean LOADS. Nothing in Lean hashes anything: it is a label: what it is worth is what the hold of that sum in a sandbox is worth. -/
noncomputable def Try.pinned : Pinned := { name := "ytdpnnglfaofjeaa", sum := "8a5c278d338d2bacbe069af5073db8c5dcb9e180a655870ecfe5c28c54e7ac79", checked := Try.checked }
namespace Rows
def none {H : Type} : Left H := { results := [], args := [] }

/-- 'bobbinlaw01.UtfLines': WHATEVER THE INPUT: true; the input reads as it did. -/
def utfLinesSpec : ChangeSpec := { name := "utfLines", fn := fun _ => fun
  | [d1, d2, d3] => { results := [.lit (.bool true)], args := [d1, d2, d3] }
  | _ => none }
def utfLinesRow : OpenClaim := { program := "ytdpnnglfaofjeaa", sum := "8a5c278d338d2bacbe069af5073db8c5dcb9e180a655870ecfe5c28c54e7ac79", func := "bobbin/bobbinlaw01.UtfLines", spec := "utfLines", apart := false }
def UtfLinesSaid : Prop := utfLinesRow.holds Try.pinned (OpenSpec.ofChange utfLinesSpec)

/-- ITS FALSE NEIGHBOUR: 'it returns false'. Refute it at one input. -/
def utfLinesWrong : ChangeSpec := { name := "utfLines", fn := fun _ => fun
  | [d1, d2, d3] => { results := [.lit (.bool false)], args := [d1, d2, d3] }
  | _ => none }
def UtfLinesWrongFalsely : Prop := utfLinesRow.holds Try.pinned (OpenSpec.ofChange utfLinesWrong)

/-- 'bobbinlaw01.UtfFeeds': WHATEVER THE INPUT: true; the input reads as it did. -/
def utfFeedsSpec : ChangeSpec := { name := "utfFeeds", fn := fun _ => fun
  | [d1, d2] => { results := [.lit (.bool true)], args := [d1, d2] }
  | _ => none }
def utfFeedsRow : OpenClaim := { program := "ytdpnnglfaofjeaa", sum := "8a5c278d338d2bacbe069af5073db8c5dcb9e180a655870ecfe5c28c54e7ac79", func := "bobbin/bobbinlaw01.UtfFeeds", spec := "utfFeeds", apart := false }
def UtfFeedsSaid : Prop := utfFeedsRow.holds Try.pinned (OpenSpec.ofChange utfFeedsSpec)

/-- ITS FALSE NEIGHBOUR: 'it returns false'. Refute it at one input. -/
def utfFeedsWrong : ChangeSpec := { name := "utfFeeds", fn := fun _ => fun
  | [d1, d2] => { results := [.lit (.bool false)], args := [d1, d2] }
  | _ => none }
def UtfFeedsWrongFalsely : Prop := utfFeedsRow.holds Try.pinned (OpenSpec.ofChange utfFeedsWrong)

/-- 'bobbinlaw01.UtfCut': WHATEVER THE INPUT: true; the input reads as it did. -/
def utfCutSpec : ChangeSpec := { name := "utfCut", fn := fun _ => fun
  | [d1, d2] => { results := [.lit (.bool true)], args := [d1, d2] }
  | _ => none }
def utfCutRow : OpenClaim := { program := "ytdpnnglfaofjeaa", sum := "8a5c278d338d2bacbe069af5073db8c5dcb9e180a655870ecfe5c28c54e7ac79", func := "bobbin/bobbinlaw01.UtfCut", spec := "utfCut", apart := false }
def UtfCutSaid : Prop := utfCutRow.holds Try.pinned (OpenSpec.ofChange utfCutSpec)

/-- ITS FALSE NEIGHBOUR: 'it returns false'. Refute it at one input. -/
def utfCutWrong : ChangeSpec := { name := "utfCut", fn := fun _ => fun
  | [d1, d2] => { results := [.lit (.bool false)], args := [d1, d2] }
  | _ => none }
def UtfCutWrongFalsely : Prop := utfCutRow.holds Try.pinned (OpenSpec.ofChange utfCutWrong)

/-- 'bobbinlaw01.UtfKeeps': WHATEVER THE INPUT: true; the input reads as it did. -/
def utfKeepsSpec : ChangeSpec := { name := "utfKeeps", fn := fun _ => fun
  | [d] => { results := [.lit (.bool true)], args := [d] }
  | _ => none }
def utfKeepsRow : OpenClaim := { program := "ytdpnnglfaofjeaa", sum := "8a5c278d338d2bacbe069af5073db8c5dcb9e180a655870ecfe5c28c54e7ac79", func := "bobbin/bobbinlaw01.UtfKeeps", spec := "utfKeeps", apart := false }
def UtfKeepsSaid : Prop := utfKeepsRow.holds Try.pinned (OpenSpec.ofChange utfKeepsSpec)

/-- ITS FALSE NEIGHBOUR: 'it returns false'. Refute it at one input. -/
def utfKeepsWrong : ChangeSpec := { name := "utfKeeps", fn := fun _ => fun
  | [d] => { results := [.lit (.bool false)], args := [d] }
  | _ => none }
def UtfKeepsWrongFalsely : Prop := utfKeepsRow.holds Try.pinned (OpenSpec.ofChange utfKeepsWrong)

/-- 'bobbinlaw01.UtfBoundaries': WHATEVER THE INPUT: true; the input reads as it did. -/
def utfBoundariesSpec : ChangeSpec := { name := "utfBoundaries", fn := fun _ => fun
  | [d1, d2] => { results := [.lit (.bool true)], args := [d1, d2] }
  | _ => none }
def utfBoundariesRow : OpenClaim := { program := "ytdpnnglfaofjeaa", sum := "8a5c278d338d2bacbe069af5073db8c5dcb9e180a655870ecfe5c28c54e7ac79", func := "bobbin/bobbinlaw01.UtfBoundaries", spec := "utfBoundaries", apart := false }
def UtfBoundariesSaid : Prop := utfBoundariesRow.holds Try.pinned (OpenSpec.ofChange utfBoundariesSpec)

/-- ITS FALSE NEIGHBOUR: 'it returns false'. Refute it at one input. -/
def utfBoundariesWrong : ChangeSpec := { name := "utfBoundaries", fn := fun _ => fun
  | [d1, d2] => { results := [.lit (.bool false)], args := [d1, d2] }
  | _ => none }
def UtfBoundariesWrongFalsely : Prop := utfBoundariesRow.holds Try.pinned (OpenSpec.ofChange utfBoundariesWrong)

/-- 'bobbinlaw01.UtfEach': WHATEVER THE INPUT: true; the input reads as it did. -/
def utfEachSpec : ChangeSpec := { name := "utfEach", fn := fun _ => fun
  | [d1, d2] => { results := [.lit (.bool true)], args := [d1, d2] }
  | _ => none }
def utfEachRow : OpenClaim := { program := "ytdpnnglfaofjeaa", sum := "8a5c278d338d2bacbe069af5073db8c5dcb9e180a655870ecfe5c28c54e7ac79", func := "bobbin/bobbinlaw01.UtfEach", spec := "utfEach", unfollowed := true, recurses := true, apart := false }
def UtfEachSaid : Prop := utfEachRow.holds Try.pinned (OpenSpec.ofChange utfEachSpec)

/-- ITS FALSE NEIGHBOUR: 'it returns false'. Refute it at one input. -/
def utfEachWrong : ChangeSpec := { name := "utfEach", fn := fun _ => fun
  | [d1, d2] => { results := [.lit (.bool false)], args := [d1, d2] }
  | _ => none }
def UtfEachWrongFalsely : Prop := utfEachRow.holds Try.pinned (OpenSpec.ofChange utfEachWrong)

/-- 'bobbinlaw01.UtfRunes': WHATEVER THE INPUT: true; the input reads as it did. -/
def utfRunesSpec : ChangeSpec := { name := "utfRunes", fn := fun _ => fun
  | [d] => { results := [.lit (.bool true)], args := [d] }
  | _ => none }
def utfRunesRow : OpenClaim := { program := "ytdpnnglfaofjeaa", sum := "8a5c278d338d2bacbe069af5073db8c5dcb9e180a655870ecfe5c28c54e7ac79", func := "bobbin/bobbinlaw01.UtfRunes", spec := "utfRunes", unfollowed := true, recurses := true, apart := false }
def UtfRunesSaid : Prop := utfRunesRow.holds Try.pinned (OpenSpec.ofChange utfRunesSpec)

/-- ITS FALSE NEIGHBOUR: 'it returns false'. Refute it at one input. -/
def utfRunesWrong : ChangeSpec := { name := "utfRunes", fn := fun _ => fun
  | [d] => { results := [.lit (.bool false)], args := [d] }
  | _ => none }
def UtfRunesWrongFalsely : Prop := utfRunesRow.holds Try.pinned (OpenSpec.ofChange utfRunesWrong)

/-- 'bobbinlaw01.UtfCleans': WHATEVER THE INPUT: true; the input reads as it did. -/
def utfCleansSpec : ChangeSpec := { name := "utfCleans", fn := fun _ => fun
  | [d] => { results := [.lit (.bool true)], args := [d] }
  | _ => none }
def utfCleansRow : OpenClaim := { program := "ytdpnnglfaofjeaa", sum := "8a5c278d338d2bacbe069af5073db8c5dcb9e180a655870ecfe5c28c54e7ac79", func := "bobbin/bobbinlaw01.UtfCleans", spec := "utfCleans", apart := false }
def UtfCleansSaid : Prop := utfCleansRow.holds Try.pinned (OpenSpec.ofChange utfCleansSpec)

/-- ITS FALSE NEIGHBOUR: 'it returns false'. Refute it at one input. -/
def utfCleansWrong : ChangeSpec := { name := "utfCleans", fn := fun _ => fun
  | [d] => { results := [.lit (.bool false)], args := [d] }
  | _ => none }
def UtfCleansWrongFalsely : Prop := utfCleansRow.holds Try.pinned (OpenSpec.ofChange utfCleansWrong)

/-- 'bobbinlaw01.UtfSettles': WHATEVER THE INPUT: true; the input reads as it did. -/
def utfSettlesSpec : ChangeSpec := { name := "utfSettles", fn := fun _ => fun
  | [d1, d2] => { results := [.lit (.bool true)], args := [d1, d2] }
  | _ => none }
def utfSettlesRow : OpenClaim := { program := "ytdpnnglfaofjeaa", sum := "8a5c278d338d2bacbe069af5073db8c5dcb9e180a655870ecfe5c28c54e7ac79", func := "bobbin/bobbinlaw01.UtfSettles", spec := "utfSettles", apart := false }
def UtfSettlesSaid : Prop := utfSettlesRow.holds Try.pinned (OpenSpec.ofChange utfSettlesSpec)

/-- ITS FALSE NEIGHBOUR: 'it returns false'. Refute it at one input. -/
def utfSettlesWrong : ChangeSpec := { name := "utfSettles", fn := fun _ => fun
  | [d1, d2] => { results := [.lit (.bool false)], args := [d1, d2] }
  | _ => none }
def UtfSettlesWrongFalsely : Prop := utfSettlesRow.holds Try.pinned (OpenSpec.ofChange utfSettlesWrong)

/- THE SECOND FORM. 'bulk': how many values and letters a reading holds, each counted each time it is reached (what is shared counts as often as it is met; a slice's spare places count too). A statement '..UptoSaid' is the law's where the arguments, and the package variables that the reading takes, are together of bulk at most 1048576: NARROWER than '..Said'. Prove '..Said' where nothing that the law and all that it calls make is longer than what came in: it says more and counts as full. Else prove '..UptoSaid'. A law counts once. -/
mutual
def uptoBulk {H : Type} : DataW H → Nat
  | .lit (.string bytes) => bytes.length + 1
  | .lit _ => 1
  | .nil => 1
  | .ptr d => uptoBulk d + 1
  | .slice elems spare => uptoBulkAll elems + uptoBulkAll spare + 1
  | .agg parts => uptoBulkAll parts + 1
  | .iface _ d => uptoBulk d + 1
  | .map entries => uptoBulkEntries entries + 1
  | .held _ => 1
def uptoBulkAll {H : Type} : List (DataW H) → Nat
  | [] => 0
  | d :: r => uptoBulk d + uptoBulkAll r
def uptoBulkEntries {H : Type} : List (Lit × DataW H) → Nat
  | [] => 0
  | x :: r => uptoBulkEntry x + uptoBulkEntries r
def uptoBulkEntry {H : Type} : Lit × DataW H → Nat
  | (.string bytes, d) => bytes.length + uptoBulk d + 1
  | (_, d) => uptoBulk d + 1
 end
def uptoSmall : (H : Type) → List (DataW H) → Bool := fun _ ds => decide (uptoBulkAll ds ≤ 1048576)
def OpenSpec.upto (s : _root_.Go.ChangeSpec) : _root_.Go.OpenSpec := { _root_.Go.OpenSpec.ofChange s with cond := some uptoSmall }

/-- 'bobbinlaw01.UtfLines', WHERE WHAT IT READS IS OF BULK AT MOST 1048576: true; the input reads as it did. -/
def utfLinesUptoRow : OpenClaim := { program := "ytdpnnglfaofjeaa", sum := "8a5c278d338d2bacbe069af5073db8c5dcb9e180a655870ecfe5c28c54e7ac79", func := "bobbin/bobbinlaw01.UtfLines", spec := "utfLines", apart := false, narrowed := true }
def UtfLinesUptoSaid : Prop := utfLinesUptoRow.holds Try.pinned (OpenSpec.upto utfLinesSpec)

/-- 'bobbinlaw01.UtfFeeds', WHERE WHAT IT READS IS OF BULK AT MOST 1048576: true; the input reads as it did. -/
def utfFeedsUptoRow : OpenClaim := { program := "ytdpnnglfaofjeaa", sum := "8a5c278d338d2bacbe069af5073db8c5dcb9e180a655870ecfe5c28c54e7ac79", func := "bobbin/bobbinlaw01.UtfFeeds", spec := "utfFeeds", apart := false, narrowed := true }
def UtfFeedsUptoSaid : Prop := utfFeedsUptoRow.holds Try.pinned (OpenSpec.upto utfFeedsSpec)

/-- 'bobbinlaw01.UtfCut', WHERE WHAT IT READS IS OF BULK AT MOST 1048576: true; the input reads as it did. -/
def utfCutUptoRow : OpenClaim := { program := "ytdpnnglfaofjeaa", sum := "8a5c278d338d2bacbe069af5073db8c5dcb9e180a655870ecfe5c28c54e7ac79", func := "bobbin/bobbinlaw01.UtfCut", spec := "utfCut", apart := false, narrowed := true }
def UtfCutUptoSaid : Prop := utfCutUptoRow.holds Try.pinned (OpenSpec.upto utfCutSpec)

/-- 'bobbinlaw01.UtfKeeps', WHERE WHAT IT READS IS OF BULK AT MOST 1048576: true; the input reads as it did. -/
def utfKeepsUptoRow : OpenClaim := { program := "ytdpnnglfaofjeaa", sum := "8a5c278d338d2bacbe069af5073db8c5dcb9e180a655870ecfe5c28c54e7ac79", func := "bobbin/bobbinlaw01.UtfKeeps", spec := "utfKeeps", apart := false, narrowed := true }
def UtfKeepsUptoSaid : Prop := utfKeepsUptoRow.holds Try.pinned (OpenSpec.upto utfKeepsSpec)

/-- 'bobbinlaw01.UtfBoundaries', WHERE WHAT IT READS IS OF BULK AT MOST 1048576: true; the input reads as it did. -/
def utfBoundariesUptoRow : OpenClaim := { program := "ytdpnnglfaofjeaa", sum := "8a5c278d338d2bacbe069af5073db8c5dcb9e180a655870ecfe5c28c54e7ac79", func := "bobbin/bobbinlaw01.UtfBoundaries", spec := "utfBoundaries", apart := false, narrowed := true }
def UtfBoundariesUptoSaid : Prop := utfBoundariesUptoRow.holds Try.pinned (OpenSpec.upto utfBoundariesSpec)

/-- 'bobbinlaw01.UtfEach', WHERE WHAT IT READS IS OF BULK AT MOST 1048576: true; the input reads as it did. -/
def utfEachUptoRow : OpenClaim := { program := "ytdpnnglfaofjeaa", sum := "8a5c278d338d2bacbe069af5073db8c5dcb9e180a655870ecfe5c28c54e7ac79", func := "bobbin/bobbinlaw01.UtfEach", spec := "utfEach", unfollowed := true, recurses := true, apart := false, narrowed := true }
def UtfEachUptoSaid : Prop := utfEachUptoRow.holds Try.pinned (OpenSpec.upto utfEachSpec)

/-- 'bobbinlaw01.UtfRunes', WHERE WHAT IT READS IS OF BULK AT MOST 1048576: true; the input reads as it did. -/
def utfRunesUptoRow : OpenClaim := { program := "ytdpnnglfaofjeaa", sum := "8a5c278d338d2bacbe069af5073db8c5dcb9e180a655870ecfe5c28c54e7ac79", func := "bobbin/bobbinlaw01.UtfRunes", spec := "utfRunes", unfollowed := true, recurses := true, apart := false, narrowed := true }
def UtfRunesUptoSaid : Prop := utfRunesUptoRow.holds Try.pinned (OpenSpec.upto utfRunesSpec)

/-- 'bobbinlaw01.UtfCleans', WHERE WHAT IT READS IS OF BULK AT MOST 1048576: true; the input reads as it did. -/
def utfCleansUptoRow : OpenClaim := { program := "ytdpnnglfaofjeaa", sum := "8a5c278d338d2bacbe069af5073db8c5dcb9e180a655870ecfe5c28c54e7ac79", func := "bobbin/bobbinlaw01.UtfCleans", spec := "utfCleans", apart := false, narrowed := true }
def UtfCleansUptoSaid : Prop := utfCleansUptoRow.holds Try.pinned (OpenSpec.upto utfCleansSpec)

/-- 'bobbinlaw01.UtfSettles', WHERE WHAT IT READS IS OF BULK AT MOST 1048576: true; the input reads as it did. -/
def utfSettlesUptoRow : OpenClaim := { program := "ytdpnnglfaofjeaa", sum := "8a5c278d338d2bacbe069af5073db8c5dcb9e180a655870ecfe5c28c54e7ac79", func := "bobbin/bobbinlaw01.UtfSettles", spec := "utfSettles", apart := false, narrowed := true }
def UtfSettlesUptoSaid : Prop := utfSettlesUptoRow.holds Try.pinned (OpenSpec.upto utfSettlesSpec)

end Rows
end Go.Proofs.Ytdpnnglfaofjeaa
