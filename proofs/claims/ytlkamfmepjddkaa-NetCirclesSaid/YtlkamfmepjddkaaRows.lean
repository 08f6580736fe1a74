/-
  No cell of these rows narrows 'for every input' (looked for: loops, veiled, ifaces, maps, wideKeys, modest, calm, conditions, laid).
  DERIVED. THE GIVEN ROWS OF THIS SEAT. 7 by the template 'for every input the law returns true; each argument reads behind the call as it read before'; 0 by the template 'total and deterministic' (their statements: YtlkamfmepjddkaaTotals.lean).
  GIVEN WITH THE SEED: the statements are not yours to turn. If you find one false, say at which input.
  Laid BY PROGRAM, IN A SANDBOX (cutbox-rows.mjs): the forced cells as the released guide's own fill.sh prints them over the translation 5ba8aa69d4318a0c… (all of the seat's roots in one cut). By AI agents, Wed Nov 11 2026. No macro, syntax, notation, axiom, sorry.
-/
import Derived.Test.YtlkamfmepjddkaaChecked
import GoSem.Claim
import GoSem.ClaimJoined
import GoSem.ClaimMapViews
import Derived.JoinedTies
import Derived.KernelRfl
namespace Go.Proofs.Ytlkamfmepjddkaa
/- THE CELL 'sum', in the pinned program and in every row, IS THE sha256 OF THE DUMP (.gsa) THAT YtlkamfmepjddkaaProg.lean LOADS. Nothing in Lean hashes anything: it is a label: what it is worth is what the hold of that sum in a sandbox is worth. -/
noncomputable def Try.pinned : Pinned := { name := "ytlkamfmepjddkaa", sum := "5ba8aa69d4318a0c809d58d213e4eab1a46b1ad37ab39de8bbf82cef17d52b5f", checked := Try.checked }
namespace Rows
def none {H : Type} : Left H := { results := [], args := [] }

/-- 'lithophanelaw25.NetPlays': WHATEVER THE INPUT: true; the input reads as it did. -/
def netPlaysSpec : ChangeSpec := { name := "netPlays", fn := fun _ => fun
  | [d1, d2] => { results := [.lit (.bool true)], args := [d1, d2] }
  | _ => none }
def netPlaysRow : OpenClaim := { program := "ytlkamfmepjddkaa", sum := "5ba8aa69d4318a0c809d58d213e4eab1a46b1ad37ab39de8bbf82cef17d52b5f", func := "lithophane/lithophanelaw25.NetPlays", spec := "netPlays", unfollowed := true, recurses := true, plainKeys := false, apart := false }
def NetPlaysSaid : Prop := netPlaysRow.holds Try.pinned (OpenSpec.ofChange netPlaysSpec)

/-- ITS FALSE NEIGHBOUR: 'it returns false'. Refute it at one input. -/
def netPlaysWrong : ChangeSpec := { name := "netPlays", fn := fun _ => fun
  | [d1, d2] => { results := [.lit (.bool false)], args := [d1, d2] }
  | _ => none }
def NetPlaysWrongFalsely : Prop := netPlaysRow.holds Try.pinned (OpenSpec.ofChange netPlaysWrong)

/-- 'lithophanelaw25.NetHonest': WHATEVER THE INPUT: true; the input reads as it did. -/
def netHonestSpec : ChangeSpec := { name := "netHonest", fn := fun _ => fun
  | [d1, d2, d3] => { results := [.lit (.bool true)], args := [d1, d2, d3] }
  | _ => none }
def netHonestRow : OpenClaim := { program := "ytlkamfmepjddkaa", sum := "5ba8aa69d4318a0c809d58d213e4eab1a46b1ad37ab39de8bbf82cef17d52b5f", func := "lithophane/lithophanelaw25.NetHonest", spec := "netHonest", unfollowed := true, recurses := true, plainKeys := false, apart := false }
def NetHonestSaid : Prop := netHonestRow.holds Try.pinned (OpenSpec.ofChange netHonestSpec)

/-- ITS FALSE NEIGHBOUR: 'it returns false'. Refute it at one input. -/
def netHonestWrong : ChangeSpec := { name := "netHonest", fn := fun _ => fun
  | [d1, d2, d3] => { results := [.lit (.bool false)], args := [d1, d2, d3] }
  | _ => none }
def NetHonestWrongFalsely : Prop := netHonestRow.holds Try.pinned (OpenSpec.ofChange netHonestWrong)

/-- 'lithophanelaw25.NetKinds': WHATEVER THE INPUT: true; the input reads as it did. -/
def netKindsSpec : ChangeSpec := { name := "netKinds", fn := fun _ => fun
  | [d1, d2, d3] => { results := [.lit (.bool true)], args := [d1, d2, d3] }
  | _ => none }
def netKindsRow : OpenClaim := { program := "ytlkamfmepjddkaa", sum := "5ba8aa69d4318a0c809d58d213e4eab1a46b1ad37ab39de8bbf82cef17d52b5f", func := "lithophane/lithophanelaw25.NetKinds", spec := "netKinds", unfollowed := true, recurses := true, plainKeys := false, apart := false }
def NetKindsSaid : Prop := netKindsRow.holds Try.pinned (OpenSpec.ofChange netKindsSpec)

/-- ITS FALSE NEIGHBOUR: 'it returns false'. Refute it at one input. -/
def netKindsWrong : ChangeSpec := { name := "netKinds", fn := fun _ => fun
  | [d1, d2, d3] => { results := [.lit (.bool false)], args := [d1, d2, d3] }
  | _ => none }
def NetKindsWrongFalsely : Prop := netKindsRow.holds Try.pinned (OpenSpec.ofChange netKindsWrong)

/-- 'lithophanelaw25.NetCircles': WHATEVER THE INPUT: true; the input reads as it did. -/
def netCirclesSpec : ChangeSpec := { name := "netCircles", fn := fun _ => fun
  | [d1, d2, d3] => { results := [.lit (.bool true)], args := [d1, d2, d3] }
  | _ => none }
def netCirclesRow : OpenClaim := { program := "ytlkamfmepjddkaa", sum := "5ba8aa69d4318a0c809d58d213e4eab1a46b1ad37ab39de8bbf82cef17d52b5f", func := "lithophane/lithophanelaw25.NetCircles", spec := "netCircles", unfollowed := true, recurses := true, plainKeys := false, apart := false }
def NetCirclesSaid : Prop := netCirclesRow.holds Try.pinned (OpenSpec.ofChange netCirclesSpec)

/-- ITS FALSE NEIGHBOUR: 'it returns false'. Refute it at one input. -/
def netCirclesWrong : ChangeSpec := { name := "netCircles", fn := fun _ => fun
  | [d1, d2, d3] => { results := [.lit (.bool false)], args := [d1, d2, d3] }
  | _ => none }
def NetCirclesWrongFalsely : Prop := netCirclesRow.holds Try.pinned (OpenSpec.ofChange netCirclesWrong)

/-- 'lithophanelaw25.NetOwn': WHATEVER THE INPUT: true; the input reads as it did. -/
def netOwnSpec : ChangeSpec := { name := "netOwn", fn := fun _ => fun
  | [d1, d2] => { results := [.lit (.bool true)], args := [d1, d2] }
  | _ => none }
def netOwnRow : OpenClaim := { program := "ytlkamfmepjddkaa", sum := "5ba8aa69d4318a0c809d58d213e4eab1a46b1ad37ab39de8bbf82cef17d52b5f", func := "lithophane/lithophanelaw25.NetOwn", spec := "netOwn", unfollowed := true, recurses := true, plainKeys := false, apart := false }
def NetOwnSaid : Prop := netOwnRow.holds Try.pinned (OpenSpec.ofChange netOwnSpec)

/-- ITS FALSE NEIGHBOUR: 'it returns false'. Refute it at one input. -/
def netOwnWrong : ChangeSpec := { name := "netOwn", fn := fun _ => fun
  | [d1, d2] => { results := [.lit (.bool false)], args := [d1, d2] }
  | _ => none }
def NetOwnWrongFalsely : Prop := netOwnRow.holds Try.pinned (OpenSpec.ofChange netOwnWrong)

/-- 'lithophanelaw25.NetNumbers': WHATEVER THE INPUT: true; the input reads as it did. -/
def netNumbersSpec : ChangeSpec := { name := "netNumbers", fn := fun _ => fun
  | [d1, d2] => { results := [.lit (.bool true)], args := [d1, d2] }
  | _ => none }
def netNumbersRow : OpenClaim := { program := "ytlkamfmepjddkaa", sum := "5ba8aa69d4318a0c809d58d213e4eab1a46b1ad37ab39de8bbf82cef17d52b5f", func := "lithophane/lithophanelaw25.NetNumbers", spec := "netNumbers", unfollowed := true, recurses := true, plainKeys := false, apart := false }
def NetNumbersSaid : Prop := netNumbersRow.holds Try.pinned (OpenSpec.ofChange netNumbersSpec)

/-- ITS FALSE NEIGHBOUR: 'it returns false'. Refute it at one input. -/
def netNumbersWrong : ChangeSpec := { name := "netNumbers", fn := fun _ => fun
  | [d1, d2] => { results := [.lit (.bool false)], args := [d1, d2] }
  | _ => none }
def NetNumbersWrongFalsely : Prop := netNumbersRow.holds Try.pinned (OpenSpec.ofChange netNumbersWrong)

/-- 'lithophanelaw25.NetNil': WHATEVER THE INPUT: true; the input reads as it did. -/
def netNilSpec : ChangeSpec := { name := "netNil", fn := fun _ => fun
  | [d] => { results := [.lit (.bool true)], args := [d] }
  | _ => none }
def netNilRow : OpenClaim := { program := "ytlkamfmepjddkaa", sum := "5ba8aa69d4318a0c809d58d213e4eab1a46b1ad37ab39de8bbf82cef17d52b5f", func := "lithophane/lithophanelaw25.NetNil", spec := "netNil", unfollowed := true, recurses := true, plainKeys := false, apart := false }
def NetNilSaid : Prop := netNilRow.holds Try.pinned (OpenSpec.ofChange netNilSpec)

/-- ITS FALSE NEIGHBOUR: 'it returns false'. Refute it at one input. -/
def netNilWrong : ChangeSpec := { name := "netNil", fn := fun _ => fun
  | [d] => { results := [.lit (.bool false)], args := [d] }
  | _ => none }
def NetNilWrongFalsely : Prop := netNilRow.holds Try.pinned (OpenSpec.ofChange netNilWrong)

/- THE SECOND FORM. 'bulk': how many values and letters a reading holds, each counted each time it is reached (what is shared counts as often as it is met; a slice's spare places count too). A statement '..UptoSaid' is the law's where the arguments, and the package variables that the reading takes, are together of bulk at most 1048576: NARROWER than '..Said'. Prove '..Said' where nothing that the law and all that it calls make is longer than what came in: it says more and counts as full. Else prove '..UptoSaid'. A law counts once. -/
mutual
def uptoBulk {H : Type} : DataW H → Nat
  | .lit (.string bytes) => bytes.length + 1
  | .lit _ => 1
  | .nil => 1
  | .ptr d => uptoBulk d + 1
  | .slice elems spare => uptoBulkAll elems + uptoBulkAll spare + 1
  | .agg parts => uptoBulkAll parts + 1
  | .iface _ d => uptoBulk d + 1
  | .map entries => uptoBulkEntries entries + 1
  | .held _ => 1
def uptoBulkAll {H : Type} : List (DataW H) → Nat
  | [] => 0
  | d :: r => uptoBulk d + uptoBulkAll r
def uptoBulkEntries {H : Type} : List (Lit × DataW H) → Nat
  | [] => 0
  | x :: r => uptoBulkEntry x + uptoBulkEntries r
def uptoBulkEntry {H : Type} : Lit × DataW H → Nat
  | (.string bytes, d) => bytes.length + uptoBulk d + 1
  | (_, d) => uptoBulk d + 1
 end
def uptoSmall : (H : Type) → List (DataW H) → Bool := fun _ ds => decide (uptoBulkAll ds ≤ 1048576)
def OpenSpec.upto (s : _root_.Go.ChangeSpec) : _root_.Go.OpenSpec := { _root_.Go.OpenSpec.ofChange s with cond := some uptoSmall }

/-- 'lithophanelaw25.NetPlays', WHERE WHAT IT READS IS OF BULK AT MOST 1048576: true; the input reads as it did. -/
def netPlaysUptoRow : OpenClaim := { program := "ytlkamfmepjddkaa", sum := "5ba8aa69d4318a0c809d58d213e4eab1a46b1ad37ab39de8bbf82cef17d52b5f", func := "lithophane/lithophanelaw25.NetPlays", spec := "netPlays", unfollowed := true, recurses := true, plainKeys := false, apart := false, narrowed := true }
def NetPlaysUptoSaid : Prop := netPlaysUptoRow.holds Try.pinned (OpenSpec.upto netPlaysSpec)

/-- 'lithophanelaw25.NetHonest', WHERE WHAT IT READS IS OF BULK AT MOST 1048576: true; the input reads as it did. -/
def netHonestUptoRow : OpenClaim := { program := "ytlkamfmepjddkaa", sum := "5ba8aa69d4318a0c809d58d213e4eab1a46b1ad37ab39de8bbf82cef17d52b5f", func := "lithophane/lithophanelaw25.NetHonest", spec := "netHonest", unfollowed := true, recurses := true, plainKeys := false, apart := false, narrowed := true }
def NetHonestUptoSaid : Prop := netHonestUptoRow.holds Try.pinned (OpenSpec.upto netHonestSpec)

/-- 'lithophanelaw25.NetKinds', WHERE WHAT IT READS IS OF BULK AT MOST 1048576: true; the input reads as it did. -/
def netKindsUptoRow : OpenClaim := { program := "ytlkamfmepjddkaa", sum := "5ba8aa69d4318a0c809d58d213e4eab1a46b1ad37ab39de8bbf82cef17d52b5f", func := "lithophane/lithophanelaw25.NetKinds", spec := "netKinds", unfollowed := true, recurses := true, plainKeys := false, apart := false, narrowed := true }
def NetKindsUptoSaid : Prop := netKindsUptoRow.holds Try.pinned (OpenSpec.upto netKindsSpec)

/-- 'lithophanelaw25.NetCircles', WHERE WHAT IT READS IS OF BULK AT MOST 1048576: true; the input reads as it did. -/
def netCirclesUptoRow : OpenClaim := { program := "ytlkamfmepjddkaa", sum := "5ba8aa69d4318a0c809d58d213e4eab1a46b1ad37ab39de8bbf82cef17d52b5f", func := "lithophane/lithophanelaw25.NetCircles", spec := "netCircles", unfollowed := true, recurses := true, plainKeys := false, apart := false, narrowed := true }
def NetCirclesUptoSaid : Prop := netCirclesUptoRow.holds Try.pinned (OpenSpec.upto netCirclesSpec)

/-- 'lithophanelaw25.NetOwn', WHERE WHAT IT READS IS OF BULK AT MOST 1048576: true; the input reads as it did. -/
def netOwnUptoRow : OpenClaim := { program := "ytlkamfmepjddkaa", sum := "5ba8aa69d4318a0c809d58d213e4eab1a46b1ad37ab39de8bbf82cef17d52b5f", func := "lithophane/lithophanelaw25.NetOwn", spec := "netOwn", unfollowed := true, recurses := true, plainKeys := false, apart := false, narrowed := true }
def NetOwnUptoSaid : Prop := netOwnUptoRow.holds Try.pinned (OpenSpec.upto netOwnSpec)

/-- 'lithophanelaw25.NetNumbers', WHERE WHAT IT READS IS OF BULK AT MOST 1048576: true; the input reads as it did. -/
def netNumbersUptoRow : OpenClaim := { program := "ytlkamfmepjddkaa", sum := "5ba8aa69d4318a0c809d58d213e4eab1a46b1ad37ab39de8bbf82cef17d52b5f", func := "lithophane/lithophanelaw25.NetNumbers", spec := "netNumbers", unfollowed := true, recurses := true, plainKeys := false, apart := false, narrowed := true }
def NetNumbersUptoSaid : Prop := netNumbersUptoRow.holds Try.pinned (OpenSpec.upto netNumbersSpec)

/-- 'lithophanelaw25.NetNil', WHERE WHAT IT READS IS OF BULK AT MOST 1048576: true; the input reads as it did. -/
def netNilUptoRow : OpenClaim := { program := "ytlkamfmepjddkaa", sum := "5ba8aa69d4318a0c809d58d213e4eab1a46b1ad37ab39de8bbf82cef17d52b5f", func := "lithophane/lithophanelaw25.NetNil", spec := "netNil", unfollowed := true, recurses := true, plainKeys := false, apart := false, narrowed := true }
def NetNilUptoSaid : Prop := netNilUptoRow.holds Try.pinned (OpenSpec.upto netNilSpec)

end Rows
end Go.Proofs.Ytlkamfmepjddkaa
