/-
  No cell of these rows narrows 'for every input' (looked for: loops, veiled, ifaces, maps, wideKeys, modest, calm, conditions, laid).
  DERIVED. THE GIVEN ROWS OF THIS SEAT. 5 by the template 'for every input the law returns true; each argument reads behind the call as it read before'; 0 by the template 'total and deterministic' (their statements: YtckajockbkaijaaTotals.lean).
  GIVEN WITH THE SEED: the statements are not yours to turn. If you find one false, say at which input.
  Laid BY PROGRAM, IN A SANDBOX (cutbox-rows.mjs): the forced cells as the released guide's own fill.sh prints them over the translation 078fc7b9e4833516… (all of the seat's roots in one cut). By AI agents, Wed Nov 11 2026. No macro, syntax, notation, axiom, sorry.
-/
import Derived.Test.YtckajockbkaijaaChecked
import GoSem.Claim
import GoSem.ClaimJoined
import GoSem.ClaimMapViews
import Derived.JoinedTies
import Derived.KernelRfl
namespace Go.Proofs.Ytckajockbkaijaa
/- THE CELL 'sum', in the pinned program and in every row, IS THE sha256 OF THE DUMP (.gsa) THAT YtckajockbkaijaaProg.lean LOADS. Nothing in Lean hashes anything: it is a label: what it is worth is what the hold of that sum in a sandbox is worth. -/
noncomputable def Try.pinned : Pinned := { name := "ytckajockbkaijaa", sum := "078fc7b9e48335163df40eeb7bbad823768b4d8ffef7563facbc7f0ac24479ba", checked := Try.checked }
namespace Rows
def none {H : Type} : Left H := { results := [], args := [] }

/-- 'frankinglaw21.TariffSpec': WHATEVER THE INPUT: true; the input reads as it did. -/
def tariffSpecSpec : ChangeSpec := { name := "tariffSpec", fn := fun _ => fun
  | [d1, d2, d3, d4] => { results := [.lit (.bool true)], args := [d1, d2, d3, d4] }
  | _ => none }
def tariffSpecRow : OpenClaim := { program := "ytckajockbkaijaa", sum := "078fc7b9e48335163df40eeb7bbad823768b4d8ffef7563facbc7f0ac24479ba", func := "franking/frankinglaw21.TariffSpec", spec := "tariffSpec", unfollowed := true, recurses := true, apart := false }
def TariffSpecSaid : Prop := tariffSpecRow.holds Try.pinned (OpenSpec.ofChange tariffSpecSpec)

/-- ITS FALSE NEIGHBOUR: 'it returns false'. Refute it at one input. -/
def tariffSpecWrong : ChangeSpec := { name := "tariffSpec", fn := fun _ => fun
  | [d1, d2, d3, d4] => { results := [.lit (.bool false)], args := [d1, d2, d3, d4] }
  | _ => none }
def TariffSpecWrongFalsely : Prop := tariffSpecRow.holds Try.pinned (OpenSpec.ofChange tariffSpecWrong)

/-- 'frankinglaw21.TariffSharesSpec': WHATEVER THE INPUT: true; the input reads as it did. -/
def tariffSharesSpecSpec : ChangeSpec := { name := "tariffSharesSpec", fn := fun _ => fun
  | [d1, d2, d3, d4] => { results := [.lit (.bool true)], args := [d1, d2, d3, d4] }
  | _ => none }
def tariffSharesSpecRow : OpenClaim := { program := "ytckajockbkaijaa", sum := "078fc7b9e48335163df40eeb7bbad823768b4d8ffef7563facbc7f0ac24479ba", func := "franking/frankinglaw21.TariffSharesSpec", spec := "tariffSharesSpec", unfollowed := true, recurses := true, apart := false }
def TariffSharesSpecSaid : Prop := tariffSharesSpecRow.holds Try.pinned (OpenSpec.ofChange tariffSharesSpecSpec)

/-- ITS FALSE NEIGHBOUR: 'it returns false'. Refute it at one input. -/
def tariffSharesSpecWrong : ChangeSpec := { name := "tariffSharesSpec", fn := fun _ => fun
  | [d1, d2, d3, d4] => { results := [.lit (.bool false)], args := [d1, d2, d3, d4] }
  | _ => none }
def TariffSharesSpecWrongFalsely : Prop := tariffSharesSpecRow.holds Try.pinned (OpenSpec.ofChange tariffSharesSpecWrong)

/-- 'frankinglaw21.TariffSum': WHATEVER THE INPUT: true; the input reads as it did. -/
def tariffSumSpec : ChangeSpec := { name := "tariffSum", fn := fun _ => fun
  | [d1, d2, d3, d4] => { results := [.lit (.bool true)], args := [d1, d2, d3, d4] }
  | _ => none }
def tariffSumRow : OpenClaim := { program := "ytckajockbkaijaa", sum := "078fc7b9e48335163df40eeb7bbad823768b4d8ffef7563facbc7f0ac24479ba", func := "franking/frankinglaw21.TariffSum", spec := "tariffSum", unfollowed := true, recurses := true, apart := false }
def TariffSumSaid : Prop := tariffSumRow.holds Try.pinned (OpenSpec.ofChange tariffSumSpec)

/-- ITS FALSE NEIGHBOUR: 'it returns false'. Refute it at one input. -/
def tariffSumWrong : ChangeSpec := { name := "tariffSum", fn := fun _ => fun
  | [d1, d2, d3, d4] => { results := [.lit (.bool false)], args := [d1, d2, d3, d4] }
  | _ => none }
def TariffSumWrongFalsely : Prop := tariffSumRow.holds Try.pinned (OpenSpec.ofChange tariffSumWrong)

/-- 'frankinglaw21.TariffLegs': WHATEVER THE INPUT: true; the input reads as it did. -/
def tariffLegsSpec : ChangeSpec := { name := "tariffLegs", fn := fun _ => fun
  | [d1, d2, d3, d4, d5] => { results := [.lit (.bool true)], args := [d1, d2, d3, d4, d5] }
  | _ => none }
def tariffLegsRow : OpenClaim := { program := "ytckajockbkaijaa", sum := "078fc7b9e48335163df40eeb7bbad823768b4d8ffef7563facbc7f0ac24479ba", func := "franking/frankinglaw21.TariffLegs", spec := "tariffLegs", unfollowed := true, recurses := true, apart := false }
def TariffLegsSaid : Prop := tariffLegsRow.holds Try.pinned (OpenSpec.ofChange tariffLegsSpec)

/-- ITS FALSE NEIGHBOUR: 'it returns false'. Refute it at one input. -/
def tariffLegsWrong : ChangeSpec := { name := "tariffLegs", fn := fun _ => fun
  | [d1, d2, d3, d4, d5] => { results := [.lit (.bool false)], args := [d1, d2, d3, d4, d5] }
  | _ => none }
def TariffLegsWrongFalsely : Prop := tariffLegsRow.holds Try.pinned (OpenSpec.ofChange tariffLegsWrong)

/-- 'frankinglaw21.TariffTiers': WHATEVER THE INPUT: true; the input reads as it did. -/
def tariffTiersSpec : ChangeSpec := { name := "tariffTiers", fn := fun _ => fun
  | [d1, d2, d3, d4] => { results := [.lit (.bool true)], args := [d1, d2, d3, d4] }
  | _ => none }
def tariffTiersRow : OpenClaim := { program := "ytckajockbkaijaa", sum := "078fc7b9e48335163df40eeb7bbad823768b4d8ffef7563facbc7f0ac24479ba", func := "franking/frankinglaw21.TariffTiers", spec := "tariffTiers", unfollowed := true, recurses := true, apart := false }
def TariffTiersSaid : Prop := tariffTiersRow.holds Try.pinned (OpenSpec.ofChange tariffTiersSpec)

/-- ITS FALSE NEIGHBOUR: 'it returns false'. Refute it at one input. -/
def tariffTiersWrong : ChangeSpec := { name := "tariffTiers", fn := fun _ => fun
  | [d1, d2, d3, d4] => { results := [.lit (.bool false)], args := [d1, d2, d3, d4] }
  | _ => none }
def TariffTiersWrongFalsely : Prop := tariffTiersRow.holds Try.pinned (OpenSpec.ofChange tariffTiersWrong)

/- THE SECOND FORM. 'bulk': how many values and letters a reading holds, each counted each time it is reached (what is shared counts as often as it is met; a slice's spare places count too). A statement '..UptoSaid' is the law's where the arguments, and the package variables that the reading takes, are together of bulk at most 1048576: NARROWER than '..Said'. Prove '..Said' where nothing that the law and all that it calls make is longer than what came in: it says more and counts as full. Else prove '..UptoSaid'. A law counts once. -/
mutual
def uptoBulk {H : Type} : DataW H → Nat
  | .lit (.string bytes) => bytes.length + 1
  | .lit _ => 1
  | .nil => 1
  | .ptr d => uptoBulk d + 1
  | .slice elems spare => uptoBulkAll elems + uptoBulkAll spare + 1
  | .agg parts => uptoBulkAll parts + 1
  | .iface _ d => uptoBulk d + 1
  | .map entries => uptoBulkEntries entries + 1
  | .held _ => 1
def uptoBulkAll {H : Type} : List (DataW H) → Nat
  | [] => 0
  | d :: r => uptoBulk d + uptoBulkAll r
def uptoBulkEntries {H : Type} : List (Lit × DataW H) → Nat
  | [] => 0
  | x :: r => uptoBulkEntry x + uptoBulkEntries r
def uptoBulkEntry {H : Type} : Lit × DataW H → Nat
  | (.string bytes, d) => bytes.length + uptoBulk d + 1
  | (_, d) => uptoBulk d + 1
 end
def uptoSmall : (H : Type) → List (DataW H) → Bool := fun _ ds => decide (uptoBulkAll ds ≤ 1048576)
def OpenSpec.upto (s : _root_.Go.ChangeSpec) : _root_.Go.OpenSpec := { _root_.Go.OpenSpec.ofChange s with cond := some uptoSmall }

/-- 'frankinglaw21.TariffSpec', WHERE WHAT IT READS IS OF BULK AT MOST 1048576: true; the input reads as it did. -/
def tariffSpecUptoRow : OpenClaim := { program := "ytckajockbkaijaa", sum := "078fc7b9e48335163df40eeb7bbad823768b4d8ffef7563facbc7f0ac24479ba", func := "franking/frankinglaw21.TariffSpec", spec := "tariffSpec", unfollowed := true, recurses := true, apart := false, narrowed := true }
def TariffSpecUptoSaid : Prop := tariffSpecUptoRow.holds Try.pinned (OpenSpec.upto tariffSpecSpec)

/-- 'frankinglaw21.TariffSharesSpec', WHERE WHAT IT READS IS OF BULK AT MOST 1048576: true; the input reads as it did. -/
def tariffSharesSpecUptoRow : OpenClaim := { program := "ytckajockbkaijaa", sum := "078fc7b9e48335163df40eeb7bbad823768b4d8ffef7563facbc7f0ac24479ba", func := "franking/frankinglaw21.TariffSharesSpec", spec := "tariffSharesSpec", unfollowed := true, recurses := true, apart := false, narrowed := true }
def TariffSharesSpecUptoSaid : Prop := tariffSharesSpecUptoRow.holds Try.pinned (OpenSpec.upto tariffSharesSpecSpec)

/-- 'frankinglaw21.TariffSum', WHERE WHAT IT READS IS OF BULK AT MOST 1048576: true; the input reads as it did. -/
def tariffSumUptoRow : OpenClaim := { program := "ytckajockbkaijaa", sum := "078fc7b9e48335163df40eeb7bbad823768b4d8ffef7563facbc7f0ac24479ba", func := "franking/frankinglaw21.TariffSum", spec := "tariffSum", unfollowed := true, recurses := true, apart := false, narrowed := true }
def TariffSumUptoSaid : Prop := tariffSumUptoRow.holds Try.pinned (OpenSpec.upto tariffSumSpec)

/-- 'frankinglaw21.TariffLegs', WHERE WHAT IT READS IS OF BULK AT MOST 1048576: true; the input reads as it did. -/
def tariffLegsUptoRow : OpenClaim := { program := "ytckajockbkaijaa", sum := "078fc7b9e48335163df40eeb7bbad823768b4d8ffef7563facbc7f0ac24479ba", func := "franking/frankinglaw21.TariffLegs", spec := "tariffLegs", unfollowed := true, recurses := true, apart := false, narrowed := true }
def TariffLegsUptoSaid : Prop := tariffLegsUptoRow.holds Try.pinned (OpenSpec.upto tariffLegsSpec)

/-- 'frankinglaw21.TariffTiers', WHERE WHAT IT READS IS OF BULK AT MOST 1048576: true; the input reads as it did. -/
def tariffTiersUptoRow : OpenClaim := { program := "ytckajockbkaijaa", sum := "078fc7b9e48335163df40eeb7bbad823768b4d8ffef7563facbc7f0ac24479ba", func := "franking/frankinglaw21.TariffTiers", spec := "tariffTiers", unfollowed := true, recurses := true, apart := false, narrowed := true }
def TariffTiersUptoSaid : Prop := tariffTiersUptoRow.holds Try.pinned (OpenSpec.upto tariffTiersSpec)

end Rows
end Go.Proofs.Ytckajockbkaijaa
