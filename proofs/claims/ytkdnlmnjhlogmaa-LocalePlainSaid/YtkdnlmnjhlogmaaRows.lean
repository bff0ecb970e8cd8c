/-
  No cell of these rows narrows 'for every input' (looked for: loops, veiled, ifaces, maps, wideKeys, modest, calm, conditions, laid).
  DERIVED. THE GIVEN ROWS OF THIS SEAT. 7 by the template 'for every input the law returns true; each argument reads behind the call as it read before'; 0 by the template 'total and deterministic' (their statements: YtkdnlmnjhlogmaaTotals.lean).
  GIVEN WITH THE SEED: the statements are not yours to turn. If you find one false, say at which input.
  Laid BY PROGRAM, IN A SANDBOX (cutbox-rows.mjs): the forced cells as the released guide's own fill.sh prints them over the translation 1aa2de0543cfe21f… (all of the seat's roots in one cut). By AI agents, Wed Nov 11 2026. No macro, syntax, notation, axiom, sorry.
-/
import Derived.Test.YtkdnlmnjhlogmaaChecked
import GoSem.Claim
import GoSem.ClaimJoined
import GoSem.ClaimMapViews
import Derived.JoinedTies
import Derived.KernelRfl
namespace Go.Proofs.Ytkdnlmnjhlogmaa
/- THE CELL 'sum', in the pinned program and in every row, IS THE sha256 OF THE DUMP (.gsa) THAT YtkdnlmnjhlogmaaProg.lean LOADS. Nothing in Lean hashes anything: it is a label: what it is worth is what the hold of that sum in a sandbox is worth. -/
noncomputable def Try.pinned : Pinned := { name := "ytkdnlmnjhlogmaa", sum := "1aa2de0543cfe21f27ba4f04f05f9876731a526b20e81e7470eb2dd53b31cd64", checked := Try.checked }
namespace Rows
def none {H : Type} : Left H := { results := [], args := [] }

/-- 'sorobanlaw19.LocaleTexts': WHATEVER THE INPUT: true; the input reads as it did. -/
def localeTextsSpec : ChangeSpec := { name := "localeTexts", fn := fun _ => fun
  | [d1, d2, d3] => { results := [.lit (.bool true)], args := [d1, d2, d3] }
  | _ => none }
def localeTextsRow : OpenClaim := { program := "ytkdnlmnjhlogmaa", sum := "1aa2de0543cfe21f27ba4f04f05f9876731a526b20e81e7470eb2dd53b31cd64", func := "soroban/sorobanlaw19.LocaleTexts", spec := "localeTexts", inPlace := ["internal/abi.NoEscape", "internal/bytealg.IndexByteString", "internal/bytealg.IndexString"], unfollowed := true, recurses := true, named := ["internal/bytealg.MaxLen"], apart := false }
def LocaleTextsSaid : Prop := localeTextsRow.holds Try.pinned (OpenSpec.ofChange localeTextsSpec)

/-- ITS FALSE NEIGHBOUR: 'it returns false'. Refute it at one input. -/
def localeTextsWrong : ChangeSpec := { name := "localeTexts", fn := fun _ => fun
  | [d1, d2, d3] => { results := [.lit (.bool false)], args := [d1, d2, d3] }
  | _ => none }
def LocaleTextsWrongFalsely : Prop := localeTextsRow.holds Try.pinned (OpenSpec.ofChange localeTextsWrong)

/-- 'sorobanlaw19.LocaleBack': WHATEVER THE INPUT: true; the input reads as it did. -/
def localeBackSpec : ChangeSpec := { name := "localeBack", fn := fun _ => fun
  | [d1, d2, d3] => { results := [.lit (.bool true)], args := [d1, d2, d3] }
  | _ => none }
def localeBackRow : OpenClaim := { program := "ytkdnlmnjhlogmaa", sum := "1aa2de0543cfe21f27ba4f04f05f9876731a526b20e81e7470eb2dd53b31cd64", func := "soroban/sorobanlaw19.LocaleBack", spec := "localeBack", inPlace := ["internal/abi.NoEscape", "internal/bytealg.IndexByteString", "internal/bytealg.IndexString"], unfollowed := true, recurses := true, named := ["internal/bytealg.MaxLen"], apart := false }
def LocaleBackSaid : Prop := localeBackRow.holds Try.pinned (OpenSpec.ofChange localeBackSpec)

/-- ITS FALSE NEIGHBOUR: 'it returns false'. Refute it at one input. -/
def localeBackWrong : ChangeSpec := { name := "localeBack", fn := fun _ => fun
  | [d1, d2, d3] => { results := [.lit (.bool false)], args := [d1, d2, d3] }
  | _ => none }
def LocaleBackWrongFalsely : Prop := localeBackRow.holds Try.pinned (OpenSpec.ofChange localeBackWrong)

/-- 'sorobanlaw19.LocaleLongest': WHATEVER THE INPUT: true; the input reads as it did. -/
def localeLongestSpec : ChangeSpec := { name := "localeLongest", fn := fun _ => fun
  | [d1, d2] => { results := [.lit (.bool true)], args := [d1, d2] }
  | _ => none }
def localeLongestRow : OpenClaim := { program := "ytkdnlmnjhlogmaa", sum := "1aa2de0543cfe21f27ba4f04f05f9876731a526b20e81e7470eb2dd53b31cd64", func := "soroban/sorobanlaw19.LocaleLongest", spec := "localeLongest", inPlace := ["internal/abi.NoEscape", "internal/bytealg.IndexByteString", "internal/bytealg.IndexString"], unfollowed := true, recurses := true, named := ["internal/bytealg.MaxLen"], apart := false }
def LocaleLongestSaid : Prop := localeLongestRow.holds Try.pinned (OpenSpec.ofChange localeLongestSpec)

/-- ITS FALSE NEIGHBOUR: 'it returns false'. Refute it at one input. -/
def localeLongestWrong : ChangeSpec := { name := "localeLongest", fn := fun _ => fun
  | [d1, d2] => { results := [.lit (.bool false)], args := [d1, d2] }
  | _ => none }
def LocaleLongestWrongFalsely : Prop := localeLongestRow.holds Try.pinned (OpenSpec.ofChange localeLongestWrong)

/-- 'sorobanlaw19.LocalePlain': WHATEVER THE INPUT: true; the input reads as it did. -/
def localePlainSpec : ChangeSpec := { name := "localePlain", fn := fun _ => fun
  | [d1, d2] => { results := [.lit (.bool true)], args := [d1, d2] }
  | _ => none }
def localePlainRow : OpenClaim := { program := "ytkdnlmnjhlogmaa", sum := "1aa2de0543cfe21f27ba4f04f05f9876731a526b20e81e7470eb2dd53b31cd64", func := "soroban/sorobanlaw19.LocalePlain", spec := "localePlain", inPlace := ["internal/abi.NoEscape", "internal/bytealg.IndexByteString", "internal/bytealg.IndexString"], unfollowed := true, recurses := true, named := ["internal/bytealg.MaxLen"], apart := false }
def LocalePlainSaid : Prop := localePlainRow.holds Try.pinned (OpenSpec.ofChange localePlainSpec)

/-- ITS FALSE NEIGHBOUR: 'it returns false'. Refute it at one input. -/
def localePlainWrong : ChangeSpec := { name := "localePlain", fn := fun _ => fun
  | [d1, d2] => { results := [.lit (.bool false)], args := [d1, d2] }
  | _ => none }
def LocalePlainWrongFalsely : Prop := localePlainRow.holds Try.pinned (OpenSpec.ofChange localePlainWrong)

/-- 'sorobanlaw19.LocaleGroups': WHATEVER THE INPUT: true; the input reads as it did. -/
def localeGroupsSpec : ChangeSpec := { name := "localeGroups", fn := fun _ => fun
  | [d1, d2] => { results := [.lit (.bool true)], args := [d1, d2] }
  | _ => none }
def localeGroupsRow : OpenClaim := { program := "ytkdnlmnjhlogmaa", sum := "1aa2de0543cfe21f27ba4f04f05f9876731a526b20e81e7470eb2dd53b31cd64", func := "soroban/sorobanlaw19.LocaleGroups", spec := "localeGroups", inPlace := ["internal/abi.NoEscape", "internal/bytealg.IndexByteString", "internal/bytealg.IndexString"], unfollowed := true, recurses := true, named := ["internal/bytealg.MaxLen"], apart := false }
def LocaleGroupsSaid : Prop := localeGroupsRow.holds Try.pinned (OpenSpec.ofChange localeGroupsSpec)

/-- ITS FALSE NEIGHBOUR: 'it returns false'. Refute it at one input. -/
def localeGroupsWrong : ChangeSpec := { name := "localeGroups", fn := fun _ => fun
  | [d1, d2] => { results := [.lit (.bool false)], args := [d1, d2] }
  | _ => none }
def LocaleGroupsWrongFalsely : Prop := localeGroupsRow.holds Try.pinned (OpenSpec.ofChange localeGroupsWrong)

/-- 'sorobanlaw19.LocaleRoom': WHATEVER THE INPUT: true; the input reads as it did. -/
def localeRoomSpec : ChangeSpec := { name := "localeRoom", fn := fun _ => fun
  | [d1, d2, d3] => { results := [.lit (.bool true)], args := [d1, d2, d3] }
  | _ => none }
def localeRoomRow : OpenClaim := { program := "ytkdnlmnjhlogmaa", sum := "1aa2de0543cfe21f27ba4f04f05f9876731a526b20e81e7470eb2dd53b31cd64", func := "soroban/sorobanlaw19.LocaleRoom", spec := "localeRoom", inPlace := ["internal/abi.NoEscape", "internal/bytealg.IndexByteString", "internal/bytealg.IndexString"], unfollowed := true, recurses := true, named := ["internal/bytealg.MaxLen"], apart := false }
def LocaleRoomSaid : Prop := localeRoomRow.holds Try.pinned (OpenSpec.ofChange localeRoomSpec)

/-- ITS FALSE NEIGHBOUR: 'it returns false'. Refute it at one input. -/
def localeRoomWrong : ChangeSpec := { name := "localeRoom", fn := fun _ => fun
  | [d1, d2, d3] => { results := [.lit (.bool false)], args := [d1, d2, d3] }
  | _ => none }
def LocaleRoomWrongFalsely : Prop := localeRoomRow.holds Try.pinned (OpenSpec.ofChange localeRoomWrong)

/-- 'sorobanlaw19.LocaleSizes': WHATEVER THE INPUT: true; the input reads as it did. -/
def localeSizesSpec : ChangeSpec := { name := "localeSizes", fn := fun _ => fun
  | [d1, d2, d3] => { results := [.lit (.bool true)], args := [d1, d2, d3] }
  | _ => none }
def localeSizesRow : OpenClaim := { program := "ytkdnlmnjhlogmaa", sum := "1aa2de0543cfe21f27ba4f04f05f9876731a526b20e81e7470eb2dd53b31cd64", func := "soroban/sorobanlaw19.LocaleSizes", spec := "localeSizes", inPlace := ["internal/abi.NoEscape", "internal/bytealg.IndexByteString", "internal/bytealg.IndexString"], unfollowed := true, recurses := true, named := ["internal/bytealg.MaxLen"], apart := false }
def LocaleSizesSaid : Prop := localeSizesRow.holds Try.pinned (OpenSpec.ofChange localeSizesSpec)

/-- ITS FALSE NEIGHBOUR: 'it returns false'. Refute it at one input. -/
def localeSizesWrong : ChangeSpec := { name := "localeSizes", fn := fun _ => fun
  | [d1, d2, d3] => { results := [.lit (.bool false)], args := [d1, d2, d3] }
  | _ => none }
def LocaleSizesWrongFalsely : Prop := localeSizesRow.holds Try.pinned (OpenSpec.ofChange localeSizesWrong)

/- THE SECOND FORM. 'bulk': how many values and letters a reading holds, each counted each time it is reached (what is shared counts as often as it is met; a slice's spare places count too). A statement '..UptoSaid' is the law's where the arguments, and the package variables that the reading takes, are together of bulk at most 1048576: NARROWER than '..Said'. Prove '..Said' where nothing that the law and all that it calls make is longer than what came in: it says more and counts as full. Else prove '..UptoSaid'. A law counts once. -/
mutual
def uptoBulk {H : Type} : DataW H → Nat
  | .lit (.string bytes) => bytes.length + 1
  | .lit _ => 1
  | .nil => 1
  | .ptr d => uptoBulk d + 1
  | .slice elems spare => uptoBulkAll elems + uptoBulkAll spare + 1
  | .agg parts => uptoBulkAll parts + 1
  | .iface _ d => uptoBulk d + 1
  | .map entries => uptoBulkEntries entries + 1
  | .held _ => 1
def uptoBulkAll {H : Type} : List (DataW H) → Nat
  | [] => 0
  | d :: r => uptoBulk d + uptoBulkAll r
def uptoBulkEntries {H : Type} : List (Lit × DataW H) → Nat
  | [] => 0
  | x :: r => uptoBulkEntry x + uptoBulkEntries r
def uptoBulkEntry {H : Type} : Lit × DataW H → Nat
  | (.string bytes, d) => bytes.length + uptoBulk d + 1
  | (_, d) => uptoBulk d + 1
 end
def uptoSmall : (H : Type) → List (DataW H) → Bool := fun _ ds => decide (uptoBulkAll ds ≤ 1048576)
def OpenSpec.upto (s : _root_.Go.ChangeSpec) : _root_.Go.OpenSpec := { _root_.Go.OpenSpec.ofChange s with cond := some uptoSmall }

/-- 'sorobanlaw19.LocaleTexts', WHERE WHAT IT READS IS OF BULK AT MOST 1048576: true; the input reads as it did. -/
def localeTextsUptoRow : OpenClaim := { program := "ytkdnlmnjhlogmaa", sum := "1aa2de0543cfe21f27ba4f04f05f9876731a526b20e81e7470eb2dd53b31cd64", func := "soroban/sorobanlaw19.LocaleTexts", spec := "localeTexts", inPlace := ["internal/abi.NoEscape", "internal/bytealg.IndexByteString", "internal/bytealg.IndexString"], unfollowed := true, recurses := true, named := ["internal/bytealg.MaxLen"], apart := false, narrowed := true }
def LocaleTextsUptoSaid : Prop := localeTextsUptoRow.holds Try.pinned (OpenSpec.upto localeTextsSpec)

/-- 'sorobanlaw19.LocaleBack', WHERE WHAT IT READS IS OF BULK AT MOST 1048576: true; the input reads as it did. -/
def localeBackUptoRow : OpenClaim := { program := "ytkdnlmnjhlogmaa", sum := "1aa2de0543cfe21f27ba4f04f05f9876731a526b20e81e7470eb2dd53b31cd64", func := "soroban/sorobanlaw19.LocaleBack", spec := "localeBack", inPlace := ["internal/abi.NoEscape", "internal/bytealg.IndexByteString", "internal/bytealg.IndexString"], unfollowed := true, recurses := true, named := ["internal/bytealg.MaxLen"], apart := false, narrowed := true }
def LocaleBackUptoSaid : Prop := localeBackUptoRow.holds Try.pinned (OpenSpec.upto localeBackSpec)

/-- 'sorobanlaw19.LocaleLongest', WHERE WHAT IT READS IS OF BULK AT MOST 1048576: true; the input reads as it did. -/
def localeLongestUptoRow : OpenClaim := { program := "ytkdnlmnjhlogmaa", sum := "1aa2de0543cfe21f27ba4f04f05f9876731a526b20e81e7470eb2dd53b31cd64", func := "soroban/sorobanlaw19.LocaleLongest", spec := "localeLongest", inPlace := ["internal/abi.NoEscape", "internal/bytealg.IndexByteString", "internal/bytealg.IndexString"], unfollowed := true, recurses := true, named := ["internal/bytealg.MaxLen"], apart := false, narrowed := true }
def LocaleLongestUptoSaid : Prop := localeLongestUptoRow.holds Try.pinned (OpenSpec.upto localeLongestSpec)

/-- 'sorobanlaw19.LocalePlain', WHERE WHAT IT READS IS OF BULK AT MOST 1048576: true; the input reads as it did. -/
def localePlainUptoRow : OpenClaim := { program := "ytkdnlmnjhlogmaa", sum := "1aa2de0543cfe21f27ba4f04f05f9876731a526b20e81e7470eb2dd53b31cd64", func := "soroban/sorobanlaw19.LocalePlain", spec := "localePlain", inPlace := ["internal/abi.NoEscape", "internal/bytealg.IndexByteString", "internal/bytealg.IndexString"], unfollowed := true, recurses := true, named := ["internal/bytealg.MaxLen"], apart := false, narrowed := true }
def LocalePlainUptoSaid : Prop := localePlainUptoRow.holds Try.pinned (OpenSpec.upto localePlainSpec)

/-- 'sorobanlaw19.LocaleGroups', WHERE WHAT IT READS IS OF BULK AT MOST 1048576: true; the input reads as it did. -/
def localeGroupsUptoRow : OpenClaim := { program := "ytkdnlmnjhlogmaa", sum := "1aa2de0543cfe21f27ba4f04f05f9876731a526b20e81e7470eb2dd53b31cd64", func := "soroban/sorobanlaw19.LocaleGroups", spec := "localeGroups", inPlace := ["internal/abi.NoEscape", "internal/bytealg.IndexByteString", "internal/bytealg.IndexString"], unfollowed := true, recurses := true, named := ["internal/bytealg.MaxLen"], apart := false, narrowed := true }
def LocaleGroupsUptoSaid : Prop := localeGroupsUptoRow.holds Try.pinned (OpenSpec.upto localeGroupsSpec)

/-- 'sorobanlaw19.LocaleRoom', WHERE WHAT IT READS IS OF BULK AT MOST 1048576: true; the input reads as it did. -/
def localeRoomUptoRow : OpenClaim := { program := "ytkdnlmnjhlogmaa", sum := "1aa2de0543cfe21f27ba4f04f05f9876731a526b20e81e7470eb2dd53b31cd64", func := "soroban/sorobanlaw19.LocaleRoom", spec := "localeRoom", inPlace := ["internal/abi.NoEscape", "internal/bytealg.IndexByteString", "internal/bytealg.IndexString"], unfollowed := true, recurses := true, named := ["internal/bytealg.MaxLen"], apart := false, narrowed := true }
def LocaleRoomUptoSaid : Prop := localeRoomUptoRow.holds Try.pinned (OpenSpec.upto localeRoomSpec)

/-- 'sorobanlaw19.LocaleSizes', WHERE WHAT IT READS IS OF BULK AT MOST 1048576: true; the input reads as it did. -/
def localeSizesUptoRow : OpenClaim := { program := "ytkdnlmnjhlogmaa", sum := "1aa2de0543cfe21f27ba4f04f05f9876731a526b20e81e7470eb2dd53b31cd64", func := "soroban/sorobanlaw19.LocaleSizes", spec := "localeSizes", inPlace := ["internal/abi.NoEscape", "internal/bytealg.IndexByteString", "internal/bytealg.IndexString"], unfollowed := true, recurses := true, named := ["internal/bytealg.MaxLen"], apart := false, narrowed := true }
def LocaleSizesUptoSaid : Prop := localeSizesUptoRow.holds Try.pinned (OpenSpec.upto localeSizesSpec)

end Rows
end Go.Proofs.Ytkdnlmnjhlogmaa
