/-
  No cell of these rows narrows 'for every input' (looked for: loops, veiled, ifaces, maps, wideKeys, modest, calm, conditions, laid).
  DERIVED. THE GIVEN ROWS OF THIS SEAT. 12 by the template 'for every input the law returns true; each argument reads behind the call as it read before'; 0 by the template 'total and deterministic' (their statements: YtoamlicfbmhajaaTotals.lean).
  GIVEN WITH THE SEED: the statements are not yours to turn. If you find one false, say at which input.
  Laid BY PROGRAM, IN A SANDBOX (cutbox-rows.mjs): the forced cells as the released guide's own fill.sh prints them over the translation 75d6ff52f7e756a0… (all of the seat's roots in one cut). By AI agents, Wed Nov 11 2026. No macro, syntax, notation, axiom, sorry.
-/
import Derived.Test.YtoamlicfbmhajaaChecked
import GoSem.Claim
import GoSem.ClaimJoined
import GoSem.ClaimMapViews
import Derived.JoinedTies
import Derived.KernelRfl
namespace Go.Proofs.Ytoamlicfbmhajaa
/- THE CELL 'sum', in the pinned program and in every row, IS THE sha256 OF THE DUMP (.gsa) THAT YtoamlicfbmhajaaProg.lean LOADS. Nothing in Lean hashes anything: it is a label: what it is worth is what the hold of that sum in a sandbox is worth. -/
noncomputable def Try.pinned : Pinned := { name := "ytoamlicfbmhajaa", sum := "75d6ff52f7e756a01ad4ecc7e6f82338d9f6ab58a1c49c55826fee8f2ce6b91b", checked := Try.checked }
namespace Rows
def none {H : Type} : Left H := { results := [], args := [] }

/-- 'chartularylaw15.PolicyDeadlines': WHATEVER THE INPUT: true; the input reads as it did. -/
def policyDeadlinesSpec : ChangeSpec := { name := "policyDeadlines", fn := fun _ => fun
  | [d1, d2, d3] => { results := [.lit (.bool true)], args := [d1, d2, d3] }
  | _ => none }
def policyDeadlinesRow : OpenClaim := { program := "ytoamlicfbmhajaa", sum := "75d6ff52f7e756a01ad4ecc7e6f82338d9f6ab58a1c49c55826fee8f2ce6b91b", func := "chartulary/chartularylaw15.PolicyDeadlines", spec := "policyDeadlines", apart := false }
def PolicyDeadlinesSaid : Prop := policyDeadlinesRow.holds Try.pinned (OpenSpec.ofChange policyDeadlinesSpec)

/-- ITS FALSE NEIGHBOUR: 'it returns false'. Refute it at one input. -/
def policyDeadlinesWrong : ChangeSpec := { name := "policyDeadlines", fn := fun _ => fun
  | [d1, d2, d3] => { results := [.lit (.bool false)], args := [d1, d2, d3] }
  | _ => none }
def PolicyDeadlinesWrongFalsely : Prop := policyDeadlinesRow.holds Try.pinned (OpenSpec.ofChange policyDeadlinesWrong)

/-- 'chartularylaw25.BundleBytes': WHATEVER THE INPUT: true; the input reads as it did. -/
def bundleBytesSpec : ChangeSpec := { name := "bundleBytes", fn := fun _ => fun
  | [d] => { results := [.lit (.bool true)], args := [d] }
  | _ => none }
def bundleBytesRow : OpenClaim := { program := "ytoamlicfbmhajaa", sum := "75d6ff52f7e756a01ad4ecc7e6f82338d9f6ab58a1c49c55826fee8f2ce6b91b", func := "chartulary/chartularylaw25.BundleBytes", spec := "bundleBytes", apart := false }
def BundleBytesSaid : Prop := bundleBytesRow.holds Try.pinned (OpenSpec.ofChange bundleBytesSpec)

/-- ITS FALSE NEIGHBOUR: 'it returns false'. Refute it at one input. -/
def bundleBytesWrong : ChangeSpec := { name := "bundleBytes", fn := fun _ => fun
  | [d] => { results := [.lit (.bool false)], args := [d] }
  | _ => none }
def BundleBytesWrongFalsely : Prop := bundleBytesRow.holds Try.pinned (OpenSpec.ofChange bundleBytesWrong)

/-- 'chartularylaw25.BundleReads': WHATEVER THE INPUT: true; the input reads as it did. -/
def bundleReadsSpec : ChangeSpec := { name := "bundleReads", fn := fun _ => fun
  | [d] => { results := [.lit (.bool true)], args := [d] }
  | _ => none }
def bundleReadsRow : OpenClaim := { program := "ytoamlicfbmhajaa", sum := "75d6ff52f7e756a01ad4ecc7e6f82338d9f6ab58a1c49c55826fee8f2ce6b91b", func := "chartulary/chartularylaw25.BundleReads", spec := "bundleReads", apart := false }
def BundleReadsSaid : Prop := bundleReadsRow.holds Try.pinned (OpenSpec.ofChange bundleReadsSpec)

/-- ITS FALSE NEIGHBOUR: 'it returns false'. Refute it at one input. -/
def bundleReadsWrong : ChangeSpec := { name := "bundleReads", fn := fun _ => fun
  | [d] => { results := [.lit (.bool false)], args := [d] }
  | _ => none }
def BundleReadsWrongFalsely : Prop := bundleReadsRow.holds Try.pinned (OpenSpec.ofChange bundleReadsWrong)

/-- 'chartularylaw27.ReportNobody': WHATEVER THE INPUT: true; the input reads as it did. -/
def reportNobodySpec : ChangeSpec := { name := "reportNobody", fn := fun _ => fun
  | [d] => { results := [.lit (.bool true)], args := [d] }
  | _ => none }
def reportNobodyRow : OpenClaim := { program := "ytoamlicfbmhajaa", sum := "75d6ff52f7e756a01ad4ecc7e6f82338d9f6ab58a1c49c55826fee8f2ce6b91b", func := "chartulary/chartularylaw27.ReportNobody", spec := "reportNobody", inPlace := ["math.Float64bits", "math.Float64frombits"], apart := false }
def ReportNobodySaid : Prop := reportNobodyRow.holds Try.pinned (OpenSpec.ofChange reportNobodySpec)

/-- ITS FALSE NEIGHBOUR: 'it returns false'. Refute it at one input. -/
def reportNobodyWrong : ChangeSpec := { name := "reportNobody", fn := fun _ => fun
  | [d] => { results := [.lit (.bool false)], args := [d] }
  | _ => none }
def ReportNobodyWrongFalsely : Prop := reportNobodyRow.holds Try.pinned (OpenSpec.ofChange reportNobodyWrong)

/-- 'chartularylaw31.ForecastGaps': WHATEVER THE INPUT: true; the input reads as it did. -/
def forecastGapsSpec : ChangeSpec := { name := "forecastGaps", fn := fun _ => fun
  | [d1, d2] => { results := [.lit (.bool true)], args := [d1, d2] }
  | _ => none }
def forecastGapsRow : OpenClaim := { program := "ytoamlicfbmhajaa", sum := "75d6ff52f7e756a01ad4ecc7e6f82338d9f6ab58a1c49c55826fee8f2ce6b91b", func := "chartulary/chartularylaw31.ForecastGaps", spec := "forecastGaps", unfollowed := true, recurses := true, apart := false }
def ForecastGapsSaid : Prop := forecastGapsRow.holds Try.pinned (OpenSpec.ofChange forecastGapsSpec)

/-- ITS FALSE NEIGHBOUR: 'it returns false'. Refute it at one input. -/
def forecastGapsWrong : ChangeSpec := { name := "forecastGaps", fn := fun _ => fun
  | [d1, d2] => { results := [.lit (.bool false)], args := [d1, d2] }
  | _ => none }
def ForecastGapsWrongFalsely : Prop := forecastGapsRow.holds Try.pinned (OpenSpec.ofChange forecastGapsWrong)

/-- 'chartularylaw31.ForecastLefts': WHATEVER THE INPUT: true; the input reads as it did. -/
def forecastLeftsSpec : ChangeSpec := { name := "forecastLefts", fn := fun _ => fun
  | [d1, d2] => { results := [.lit (.bool true)], args := [d1, d2] }
  | _ => none }
def forecastLeftsRow : OpenClaim := { program := "ytoamlicfbmhajaa", sum := "75d6ff52f7e756a01ad4ecc7e6f82338d9f6ab58a1c49c55826fee8f2ce6b91b", func := "chartulary/chartularylaw31.ForecastLefts", spec := "forecastLefts", unfollowed := true, recurses := true, apart := false }
def ForecastLeftsSaid : Prop := forecastLeftsRow.holds Try.pinned (OpenSpec.ofChange forecastLeftsSpec)

/-- ITS FALSE NEIGHBOUR: 'it returns false'. Refute it at one input. -/
def forecastLeftsWrong : ChangeSpec := { name := "forecastLefts", fn := fun _ => fun
  | [d1, d2] => { results := [.lit (.bool false)], args := [d1, d2] }
  | _ => none }
def ForecastLeftsWrongFalsely : Prop := forecastLeftsRow.holds Try.pinned (OpenSpec.ofChange forecastLeftsWrong)

/-- 'chartularylaw23.SayTokens': WHATEVER THE INPUT: true; the input reads as it did. -/
def sayTokensSpec : ChangeSpec := { name := "sayTokens", fn := fun _ => fun
  | [d] => { results := [.lit (.bool true)], args := [d] }
  | _ => none }
def sayTokensRow : OpenClaim := { program := "ytoamlicfbmhajaa", sum := "75d6ff52f7e756a01ad4ecc7e6f82338d9f6ab58a1c49c55826fee8f2ce6b91b", func := "chartulary/chartularylaw23.SayTokens", spec := "sayTokens", inPlace := ["internal/bytealg.IndexByteString", "internal/abi.NoEscape"], unfollowed := true, recurses := true, apart := false }
def SayTokensSaid : Prop := sayTokensRow.holds Try.pinned (OpenSpec.ofChange sayTokensSpec)

/-- ITS FALSE NEIGHBOUR: 'it returns false'. Refute it at one input. -/
def sayTokensWrong : ChangeSpec := { name := "sayTokens", fn := fun _ => fun
  | [d] => { results := [.lit (.bool false)], args := [d] }
  | _ => none }
def SayTokensWrongFalsely : Prop := sayTokensRow.holds Try.pinned (OpenSpec.ofChange sayTokensWrong)

/-- 'chartularylaw23.SayLong': WHATEVER THE INPUT: true; the input reads as it did. -/
def sayLongSpec : ChangeSpec := { name := "sayLong", fn := fun _ => fun
  | [d] => { results := [.lit (.bool true)], args := [d] }
  | _ => none }
def sayLongRow : OpenClaim := { program := "ytoamlicfbmhajaa", sum := "75d6ff52f7e756a01ad4ecc7e6f82338d9f6ab58a1c49c55826fee8f2ce6b91b", func := "chartulary/chartularylaw23.SayLong", spec := "sayLong", inPlace := ["internal/bytealg.IndexByteString", "internal/abi.NoEscape"], unfollowed := true, recurses := true, apart := false }
def SayLongSaid : Prop := sayLongRow.holds Try.pinned (OpenSpec.ofChange sayLongSpec)

/-- ITS FALSE NEIGHBOUR: 'it returns false'. Refute it at one input. -/
def sayLongWrong : ChangeSpec := { name := "sayLong", fn := fun _ => fun
  | [d] => { results := [.lit (.bool false)], args := [d] }
  | _ => none }
def SayLongWrongFalsely : Prop := sayLongRow.holds Try.pinned (OpenSpec.ofChange sayLongWrong)

/-- 'chartularylaw23.SayQuotes': WHATEVER THE INPUT: true; the input reads as it did. -/
def sayQuotesSpec : ChangeSpec := { name := "sayQuotes", fn := fun _ => fun
  | [d] => { results := [.lit (.bool true)], args := [d] }
  | _ => none }
def sayQuotesRow : OpenClaim := { program := "ytoamlicfbmhajaa", sum := "75d6ff52f7e756a01ad4ecc7e6f82338d9f6ab58a1c49c55826fee8f2ce6b91b", func := "chartulary/chartularylaw23.SayQuotes", spec := "sayQuotes", inPlace := ["internal/abi.NoEscape", "internal/bytealg.IndexByteString"], unfollowed := true, recurses := true, apart := false }
def SayQuotesSaid : Prop := sayQuotesRow.holds Try.pinned (OpenSpec.ofChange sayQuotesSpec)

/-- ITS FALSE NEIGHBOUR: 'it returns false'. Refute it at one input. -/
def sayQuotesWrong : ChangeSpec := { name := "sayQuotes", fn := fun _ => fun
  | [d] => { results := [.lit (.bool false)], args := [d] }
  | _ => none }
def SayQuotesWrongFalsely : Prop := sayQuotesRow.holds Try.pinned (OpenSpec.ofChange sayQuotesWrong)

/-- 'chartularylaw15.PolicyReady': WHATEVER THE INPUT: true; the input reads as it did. -/
def policyReadySpec : ChangeSpec := { name := "policyReady", fn := fun _ => fun
  | [d1, d2, d3] => { results := [.lit (.bool true)], args := [d1, d2, d3] }
  | _ => none }
def policyReadyRow : OpenClaim := { program := "ytoamlicfbmhajaa", sum := "75d6ff52f7e756a01ad4ecc7e6f82338d9f6ab58a1c49c55826fee8f2ce6b91b", func := "chartulary/chartularylaw15.PolicyReady", spec := "policyReady", unfollowed := true, recurses := true, apart := false }
def PolicyReadySaid : Prop := policyReadyRow.holds Try.pinned (OpenSpec.ofChange policyReadySpec)

/-- ITS FALSE NEIGHBOUR: 'it returns false'. Refute it at one input. -/
def policyReadyWrong : ChangeSpec := { name := "policyReady", fn := fun _ => fun
  | [d1, d2, d3] => { results := [.lit (.bool false)], args := [d1, d2, d3] }
  | _ => none }
def PolicyReadyWrongFalsely : Prop := policyReadyRow.holds Try.pinned (OpenSpec.ofChange policyReadyWrong)

/-- 'chartularylaw15.PolicyPlays': WHATEVER THE INPUT: true; the input reads as it did. -/
def policyPlaysSpec : ChangeSpec := { name := "policyPlays", fn := fun _ => fun
  | [d] => { results := [.lit (.bool true)], args := [d] }
  | _ => none }
def policyPlaysRow : OpenClaim := { program := "ytoamlicfbmhajaa", sum := "75d6ff52f7e756a01ad4ecc7e6f82338d9f6ab58a1c49c55826fee8f2ce6b91b", func := "chartulary/chartularylaw15.PolicyPlays", spec := "policyPlays", unfollowed := true, recurses := true, apart := false }
def PolicyPlaysSaid : Prop := policyPlaysRow.holds Try.pinned (OpenSpec.ofChange policyPlaysSpec)

/-- ITS FALSE NEIGHBOUR: 'it returns false'. Refute it at one input. -/
def policyPlaysWrong : ChangeSpec := { name := "policyPlays", fn := fun _ => fun
  | [d] => { results := [.lit (.bool false)], args := [d] }
  | _ => none }
def PolicyPlaysWrongFalsely : Prop := policyPlaysRow.holds Try.pinned (OpenSpec.ofChange policyPlaysWrong)

/-- 'chartularylaw23.SayValues': WHATEVER THE INPUT: true; the input reads as it did. -/
def sayValuesSpec : ChangeSpec := { name := "sayValues", fn := fun _ => fun
  | [d1, d2] => { results := [.lit (.bool true)], args := [d1, d2] }
  | _ => none }
def sayValuesRow : OpenClaim := { program := "ytoamlicfbmhajaa", sum := "75d6ff52f7e756a01ad4ecc7e6f82338d9f6ab58a1c49c55826fee8f2ce6b91b", func := "chartulary/chartularylaw23.SayValues", spec := "sayValues", inPlace := ["internal/abi.NoEscape", "internal/bytealg.IndexByteString"], unfollowed := true, recurses := true, apart := false }
def SayValuesSaid : Prop := sayValuesRow.holds Try.pinned (OpenSpec.ofChange sayValuesSpec)

/-- ITS FALSE NEIGHBOUR: 'it returns false'. Refute it at one input. -/
def sayValuesWrong : ChangeSpec := { name := "sayValues", fn := fun _ => fun
  | [d1, d2] => { results := [.lit (.bool false)], args := [d1, d2] }
  | _ => none }
def SayValuesWrongFalsely : Prop := sayValuesRow.holds Try.pinned (OpenSpec.ofChange sayValuesWrong)

/- THE SECOND FORM. 'bulk': how many values and letters a reading holds, each counted each time it is reached (what is shared counts as often as it is met; a slice's spare places count too). A statement '..UptoSaid' is the law's where the arguments, and the package variables that the reading takes, are together of bulk at most 1048576: NARROWER than '..Said'. Prove '..Said' where nothing that the law and all that it calls make is longer than what came in: it says more and counts as full. Else prove '..UptoSaid'. A law counts once. -/
mutual
def uptoBulk {H : Type} : DataW H → Nat
  | .lit (.string bytes) => bytes.length + 1
  | .lit _ => 1
  | .nil => 1
  | .ptr d => uptoBulk d + 1
  | .slice elems spare => uptoBulkAll elems + uptoBulkAll spare + 1
  | .agg parts => uptoBulkAll parts + 1
  | .iface _ d => uptoBulk d + 1
  | .map entries => uptoBulkEntries entries + 1
  | .held _ => 1
def uptoBulkAll {H : Type} : List (DataW H) → Nat
  | [] => 0
  | d :: r => uptoBulk d + uptoBulkAll r
def uptoBulkEntries {H : Type} : List (Lit × DataW H) → Nat
  | [] => 0
  | x :: r => uptoBulkEntry x + uptoBulkEntries r
def uptoBulkEntry {H : Type} : Lit × DataW H → Nat
  | (.string bytes, d) => bytes.length + uptoBulk d + 1
  | (_, d) => uptoBulk d + 1
 end
def uptoSmall : (H : Type) → List (DataW H) → Bool := fun _ ds => decide (uptoBulkAll ds ≤ 1048576)
def OpenSpec.upto (s : _root_.Go.ChangeSpec) : _root_.Go.OpenSpec := { _root_.Go.OpenSpec.ofChange s with cond := some uptoSmall }

/-- 'chartularylaw15.PolicyDeadlines', WHERE WHAT IT READS IS OF BULK AT MOST 1048576: true; the input reads as it did. -/
def policyDeadlinesUptoRow : OpenClaim := { program := "ytoamlicfbmhajaa", sum := "75d6ff52f7e756a01ad4ecc7e6f82338d9f6ab58a1c49c55826fee8f2ce6b91b", func := "chartulary/chartularylaw15.PolicyDeadlines", spec := "policyDeadlines", apart := false, narrowed := true }
def PolicyDeadlinesUptoSaid : Prop := policyDeadlinesUptoRow.holds Try.pinned (OpenSpec.upto policyDeadlinesSpec)

/-- 'chartularylaw25.BundleBytes', WHERE WHAT IT READS IS OF BULK AT MOST 1048576: true; the input reads as it did. -/
def bundleBytesUptoRow : OpenClaim := { program := "ytoamlicfbmhajaa", sum := "75d6ff52f7e756a01ad4ecc7e6f82338d9f6ab58a1c49c55826fee8f2ce6b91b", func := "chartulary/chartularylaw25.BundleBytes", spec := "bundleBytes", apart := false, narrowed := true }
def BundleBytesUptoSaid : Prop := bundleBytesUptoRow.holds Try.pinned (OpenSpec.upto bundleBytesSpec)

/-- 'chartularylaw25.BundleReads', WHERE WHAT IT READS IS OF BULK AT MOST 1048576: true; the input reads as it did. -/
def bundleReadsUptoRow : OpenClaim := { program := "ytoamlicfbmhajaa", sum := "75d6ff52f7e756a01ad4ecc7e6f82338d9f6ab58a1c49c55826fee8f2ce6b91b", func := "chartulary/chartularylaw25.BundleReads", spec := "bundleReads", apart := false, narrowed := true }
def BundleReadsUptoSaid : Prop := bundleReadsUptoRow.holds Try.pinned (OpenSpec.upto bundleReadsSpec)

/-- 'chartularylaw27.ReportNobody', WHERE WHAT IT READS IS OF BULK AT MOST 1048576: true; the input reads as it did. -/
def reportNobodyUptoRow : OpenClaim := { program := "ytoamlicfbmhajaa", sum := "75d6ff52f7e756a01ad4ecc7e6f82338d9f6ab58a1c49c55826fee8f2ce6b91b", func := "chartulary/chartularylaw27.ReportNobody", spec := "reportNobody", inPlace := ["math.Float64bits", "math.Float64frombits"], apart := false, narrowed := true }
def ReportNobodyUptoSaid : Prop := reportNobodyUptoRow.holds Try.pinned (OpenSpec.upto reportNobodySpec)

/-- 'chartularylaw31.ForecastGaps', WHERE WHAT IT READS IS OF BULK AT MOST 1048576: true; the input reads as it did. -/
def forecastGapsUptoRow : OpenClaim := { program := "ytoamlicfbmhajaa", sum := "75d6ff52f7e756a01ad4ecc7e6f82338d9f6ab58a1c49c55826fee8f2ce6b91b", func := "chartulary/chartularylaw31.ForecastGaps", spec := "forecastGaps", unfollowed := true, recurses := true, apart := false, narrowed := true }
def ForecastGapsUptoSaid : Prop := forecastGapsUptoRow.holds Try.pinned (OpenSpec.upto forecastGapsSpec)

/-- 'chartularylaw31.ForecastLefts', WHERE WHAT IT READS IS OF BULK AT MOST 1048576: true; the input reads as it did. -/
def forecastLeftsUptoRow : OpenClaim := { program := "ytoamlicfbmhajaa", sum := "75d6ff52f7e756a01ad4ecc7e6f82338d9f6ab58a1c49c55826fee8f2ce6b91b", func := "chartulary/chartularylaw31.ForecastLefts", spec := "forecastLefts", unfollowed := true, recurses := true, apart := false, narrowed := true }
def ForecastLeftsUptoSaid : Prop := forecastLeftsUptoRow.holds Try.pinned (OpenSpec.upto forecastLeftsSpec)

/-- 'chartularylaw23.SayTokens', WHERE WHAT IT READS IS OF BULK AT MOST 1048576: true; the input reads as it did. -/
def sayTokensUptoRow : OpenClaim := { program := "ytoamlicfbmhajaa", sum := "75d6ff52f7e756a01ad4ecc7e6f82338d9f6ab58a1c49c55826fee8f2ce6b91b", func := "chartulary/chartularylaw23.SayTokens", spec := "sayTokens", inPlace := ["internal/bytealg.IndexByteString", "internal/abi.NoEscape"], unfollowed := true, recurses := true, apart := false, narrowed := true }
def SayTokensUptoSaid : Prop := sayTokensUptoRow.holds Try.pinned (OpenSpec.upto sayTokensSpec)

/-- 'chartularylaw23.SayLong', WHERE WHAT IT READS IS OF BULK AT MOST 1048576: true; the input reads as it did. -/
def sayLongUptoRow : OpenClaim := { program := "ytoamlicfbmhajaa", sum := "75d6ff52f7e756a01ad4ecc7e6f82338d9f6ab58a1c49c55826fee8f2ce6b91b", func := "chartulary/chartularylaw23.SayLong", spec := "sayLong", inPlace := ["internal/bytealg.IndexByteString", "internal/abi.NoEscape"], unfollowed := true, recurses := true, apart := false, narrowed := true }
def SayLongUptoSaid : Prop := sayLongUptoRow.holds Try.pinned (OpenSpec.upto sayLongSpec)

/-- 'chartularylaw23.SayQuotes', WHERE WHAT IT READS IS OF BULK AT MOST 1048576: true; the input reads as it did. -/
def sayQuotesUptoRow : OpenClaim := { program := "ytoamlicfbmhajaa", sum := "75d6ff52f7e756a01ad4ecc7e6f82338d9f6ab58a1c49c55826fee8f2ce6b91b", func := "chartulary/chartularylaw23.SayQuotes", spec := "sayQuotes", inPlace := ["internal/abi.NoEscape", "internal/bytealg.IndexByteString"], unfollowed := true, recurses := true, apart := false, narrowed := true }
def SayQuotesUptoSaid : Prop := sayQuotesUptoRow.holds Try.pinned (OpenSpec.upto sayQuotesSpec)

/-- 'chartularylaw15.PolicyReady', WHERE WHAT IT READS IS OF BULK AT MOST 1048576: true; the input reads as it did. -/
def policyReadyUptoRow : OpenClaim := { program := "ytoamlicfbmhajaa", sum := "75d6ff52f7e756a01ad4ecc7e6f82338d9f6ab58a1c49c55826fee8f2ce6b91b", func := "chartulary/chartularylaw15.PolicyReady", spec := "policyReady", unfollowed := true, recurses := true, apart := false, narrowed := true }
def PolicyReadyUptoSaid : Prop := policyReadyUptoRow.holds Try.pinned (OpenSpec.upto policyReadySpec)

/-- 'chartularylaw15.PolicyPlays', WHERE WHAT IT READS IS OF BULK AT MOST 1048576: true; the input reads as it did. -/
def policyPlaysUptoRow : OpenClaim := { program := "ytoamlicfbmhajaa", sum := "75d6ff52f7e756a01ad4ecc7e6f82338d9f6ab58a1c49c55826fee8f2ce6b91b", func := "chartulary/chartularylaw15.PolicyPlays", spec := "policyPlays", unfollowed := true, recurses := true, apart := false, narrowed := true }
def PolicyPlaysUptoSaid : Prop := policyPlaysUptoRow.holds Try.pinned (OpenSpec.upto policyPlaysSpec)

/-- 'chartularylaw23.SayValues', WHERE WHAT IT READS IS OF BULK AT MOST 1048576: true; the input reads as it did. -/
def sayValuesUptoRow : OpenClaim := { program := "ytoamlicfbmhajaa", sum := "75d6ff52f7e756a01ad4ecc7e6f82338d9f6ab58a1c49c55826fee8f2ce6b91b", func := "chartulary/chartularylaw23.SayValues", spec := "sayValues", inPlace := ["internal/abi.NoEscape", "internal/bytealg.IndexByteString"], unfollowed := true, recurses := true, apart := false, narrowed := true }
def SayValuesUptoSaid : Prop := sayValuesUptoRow.holds Try.pinned (OpenSpec.upto sayValuesSpec)

end Rows
end Go.Proofs.Ytoamlicfbmhajaa
