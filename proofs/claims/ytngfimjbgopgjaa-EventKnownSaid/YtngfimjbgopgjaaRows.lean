/-
  No cell of these rows narrows 'for every input' (looked for: loops, veiled, ifaces, maps, wideKeys, modest, calm, conditions, laid).
  DERIVED. THE GIVEN ROWS OF THIS SEAT. 19 by the template 'for every input the law returns true; each argument reads behind the call as it read before'; 0 by the template 'total and deterministic' (their statements: YtngfimjbgopgjaaTotals.lean).
  GIVEN WITH THE SEED: the statements are not yours to turn. If you find one false, say at which input.
  Laid BY PROGRAM, IN A SANDBOX (cutbox-rows.mjs): the forced cells as the released guide's own fill.sh prints them over the translation 7bf73c9c463c6d29… (all of the seat's roots in one cut). By AI agents, Wed Nov 11 2026. No macro, syntax, notation, axiom, sorry.
-/
import Derived.Test.YtngfimjbgopgjaaChecked
import GoSem.Claim
import GoSem.ClaimJoined
import GoSem.ClaimMapViews
import Derived.JoinedTies
import Derived.KernelRfl
namespace Go.Proofs.Ytngfimjbgopgjaa
/- THE CELL 'sum', in the pinned program and in every row, IS THE sha256 OF THE DUMP (.gsa) THAT YtngfimjbgopgjaaProg.lean LOADS. Nothing in Lean hashes anything: it is a label: what it is worth is what the hold of that sum in a sandbox is worth. -/
noncomputable def Try.pinned : Pinned := { name := "ytngfimjbgopgjaa", sum := "7bf73c9c463c6d2936aacca39c85aae0553f516b0d33e667f64b0a41b1d78087", checked := Try.checked }
namespace Rows
def none {H : Type} : Left H := { results := [], args := [] }

/-- 'cutoverlaw8.VersionRises': WHATEVER THE INPUT: true; the input reads as it did. -/
def versionRisesSpec : ChangeSpec := { name := "versionRises", fn := fun _ => fun
  | [d1, d2, d3] => { results := [.lit (.bool true)], args := [d1, d2, d3] }
  | _ => none }
def versionRisesRow : OpenClaim := { program := "ytngfimjbgopgjaa", sum := "7bf73c9c463c6d2936aacca39c85aae0553f516b0d33e667f64b0a41b1d78087", func := "cutover/cutoverlaw8.VersionRises", spec := "versionRises", apart := false }
def VersionRisesSaid : Prop := versionRisesRow.holds Try.pinned (OpenSpec.ofChange versionRisesSpec)

/-- ITS FALSE NEIGHBOUR: 'it returns false'. Refute it at one input. -/
def versionRisesWrong : ChangeSpec := { name := "versionRises", fn := fun _ => fun
  | [d1, d2, d3] => { results := [.lit (.bool false)], args := [d1, d2, d3] }
  | _ => none }
def VersionRisesWrongFalsely : Prop := versionRisesRow.holds Try.pinned (OpenSpec.ofChange versionRisesWrong)

/-- 'cutoverlaw1.OctetLays': WHATEVER THE INPUT: true; the input reads as it did. -/
def octetLaysSpec : ChangeSpec := { name := "octetLays", fn := fun _ => fun
  | [d] => { results := [.lit (.bool true)], args := [d] }
  | _ => none }
def octetLaysRow : OpenClaim := { program := "ytngfimjbgopgjaa", sum := "7bf73c9c463c6d2936aacca39c85aae0553f516b0d33e667f64b0a41b1d78087", func := "cutover/cutoverlaw1.OctetLays", spec := "octetLays", apart := false }
def OctetLaysSaid : Prop := octetLaysRow.holds Try.pinned (OpenSpec.ofChange octetLaysSpec)

/-- ITS FALSE NEIGHBOUR: 'it returns false'. Refute it at one input. -/
def octetLaysWrong : ChangeSpec := { name := "octetLays", fn := fun _ => fun
  | [d] => { results := [.lit (.bool false)], args := [d] }
  | _ => none }
def OctetLaysWrongFalsely : Prop := octetLaysRow.holds Try.pinned (OpenSpec.ofChange octetLaysWrong)

/-- 'cutoverlaw8.VersionKnown': WHATEVER THE INPUT: true; the input reads as it did. -/
def versionKnownSpec : ChangeSpec := { name := "versionKnown", fn := fun _ => fun
  | [] => { results := [.lit (.bool true)], args := [] }
  | _ => none }
def versionKnownRow : OpenClaim := { program := "ytngfimjbgopgjaa", sum := "7bf73c9c463c6d2936aacca39c85aae0553f516b0d33e667f64b0a41b1d78087", func := "cutover/cutoverlaw8.VersionKnown", spec := "versionKnown", apart := false }
def VersionKnownSaid : Prop := versionKnownRow.holds Try.pinned (OpenSpec.ofChange versionKnownSpec)

/-- ITS FALSE NEIGHBOUR: 'it returns false'. Refute it at one input. -/
def versionKnownWrong : ChangeSpec := { name := "versionKnown", fn := fun _ => fun
  | [] => { results := [.lit (.bool false)], args := [] }
  | _ => none }
def VersionKnownWrongFalsely : Prop := versionKnownRow.holds Try.pinned (OpenSpec.ofChange versionKnownWrong)

/-- 'cutoverlaw8.VersionTells': WHATEVER THE INPUT: true; the input reads as it did. -/
def versionTellsSpec : ChangeSpec := { name := "versionTells", fn := fun _ => fun
  | [d1, d2, d3] => { results := [.lit (.bool true)], args := [d1, d2, d3] }
  | _ => none }
def versionTellsRow : OpenClaim := { program := "ytngfimjbgopgjaa", sum := "7bf73c9c463c6d2936aacca39c85aae0553f516b0d33e667f64b0a41b1d78087", func := "cutover/cutoverlaw8.VersionTells", spec := "versionTells", apart := false }
def VersionTellsSaid : Prop := versionTellsRow.holds Try.pinned (OpenSpec.ofChange versionTellsSpec)

/-- ITS FALSE NEIGHBOUR: 'it returns false'. Refute it at one input. -/
def versionTellsWrong : ChangeSpec := { name := "versionTells", fn := fun _ => fun
  | [d1, d2, d3] => { results := [.lit (.bool false)], args := [d1, d2, d3] }
  | _ => none }
def VersionTellsWrongFalsely : Prop := versionTellsRow.holds Try.pinned (OpenSpec.ofChange versionTellsWrong)

/-- 'cutoverlaw8.VersionChain': WHATEVER THE INPUT: true; the input reads as it did. -/
def versionChainSpec : ChangeSpec := { name := "versionChain", fn := fun _ => fun
  | [d1, d2] => { results := [.lit (.bool true)], args := [d1, d2] }
  | _ => none }
def versionChainRow : OpenClaim := { program := "ytngfimjbgopgjaa", sum := "7bf73c9c463c6d2936aacca39c85aae0553f516b0d33e667f64b0a41b1d78087", func := "cutover/cutoverlaw8.VersionChain", spec := "versionChain", apart := false }
def VersionChainSaid : Prop := versionChainRow.holds Try.pinned (OpenSpec.ofChange versionChainSpec)

/-- ITS FALSE NEIGHBOUR: 'it returns false'. Refute it at one input. -/
def versionChainWrong : ChangeSpec := { name := "versionChain", fn := fun _ => fun
  | [d1, d2] => { results := [.lit (.bool false)], args := [d1, d2] }
  | _ => none }
def VersionChainWrongFalsely : Prop := versionChainRow.holds Try.pinned (OpenSpec.ofChange versionChainWrong)

/-- 'cutoverlaw9.ItemsOf': WHATEVER THE INPUT: true; the input reads as it did. -/
def itemsOfSpec : ChangeSpec := { name := "itemsOf", fn := fun _ => fun
  | [d1, d2] => { results := [.lit (.bool true)], args := [d1, d2] }
  | _ => none }
def itemsOfRow : OpenClaim := { program := "ytngfimjbgopgjaa", sum := "7bf73c9c463c6d2936aacca39c85aae0553f516b0d33e667f64b0a41b1d78087", func := "cutover/cutoverlaw9.ItemsOf", spec := "itemsOf", apart := false }
def ItemsOfSaid : Prop := itemsOfRow.holds Try.pinned (OpenSpec.ofChange itemsOfSpec)

/-- ITS FALSE NEIGHBOUR: 'it returns false'. Refute it at one input. -/
def itemsOfWrong : ChangeSpec := { name := "itemsOf", fn := fun _ => fun
  | [d1, d2] => { results := [.lit (.bool false)], args := [d1, d2] }
  | _ => none }
def ItemsOfWrongFalsely : Prop := itemsOfRow.holds Try.pinned (OpenSpec.ofChange itemsOfWrong)

/-- 'cutoverlaw1.OctetKnown': WHATEVER THE INPUT: true; the input reads as it did. -/
def octetKnownSpec : ChangeSpec := { name := "octetKnown", fn := fun _ => fun
  | [] => { results := [.lit (.bool true)], args := [] }
  | _ => none }
def octetKnownRow : OpenClaim := { program := "ytngfimjbgopgjaa", sum := "7bf73c9c463c6d2936aacca39c85aae0553f516b0d33e667f64b0a41b1d78087", func := "cutover/cutoverlaw1.OctetKnown", spec := "octetKnown", apart := false }
def OctetKnownSaid : Prop := octetKnownRow.holds Try.pinned (OpenSpec.ofChange octetKnownSpec)

/-- ITS FALSE NEIGHBOUR: 'it returns false'. Refute it at one input. -/
def octetKnownWrong : ChangeSpec := { name := "octetKnown", fn := fun _ => fun
  | [] => { results := [.lit (.bool false)], args := [] }
  | _ => none }
def OctetKnownWrongFalsely : Prop := octetKnownRow.holds Try.pinned (OpenSpec.ofChange octetKnownWrong)

/-- 'cutoverlaw1.OctetReads': WHATEVER THE INPUT: true; the input reads as it did. -/
def octetReadsSpec : ChangeSpec := { name := "octetReads", fn := fun _ => fun
  | [d1, d2] => { results := [.lit (.bool true)], args := [d1, d2] }
  | _ => none }
def octetReadsRow : OpenClaim := { program := "ytngfimjbgopgjaa", sum := "7bf73c9c463c6d2936aacca39c85aae0553f516b0d33e667f64b0a41b1d78087", func := "cutover/cutoverlaw1.OctetReads", spec := "octetReads", apart := false }
def OctetReadsSaid : Prop := octetReadsRow.holds Try.pinned (OpenSpec.ofChange octetReadsSpec)

/-- ITS FALSE NEIGHBOUR: 'it returns false'. Refute it at one input. -/
def octetReadsWrong : ChangeSpec := { name := "octetReads", fn := fun _ => fun
  | [d1, d2] => { results := [.lit (.bool false)], args := [d1, d2] }
  | _ => none }
def OctetReadsWrongFalsely : Prop := octetReadsRow.holds Try.pinned (OpenSpec.ofChange octetReadsWrong)

/-- 'cutoverlaw1.OctetBack': WHATEVER THE INPUT: true; the input reads as it did. -/
def octetBackSpec : ChangeSpec := { name := "octetBack", fn := fun _ => fun
  | [d] => { results := [.lit (.bool true)], args := [d] }
  | _ => none }
def octetBackRow : OpenClaim := { program := "ytngfimjbgopgjaa", sum := "7bf73c9c463c6d2936aacca39c85aae0553f516b0d33e667f64b0a41b1d78087", func := "cutover/cutoverlaw1.OctetBack", spec := "octetBack", apart := false }
def OctetBackSaid : Prop := octetBackRow.holds Try.pinned (OpenSpec.ofChange octetBackSpec)

/-- ITS FALSE NEIGHBOUR: 'it returns false'. Refute it at one input. -/
def octetBackWrong : ChangeSpec := { name := "octetBack", fn := fun _ => fun
  | [d] => { results := [.lit (.bool false)], args := [d] }
  | _ => none }
def OctetBackWrongFalsely : Prop := octetBackRow.holds Try.pinned (OpenSpec.ofChange octetBackWrong)

/-- 'cutoverlaw1.OctetSizes': WHATEVER THE INPUT: true; the input reads as it did. -/
def octetSizesSpec : ChangeSpec := { name := "octetSizes", fn := fun _ => fun
  | [d1, d2, d3, d4, d5] => { results := [.lit (.bool true)], args := [d1, d2, d3, d4, d5] }
  | _ => none }
def octetSizesRow : OpenClaim := { program := "ytngfimjbgopgjaa", sum := "7bf73c9c463c6d2936aacca39c85aae0553f516b0d33e667f64b0a41b1d78087", func := "cutover/cutoverlaw1.OctetSizes", spec := "octetSizes", apart := false }
def OctetSizesSaid : Prop := octetSizesRow.holds Try.pinned (OpenSpec.ofChange octetSizesSpec)

/-- ITS FALSE NEIGHBOUR: 'it returns false'. Refute it at one input. -/
def octetSizesWrong : ChangeSpec := { name := "octetSizes", fn := fun _ => fun
  | [d1, d2, d3, d4, d5] => { results := [.lit (.bool false)], args := [d1, d2, d3, d4, d5] }
  | _ => none }
def OctetSizesWrongFalsely : Prop := octetSizesRow.holds Try.pinned (OpenSpec.ofChange octetSizesWrong)

/-- 'cutoverlaw22.NetOrder': WHATEVER THE INPUT: true; the input reads as it did. -/
def netOrderSpec : ChangeSpec := { name := "netOrder", fn := fun _ => fun
  | [d1, d2] => { results := [.lit (.bool true)], args := [d1, d2] }
  | _ => none }
def netOrderRow : OpenClaim := { program := "ytngfimjbgopgjaa", sum := "7bf73c9c463c6d2936aacca39c85aae0553f516b0d33e667f64b0a41b1d78087", func := "cutover/cutoverlaw22.NetOrder", spec := "netOrder", apart := false }
def NetOrderSaid : Prop := netOrderRow.holds Try.pinned (OpenSpec.ofChange netOrderSpec)

/-- ITS FALSE NEIGHBOUR: 'it returns false'. Refute it at one input. -/
def netOrderWrong : ChangeSpec := { name := "netOrder", fn := fun _ => fun
  | [d1, d2] => { results := [.lit (.bool false)], args := [d1, d2] }
  | _ => none }
def NetOrderWrongFalsely : Prop := netOrderRow.holds Try.pinned (OpenSpec.ofChange netOrderWrong)

/-- 'cutoverlaw9.ItemsCommon': WHATEVER THE INPUT: true; the input reads as it did. -/
def itemsCommonSpec : ChangeSpec := { name := "itemsCommon", fn := fun _ => fun
  | [d1, d2, d3] => { results := [.lit (.bool true)], args := [d1, d2, d3] }
  | _ => none }
def itemsCommonRow : OpenClaim := { program := "ytngfimjbgopgjaa", sum := "7bf73c9c463c6d2936aacca39c85aae0553f516b0d33e667f64b0a41b1d78087", func := "cutover/cutoverlaw9.ItemsCommon", spec := "itemsCommon", apart := false }
def ItemsCommonSaid : Prop := itemsCommonRow.holds Try.pinned (OpenSpec.ofChange itemsCommonSpec)

/-- ITS FALSE NEIGHBOUR: 'it returns false'. Refute it at one input. -/
def itemsCommonWrong : ChangeSpec := { name := "itemsCommon", fn := fun _ => fun
  | [d1, d2, d3] => { results := [.lit (.bool false)], args := [d1, d2, d3] }
  | _ => none }
def ItemsCommonWrongFalsely : Prop := itemsCommonRow.holds Try.pinned (OpenSpec.ofChange itemsCommonWrong)

/-- 'cutoverlaw22.NetKnown': WHATEVER THE INPUT: true; the input reads as it did. -/
def netKnownSpec : ChangeSpec := { name := "netKnown", fn := fun _ => fun
  | [] => { results := [.lit (.bool true)], args := [] }
  | _ => none }
def netKnownRow : OpenClaim := { program := "ytngfimjbgopgjaa", sum := "7bf73c9c463c6d2936aacca39c85aae0553f516b0d33e667f64b0a41b1d78087", func := "cutover/cutoverlaw22.NetKnown", spec := "netKnown", apart := false }
def NetKnownSaid : Prop := netKnownRow.holds Try.pinned (OpenSpec.ofChange netKnownSpec)

/-- ITS FALSE NEIGHBOUR: 'it returns false'. Refute it at one input. -/
def netKnownWrong : ChangeSpec := { name := "netKnown", fn := fun _ => fun
  | [] => { results := [.lit (.bool false)], args := [] }
  | _ => none }
def NetKnownWrongFalsely : Prop := netKnownRow.holds Try.pinned (OpenSpec.ofChange netKnownWrong)

/-- 'cutoverlaw22.NetPlays': WHATEVER THE INPUT: true; the input reads as it did. -/
def netPlaysSpec : ChangeSpec := { name := "netPlays", fn := fun _ => fun
  | [d] => { results := [.lit (.bool true)], args := [d] }
  | _ => none }
def netPlaysRow : OpenClaim := { program := "ytngfimjbgopgjaa", sum := "7bf73c9c463c6d2936aacca39c85aae0553f516b0d33e667f64b0a41b1d78087", func := "cutover/cutoverlaw22.NetPlays", spec := "netPlays", apart := false }
def NetPlaysSaid : Prop := netPlaysRow.holds Try.pinned (OpenSpec.ofChange netPlaysSpec)

/-- ITS FALSE NEIGHBOUR: 'it returns false'. Refute it at one input. -/
def netPlaysWrong : ChangeSpec := { name := "netPlays", fn := fun _ => fun
  | [d] => { results := [.lit (.bool false)], args := [d] }
  | _ => none }
def NetPlaysWrongFalsely : Prop := netPlaysRow.holds Try.pinned (OpenSpec.ofChange netPlaysWrong)

/-- 'cutoverlaw9.ItemsMeet': WHATEVER THE INPUT: true; the input reads as it did. -/
def itemsMeetSpec : ChangeSpec := { name := "itemsMeet", fn := fun _ => fun
  | [d1, d2, d3, d4] => { results := [.lit (.bool true)], args := [d1, d2, d3, d4] }
  | _ => none }
def itemsMeetRow : OpenClaim := { program := "ytngfimjbgopgjaa", sum := "7bf73c9c463c6d2936aacca39c85aae0553f516b0d33e667f64b0a41b1d78087", func := "cutover/cutoverlaw9.ItemsMeet", spec := "itemsMeet", apart := false }
def ItemsMeetSaid : Prop := itemsMeetRow.holds Try.pinned (OpenSpec.ofChange itemsMeetSpec)

/-- ITS FALSE NEIGHBOUR: 'it returns false'. Refute it at one input. -/
def itemsMeetWrong : ChangeSpec := { name := "itemsMeet", fn := fun _ => fun
  | [d1, d2, d3, d4] => { results := [.lit (.bool false)], args := [d1, d2, d3, d4] }
  | _ => none }
def ItemsMeetWrongFalsely : Prop := itemsMeetRow.holds Try.pinned (OpenSpec.ofChange itemsMeetWrong)

/-- 'cutoverlaw9.ItemsGrow': WHATEVER THE INPUT: true; the input reads as it did. -/
def itemsGrowSpec : ChangeSpec := { name := "itemsGrow", fn := fun _ => fun
  | [d1, d2] => { results := [.lit (.bool true)], args := [d1, d2] }
  | _ => none }
def itemsGrowRow : OpenClaim := { program := "ytngfimjbgopgjaa", sum := "7bf73c9c463c6d2936aacca39c85aae0553f516b0d33e667f64b0a41b1d78087", func := "cutover/cutoverlaw9.ItemsGrow", spec := "itemsGrow", apart := false }
def ItemsGrowSaid : Prop := itemsGrowRow.holds Try.pinned (OpenSpec.ofChange itemsGrowSpec)

/-- ITS FALSE NEIGHBOUR: 'it returns false'. Refute it at one input. -/
def itemsGrowWrong : ChangeSpec := { name := "itemsGrow", fn := fun _ => fun
  | [d1, d2] => { results := [.lit (.bool false)], args := [d1, d2] }
  | _ => none }
def ItemsGrowWrongFalsely : Prop := itemsGrowRow.holds Try.pinned (OpenSpec.ofChange itemsGrowWrong)

/-- 'cutoverlaw9.ItemsKnown': WHATEVER THE INPUT: true; the input reads as it did. -/
def itemsKnownSpec : ChangeSpec := { name := "itemsKnown", fn := fun _ => fun
  | [] => { results := [.lit (.bool true)], args := [] }
  | _ => none }
def itemsKnownRow : OpenClaim := { program := "ytngfimjbgopgjaa", sum := "7bf73c9c463c6d2936aacca39c85aae0553f516b0d33e667f64b0a41b1d78087", func := "cutover/cutoverlaw9.ItemsKnown", spec := "itemsKnown", apart := false }
def ItemsKnownSaid : Prop := itemsKnownRow.holds Try.pinned (OpenSpec.ofChange itemsKnownSpec)

/-- ITS FALSE NEIGHBOUR: 'it returns false'. Refute it at one input. -/
def itemsKnownWrong : ChangeSpec := { name := "itemsKnown", fn := fun _ => fun
  | [] => { results := [.lit (.bool false)], args := [] }
  | _ => none }
def ItemsKnownWrongFalsely : Prop := itemsKnownRow.holds Try.pinned (OpenSpec.ofChange itemsKnownWrong)

/-- 'cutoverlaw10.EventNames': WHATEVER THE INPUT: true; the input reads as it did. -/
def eventNamesSpec : ChangeSpec := { name := "eventNames", fn := fun _ => fun
  | [d1, d2, d3, d4] => { results := [.lit (.bool true)], args := [d1, d2, d3, d4] }
  | _ => none }
def eventNamesRow : OpenClaim := { program := "ytngfimjbgopgjaa", sum := "7bf73c9c463c6d2936aacca39c85aae0553f516b0d33e667f64b0a41b1d78087", func := "cutover/cutoverlaw10.EventNames", spec := "eventNames", unfollowed := true, recurses := true, apart := false }
def EventNamesSaid : Prop := eventNamesRow.holds Try.pinned (OpenSpec.ofChange eventNamesSpec)

/-- ITS FALSE NEIGHBOUR: 'it returns false'. Refute it at one input. -/
def eventNamesWrong : ChangeSpec := { name := "eventNames", fn := fun _ => fun
  | [d1, d2, d3, d4] => { results := [.lit (.bool false)], args := [d1, d2, d3, d4] }
  | _ => none }
def EventNamesWrongFalsely : Prop := eventNamesRow.holds Try.pinned (OpenSpec.ofChange eventNamesWrong)

/-- 'cutoverlaw10.EventKnown': WHATEVER THE INPUT: true; the input reads as it did. -/
def eventKnownSpec : ChangeSpec := { name := "eventKnown", fn := fun _ => fun
  | [] => { results := [.lit (.bool true)], args := [] }
  | _ => none }
def eventKnownRow : OpenClaim := { program := "ytngfimjbgopgjaa", sum := "7bf73c9c463c6d2936aacca39c85aae0553f516b0d33e667f64b0a41b1d78087", func := "cutover/cutoverlaw10.EventKnown", spec := "eventKnown", unfollowed := true, recurses := true, apart := false }
def EventKnownSaid : Prop := eventKnownRow.holds Try.pinned (OpenSpec.ofChange eventKnownSpec)

/-- ITS FALSE NEIGHBOUR: 'it returns false'. Refute it at one input. -/
def eventKnownWrong : ChangeSpec := { name := "eventKnown", fn := fun _ => fun
  | [] => { results := [.lit (.bool false)], args := [] }
  | _ => none }
def EventKnownWrongFalsely : Prop := eventKnownRow.holds Try.pinned (OpenSpec.ofChange eventKnownWrong)

/- THE SECOND FORM. 'bulk': how many values and letters a reading holds, each counted each time it is reached (what is shared counts as often as it is met; a slice's spare places count too). A statement '..UptoSaid' is the law's where the arguments, and the package variables that the reading takes, are together of bulk at most 1048576: NARROWER than '..Said'. Prove '..Said' where nothing that the law and all that it calls make is longer than what came in: it says more and counts as full. Else prove '..UptoSaid'. A law counts once. -/
mutual
def uptoBulk {H : Type} : DataW H → Nat
  | .lit (.string bytes) => bytes.length + 1
  | .lit _ => 1
  | .nil => 1
  | .ptr d => uptoBulk d + 1
  | .slice elems spare => uptoBulkAll elems + uptoBulkAll spare + 1
  | .agg parts => uptoBulkAll parts + 1
  | .iface _ d => uptoBulk d + 1
  | .map entries => uptoBulkEntries entries + 1
  | .held _ => 1
def uptoBulkAll {H : Type} : List (DataW H) → Nat
  | [] => 0
  | d :: r => uptoBulk d + uptoBulkAll r
def uptoBulkEntries {H : Type} : List (Lit × DataW H) → Nat
  | [] => 0
  | x :: r => uptoBulkEntry x + uptoBulkEntries r
def uptoBulkEntry {H : Type} : Lit × DataW H → Nat
  | (.string bytes, d) => bytes.length + uptoBulk d + 1
  | (_, d) => uptoBulk d + 1
 end
def uptoSmall : (H : Type) → List (DataW H) → Bool := fun _ ds => decide (uptoBulkAll ds ≤ 1048576)
def OpenSpec.upto (s : _root_.Go.ChangeSpec) : _root_.Go.OpenSpec := { _root_.Go.OpenSpec.ofChange s with cond := some uptoSmall }

/-- 'cutoverlaw8.VersionRises', WHERE WHAT IT READS IS OF BULK AT MOST 1048576: true; the input reads as it did. -/
def versionRisesUptoRow : OpenClaim := { program := "ytngfimjbgopgjaa", sum := "7bf73c9c463c6d2936aacca39c85aae0553f516b0d33e667f64b0a41b1d78087", func := "cutover/cutoverlaw8.VersionRises", spec := "versionRises", apart := false, narrowed := true }
def VersionRisesUptoSaid : Prop := versionRisesUptoRow.holds Try.pinned (OpenSpec.upto versionRisesSpec)

/-- 'cutoverlaw1.OctetLays', WHERE WHAT IT READS IS OF BULK AT MOST 1048576: true; the input reads as it did. -/
def octetLaysUptoRow : OpenClaim := { program := "ytngfimjbgopgjaa", sum := "7bf73c9c463c6d2936aacca39c85aae0553f516b0d33e667f64b0a41b1d78087", func := "cutover/cutoverlaw1.OctetLays", spec := "octetLays", apart := false, narrowed := true }
def OctetLaysUptoSaid : Prop := octetLaysUptoRow.holds Try.pinned (OpenSpec.upto octetLaysSpec)

/-- 'cutoverlaw8.VersionKnown', WHERE WHAT IT READS IS OF BULK AT MOST 1048576: true; the input reads as it did. -/
def versionKnownUptoRow : OpenClaim := { program := "ytngfimjbgopgjaa", sum := "7bf73c9c463c6d2936aacca39c85aae0553f516b0d33e667f64b0a41b1d78087", func := "cutover/cutoverlaw8.VersionKnown", spec := "versionKnown", apart := false, narrowed := true }
def VersionKnownUptoSaid : Prop := versionKnownUptoRow.holds Try.pinned (OpenSpec.upto versionKnownSpec)

/-- 'cutoverlaw8.VersionTells', WHERE WHAT IT READS IS OF BULK AT MOST 1048576: true; the input reads as it did. -/
def versionTellsUptoRow : OpenClaim := { program := "ytngfimjbgopgjaa", sum := "7bf73c9c463c6d2936aacca39c85aae0553f516b0d33e667f64b0a41b1d78087", func := "cutover/cutoverlaw8.VersionTells", spec := "versionTells", apart := false, narrowed := true }
def VersionTellsUptoSaid : Prop := versionTellsUptoRow.holds Try.pinned (OpenSpec.upto versionTellsSpec)

/-- 'cutoverlaw8.VersionChain', WHERE WHAT IT READS IS OF BULK AT MOST 1048576: true; the input reads as it did. -/
def versionChainUptoRow : OpenClaim := { program := "ytngfimjbgopgjaa", sum := "7bf73c9c463c6d2936aacca39c85aae0553f516b0d33e667f64b0a41b1d78087", func := "cutover/cutoverlaw8.VersionChain", spec := "versionChain", apart := false, narrowed := true }
def VersionChainUptoSaid : Prop := versionChainUptoRow.holds Try.pinned (OpenSpec.upto versionChainSpec)

/-- 'cutoverlaw9.ItemsOf', WHERE WHAT IT READS IS OF BULK AT MOST 1048576: true; the input reads as it did. -/
def itemsOfUptoRow : OpenClaim := { program := "ytngfimjbgopgjaa", sum := "7bf73c9c463c6d2936aacca39c85aae0553f516b0d33e667f64b0a41b1d78087", func := "cutover/cutoverlaw9.ItemsOf", spec := "itemsOf", apart := false, narrowed := true }
def ItemsOfUptoSaid : Prop := itemsOfUptoRow.holds Try.pinned (OpenSpec.upto itemsOfSpec)

/-- 'cutoverlaw1.OctetKnown', WHERE WHAT IT READS IS OF BULK AT MOST 1048576: true; the input reads as it did. -/
def octetKnownUptoRow : OpenClaim := { program := "ytngfimjbgopgjaa", sum := "7bf73c9c463c6d2936aacca39c85aae0553f516b0d33e667f64b0a41b1d78087", func := "cutover/cutoverlaw1.OctetKnown", spec := "octetKnown", apart := false, narrowed := true }
def OctetKnownUptoSaid : Prop := octetKnownUptoRow.holds Try.pinned (OpenSpec.upto octetKnownSpec)

/-- 'cutoverlaw1.OctetReads', WHERE WHAT IT READS IS OF BULK AT MOST 1048576: true; the input reads as it did. -/
def octetReadsUptoRow : OpenClaim := { program := "ytngfimjbgopgjaa", sum := "7bf73c9c463c6d2936aacca39c85aae0553f516b0d33e667f64b0a41b1d78087", func := "cutover/cutoverlaw1.OctetReads", spec := "octetReads", apart := false, narrowed := true }
def OctetReadsUptoSaid : Prop := octetReadsUptoRow.holds Try.pinned (OpenSpec.upto octetReadsSpec)

/-- 'cutoverlaw1.OctetBack', WHERE WHAT IT READS IS OF BULK AT MOST 1048576: true; the input reads as it did. -/
def octetBackUptoRow : OpenClaim := { program := "ytngfimjbgopgjaa", sum := "7bf73c9c463c6d2936aacca39c85aae0553f516b0d33e667f64b0a41b1d78087", func := "cutover/cutoverlaw1.OctetBack", spec := "octetBack", apart := false, narrowed := true }
def OctetBackUptoSaid : Prop := octetBackUptoRow.holds Try.pinned (OpenSpec.upto octetBackSpec)

/-- 'cutoverlaw1.OctetSizes', WHERE WHAT IT READS IS OF BULK AT MOST 1048576: true; the input reads as it did. -/
def octetSizesUptoRow : OpenClaim := { program := "ytngfimjbgopgjaa", sum := "7bf73c9c463c6d2936aacca39c85aae0553f516b0d33e667f64b0a41b1d78087", func := "cutover/cutoverlaw1.OctetSizes", spec := "octetSizes", apart := false, narrowed := true }
def OctetSizesUptoSaid : Prop := octetSizesUptoRow.holds Try.pinned (OpenSpec.upto octetSizesSpec)

/-- 'cutoverlaw22.NetOrder', WHERE WHAT IT READS IS OF BULK AT MOST 1048576: true; the input reads as it did. -/
def netOrderUptoRow : OpenClaim := { program := "ytngfimjbgopgjaa", sum := "7bf73c9c463c6d2936aacca39c85aae0553f516b0d33e667f64b0a41b1d78087", func := "cutover/cutoverlaw22.NetOrder", spec := "netOrder", apart := false, narrowed := true }
def NetOrderUptoSaid : Prop := netOrderUptoRow.holds Try.pinned (OpenSpec.upto netOrderSpec)

/-- 'cutoverlaw9.ItemsCommon', WHERE WHAT IT READS IS OF BULK AT MOST 1048576: true; the input reads as it did. -/
def itemsCommonUptoRow : OpenClaim := { program := "ytngfimjbgopgjaa", sum := "7bf73c9c463c6d2936aacca39c85aae0553f516b0d33e667f64b0a41b1d78087", func := "cutover/cutoverlaw9.ItemsCommon", spec := "itemsCommon", apart := false, narrowed := true }
def ItemsCommonUptoSaid : Prop := itemsCommonUptoRow.holds Try.pinned (OpenSpec.upto itemsCommonSpec)

/-- 'cutoverlaw22.NetKnown', WHERE WHAT IT READS IS OF BULK AT MOST 1048576: true; the input reads as it did. -/
def netKnownUptoRow : OpenClaim := { program := "ytngfimjbgopgjaa", sum := "7bf73c9c463c6d2936aacca39c85aae0553f516b0d33e667f64b0a41b1d78087", func := "cutover/cutoverlaw22.NetKnown", spec := "netKnown", apart := false, narrowed := true }
def NetKnownUptoSaid : Prop := netKnownUptoRow.holds Try.pinned (OpenSpec.upto netKnownSpec)

/-- 'cutoverlaw22.NetPlays', WHERE WHAT IT READS IS OF BULK AT MOST 1048576: true; the input reads as it did. -/
def netPlaysUptoRow : OpenClaim := { program := "ytngfimjbgopgjaa", sum := "7bf73c9c463c6d2936aacca39c85aae0553f516b0d33e667f64b0a41b1d78087", func := "cutover/cutoverlaw22.NetPlays", spec := "netPlays", apart := false, narrowed := true }
def NetPlaysUptoSaid : Prop := netPlaysUptoRow.holds Try.pinned (OpenSpec.upto netPlaysSpec)

/-- 'cutoverlaw9.ItemsMeet', WHERE WHAT IT READS IS OF BULK AT MOST 1048576: true; the input reads as it did. -/
def itemsMeetUptoRow : OpenClaim := { program := "ytngfimjbgopgjaa", sum := "7bf73c9c463c6d2936aacca39c85aae0553f516b0d33e667f64b0a41b1d78087", func := "cutover/cutoverlaw9.ItemsMeet", spec := "itemsMeet", apart := false, narrowed := true }
def ItemsMeetUptoSaid : Prop := itemsMeetUptoRow.holds Try.pinned (OpenSpec.upto itemsMeetSpec)

/-- 'cutoverlaw9.ItemsGrow', WHERE WHAT IT READS IS OF BULK AT MOST 1048576: true; the input reads as it did. -/
def itemsGrowUptoRow : OpenClaim := { program := "ytngfimjbgopgjaa", sum := "7bf73c9c463c6d2936aacca39c85aae0553f516b0d33e667f64b0a41b1d78087", func := "cutover/cutoverlaw9.ItemsGrow", spec := "itemsGrow", apart := false, narrowed := true }
def ItemsGrowUptoSaid : Prop := itemsGrowUptoRow.holds Try.pinned (OpenSpec.upto itemsGrowSpec)

/-- 'cutoverlaw9.ItemsKnown', WHERE WHAT IT READS IS OF BULK AT MOST 1048576: true; the input reads as it did. -/
def itemsKnownUptoRow : OpenClaim := { program := "ytngfimjbgopgjaa", sum := "7bf73c9c463c6d2936aacca39c85aae0553f516b0d33e667f64b0a41b1d78087", func := "cutover/cutoverlaw9.ItemsKnown", spec := "itemsKnown", apart := false, narrowed := true }
def ItemsKnownUptoSaid : Prop := itemsKnownUptoRow.holds Try.pinned (OpenSpec.upto itemsKnownSpec)

/-- 'cutoverlaw10.EventNames', WHERE WHAT IT READS IS OF BULK AT MOST 1048576: true; the input reads as it did. -/
def eventNamesUptoRow : OpenClaim := { program := "ytngfimjbgopgjaa", sum := "7bf73c9c463c6d2936aacca39c85aae0553f516b0d33e667f64b0a41b1d78087", func := "cutover/cutoverlaw10.EventNames", spec := "eventNames", unfollowed := true, recurses := true, apart := false, narrowed := true }
def EventNamesUptoSaid : Prop := eventNamesUptoRow.holds Try.pinned (OpenSpec.upto eventNamesSpec)

/-- 'cutoverlaw10.EventKnown', WHERE WHAT IT READS IS OF BULK AT MOST 1048576: true; the input reads as it did. -/
def eventKnownUptoRow : OpenClaim := { program := "ytngfimjbgopgjaa", sum := "7bf73c9c463c6d2936aacca39c85aae0553f516b0d33e667f64b0a41b1d78087", func := "cutover/cutoverlaw10.EventKnown", spec := "eventKnown", unfollowed := true, recurses := true, apart := false, narrowed := true }
def EventKnownUptoSaid : Prop := eventKnownUptoRow.holds Try.pinned (OpenSpec.upto eventKnownSpec)

end Rows
end Go.Proofs.Ytngfimjbgopgjaa
