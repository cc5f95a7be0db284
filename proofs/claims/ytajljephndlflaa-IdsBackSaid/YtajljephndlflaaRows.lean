/-
  No cell of these rows narrows 'for every input' (looked for: loops, veiled, ifaces, maps, wideKeys, modest, calm, conditions, laid).
  DERIVED. THE GIVEN ROWS OF THIS SEAT. 5 by the template 'for every input the law returns true; each argument reads behind the call as it read before'; 0 by the template 'total and deterministic' (their statements: YtajljephndlflaaTotals.lean).
  GIVEN WITH THE SEED: the statements are not yours to turn. If you find one false, say at which input.
  Laid BY PROGRAM, IN A SANDBOX (cutbox-rows.mjs): the forced cells as the released guide's own fill.sh prints them over the translation f3dd01727f3b3731… (all of the seat's roots in one cut). By AI agents, Wed Nov 11 2026. No macro, syntax, notation, axiom, sorry.
-/
import Derived.Test.YtajljephndlflaaChecked
import GoSem.Claim
import GoSem.ClaimJoined
import GoSem.ClaimMapViews
import Derived.JoinedTies
import Derived.KernelRfl
namespace Go.Proofs.Ytajljephndlflaa
/- THE CELL 'sum', in the pinned program and in every row, IS THE sha256 OF THE DUMP (.gsa) THAT YtajljephndlflaaProg.lean LOADS. Nothing in Lean hashes anything: it is a label: what it is worth is what the hold of that sum in a sandbox is worth. -/
noncomputable def Try.pinned : Pinned := { name := "ytajljephndlflaa", sum := "f3dd01727f3b3731c5a9e2a26f8deb5ceaab57b88eb9fe9c5f4741e517184b54", checked := Try.checked }
namespace Rows
def none {H : Type} : Left H := { results := [], args := [] }

/-- 'teasellaw2.IdsUnlike': WHATEVER THE INPUT: true; the input reads as it did. -/
def idsUnlikeSpec : ChangeSpec := { name := "idsUnlike", fn := fun _ => fun
  | [d1, d2, d3] => { results := [.lit (.bool true)], args := [d1, d2, d3] }
  | _ => none }
def idsUnlikeRow : OpenClaim := { program := "ytajljephndlflaa", sum := "f3dd01727f3b3731c5a9e2a26f8deb5ceaab57b88eb9fe9c5f4741e517184b54", func := "teasel/teasellaw2.IdsUnlike", spec := "idsUnlike", apart := false }
def IdsUnlikeSaid : Prop := idsUnlikeRow.holds Try.pinned (OpenSpec.ofChange idsUnlikeSpec)

/-- ITS FALSE NEIGHBOUR: 'it returns false'. Refute it at one input. -/
def idsUnlikeWrong : ChangeSpec := { name := "idsUnlike", fn := fun _ => fun
  | [d1, d2, d3] => { results := [.lit (.bool false)], args := [d1, d2, d3] }
  | _ => none }
def IdsUnlikeWrongFalsely : Prop := idsUnlikeRow.holds Try.pinned (OpenSpec.ofChange idsUnlikeWrong)

/-- 'teasellaw2.IdsShards': WHATEVER THE INPUT: true; the input reads as it did. -/
def idsShardsSpec : ChangeSpec := { name := "idsShards", fn := fun _ => fun
  | [d1, d2, d3, d4] => { results := [.lit (.bool true)], args := [d1, d2, d3, d4] }
  | _ => none }
def idsShardsRow : OpenClaim := { program := "ytajljephndlflaa", sum := "f3dd01727f3b3731c5a9e2a26f8deb5ceaab57b88eb9fe9c5f4741e517184b54", func := "teasel/teasellaw2.IdsShards", spec := "idsShards", apart := false }
def IdsShardsSaid : Prop := idsShardsRow.holds Try.pinned (OpenSpec.ofChange idsShardsSpec)

/-- ITS FALSE NEIGHBOUR: 'it returns false'. Refute it at one input. -/
def idsShardsWrong : ChangeSpec := { name := "idsShards", fn := fun _ => fun
  | [d1, d2, d3, d4] => { results := [.lit (.bool false)], args := [d1, d2, d3, d4] }
  | _ => none }
def IdsShardsWrongFalsely : Prop := idsShardsRow.holds Try.pinned (OpenSpec.ofChange idsShardsWrong)

/-- 'teasellaw2.IdsNumbers': WHATEVER THE INPUT: true; the input reads as it did. -/
def idsNumbersSpec : ChangeSpec := { name := "idsNumbers", fn := fun _ => fun
  | [d1, d2, d3, d4, d5] => { results := [.lit (.bool true)], args := [d1, d2, d3, d4, d5] }
  | _ => none }
def idsNumbersRow : OpenClaim := { program := "ytajljephndlflaa", sum := "f3dd01727f3b3731c5a9e2a26f8deb5ceaab57b88eb9fe9c5f4741e517184b54", func := "teasel/teasellaw2.IdsNumbers", spec := "idsNumbers", apart := false }
def IdsNumbersSaid : Prop := idsNumbersRow.holds Try.pinned (OpenSpec.ofChange idsNumbersSpec)

/-- ITS FALSE NEIGHBOUR: 'it returns false'. Refute it at one input. -/
def idsNumbersWrong : ChangeSpec := { name := "idsNumbers", fn := fun _ => fun
  | [d1, d2, d3, d4, d5] => { results := [.lit (.bool false)], args := [d1, d2, d3, d4, d5] }
  | _ => none }
def IdsNumbersWrongFalsely : Prop := idsNumbersRow.holds Try.pinned (OpenSpec.ofChange idsNumbersWrong)

/-- 'teasellaw2.IdsTokens': WHATEVER THE INPUT: true; the input reads as it did. -/
def idsTokensSpec : ChangeSpec := { name := "idsTokens", fn := fun _ => fun
  | [d1, d2, d3] => { results := [.lit (.bool true)], args := [d1, d2, d3] }
  | _ => none }
def idsTokensRow : OpenClaim := { program := "ytajljephndlflaa", sum := "f3dd01727f3b3731c5a9e2a26f8deb5ceaab57b88eb9fe9c5f4741e517184b54", func := "teasel/teasellaw2.IdsTokens", spec := "idsTokens", unfollowed := true, recurses := true, apart := false }
def IdsTokensSaid : Prop := idsTokensRow.holds Try.pinned (OpenSpec.ofChange idsTokensSpec)

/-- ITS FALSE NEIGHBOUR: 'it returns false'. Refute it at one input. -/
def idsTokensWrong : ChangeSpec := { name := "idsTokens", fn := fun _ => fun
  | [d1, d2, d3] => { results := [.lit (.bool false)], args := [d1, d2, d3] }
  | _ => none }
def IdsTokensWrongFalsely : Prop := idsTokensRow.holds Try.pinned (OpenSpec.ofChange idsTokensWrong)

/-- 'teasellaw2.IdsBack': WHATEVER THE INPUT: true; the input reads as it did. -/
def idsBackSpec : ChangeSpec := { name := "idsBack", fn := fun _ => fun
  | [d1, d2, d3, d4, d5] => { results := [.lit (.bool true)], args := [d1, d2, d3, d4, d5] }
  | _ => none }
def idsBackRow : OpenClaim := { program := "ytajljephndlflaa", sum := "f3dd01727f3b3731c5a9e2a26f8deb5ceaab57b88eb9fe9c5f4741e517184b54", func := "teasel/teasellaw2.IdsBack", spec := "idsBack", unfollowed := true, recurses := true, apart := false }
def IdsBackSaid : Prop := idsBackRow.holds Try.pinned (OpenSpec.ofChange idsBackSpec)

/-- ITS FALSE NEIGHBOUR: 'it returns false'. Refute it at one input. -/
def idsBackWrong : ChangeSpec := { name := "idsBack", fn := fun _ => fun
  | [d1, d2, d3, d4, d5] => { results := [.lit (.bool false)], args := [d1, d2, d3, d4, d5] }
  | _ => none }
def IdsBackWrongFalsely : Prop := idsBackRow.holds Try.pinned (OpenSpec.ofChange idsBackWrong)

/- THE SECOND FORM. 'bulk': how many values and letters a reading holds, each counted each time it is reached (what is shared counts as often as it is met; a slice's spare places count too). A statement '..UptoSaid' is the law's where the arguments, and the package variables that the reading takes, are together of bulk at most 1048576: NARROWER than '..Said'. Prove '..Said' where nothing that the law and all that it calls make is longer than what came in: it says more and counts as full. Else prove '..UptoSaid'. A law counts once. -/
mutual
def uptoBulk {H : Type} : DataW H → Nat
  | .lit (.string bytes) => bytes.length + 1
  | .lit _ => 1
  | .nil => 1
  | .ptr d => uptoBulk d + 1
  | .slice elems spare => uptoBulkAll elems + uptoBulkAll spare + 1
  | .agg parts => uptoBulkAll parts + 1
  | .iface _ d => uptoBulk d + 1
  | .map entries => uptoBulkEntries entries + 1
  | .held _ => 1
def uptoBulkAll {H : Type} : List (DataW H) → Nat
  | [] => 0
  | d :: r => uptoBulk d + uptoBulkAll r
def uptoBulkEntries {H : Type} : List (Lit × DataW H) → Nat
  | [] => 0
  | x :: r => uptoBulkEntry x + uptoBulkEntries r
def uptoBulkEntry {H : Type} : Lit × DataW H → Nat
  | (.string bytes, d) => bytes.length + uptoBulk d + 1
  | (_, d) => uptoBulk d + 1
 end
def uptoSmall : (H : Type) → List (DataW H) → Bool := fun _ ds => decide (uptoBulkAll ds ≤ 1048576)
def OpenSpec.upto (s : _root_.Go.ChangeSpec) : _root_.Go.OpenSpec := { _root_.Go.OpenSpec.ofChange s with cond := some uptoSmall }

/-- 'teasellaw2.IdsUnlike', WHERE WHAT IT READS IS OF BULK AT MOST 1048576: true; the input reads as it did. -/
def idsUnlikeUptoRow : OpenClaim := { program := "ytajljephndlflaa", sum := "f3dd01727f3b3731c5a9e2a26f8deb5ceaab57b88eb9fe9c5f4741e517184b54", func := "teasel/teasellaw2.IdsUnlike", spec := "idsUnlike", apart := false, narrowed := true }
def IdsUnlikeUptoSaid : Prop := idsUnlikeUptoRow.holds Try.pinned (OpenSpec.upto idsUnlikeSpec)

/-- 'teasellaw2.IdsShards', WHERE WHAT IT READS IS OF BULK AT MOST 1048576: true; the input reads as it did. -/
def idsShardsUptoRow : OpenClaim := { program := "ytajljephndlflaa", sum := "f3dd01727f3b3731c5a9e2a26f8deb5ceaab57b88eb9fe9c5f4741e517184b54", func := "teasel/teasellaw2.IdsShards", spec := "idsShards", apart := false, narrowed := true }
def IdsShardsUptoSaid : Prop := idsShardsUptoRow.holds Try.pinned (OpenSpec.upto idsShardsSpec)

/-- 'teasellaw2.IdsNumbers', WHERE WHAT IT READS IS OF BULK AT MOST 1048576: true; the input reads as it did. -/
def idsNumbersUptoRow : OpenClaim := { program := "ytajljephndlflaa", sum := "f3dd01727f3b3731c5a9e2a26f8deb5ceaab57b88eb9fe9c5f4741e517184b54", func := "teasel/teasellaw2.IdsNumbers", spec := "idsNumbers", apart := false, narrowed := true }
def IdsNumbersUptoSaid : Prop := idsNumbersUptoRow.holds Try.pinned (OpenSpec.upto idsNumbersSpec)

/-- 'teasellaw2.IdsTokens', WHERE WHAT IT READS IS OF BULK AT MOST 1048576: true; the input reads as it did. -/
def idsTokensUptoRow : OpenClaim := { program := "ytajljephndlflaa", sum := "f3dd01727f3b3731c5a9e2a26f8deb5ceaab57b88eb9fe9c5f4741e517184b54", func := "teasel/teasellaw2.IdsTokens", spec := "idsTokens", unfollowed := true, recurses := true, apart := false, narrowed := true }
def IdsTokensUptoSaid : Prop := idsTokensUptoRow.holds Try.pinned (OpenSpec.upto idsTokensSpec)

/-- 'teasellaw2.IdsBack', WHERE WHAT IT READS IS OF BULK AT MOST 1048576: true; the input reads as it did. -/
def idsBackUptoRow : OpenClaim := { program := "ytajljephndlflaa", sum := "f3dd01727f3b3731c5a9e2a26f8deb5ceaab57b88eb9fe9c5f4741e517184b54", func := "teasel/teasellaw2.IdsBack", spec := "idsBack", unfollowed := true, recurses := true, apart := false, narrowed := true }
def IdsBackUptoSaid : Prop := idsBackUptoRow.holds Try.pinned (OpenSpec.upto idsBackSpec)

end Rows
end Go.Proofs.Ytajljephndlflaa
