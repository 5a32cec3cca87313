/-
  No cell of these rows narrows 'for every input' (looked for: loops, veiled, ifaces, maps, wideKeys, modest, calm, conditions, laid).
  DERIVED. THE GIVEN ROWS OF THIS SEAT. 6 by the template 'for every input the law returns true; each argument reads behind the call as it read before'; 0 by the template 'total and deterministic' (their statements: YtgjjdfhoakailaaGreatTotals.lean).
  GIVEN WITH THE SEED: the statements are not yours to turn. If you find one false, say at which input.
  Laid BY PROGRAM, IN A SANDBOX (cutbox-rows.mjs): the forced cells as the released guide's own fill.sh prints them over the translation 2be006563f6cf0a0… (all of the seat's roots in one cut). By AI agents, Wed Nov 11 2026. No macro, syntax, notation, axiom, sorry.
-/
import Derived.Test.YtgjjdfhoakailaaGreatChecked
import GoSem.Claim
import GoSem.ClaimJoined
import GoSem.ClaimMapViews
import Derived.JoinedTies
import Derived.KernelRfl
namespace Go.Proofs.YtgjjdfhoakailaaGreat
/- THE CELL 'sum', in the pinned program and in every row, IS THE sha256 OF THE DUMP (.gsa) THAT YtgjjdfhoakailaaGreatProg.lean LOADS. Nothing in Lean hashes anything: it is a label: what it is worth is what the hold of that sum in a sandbox is worth. -/
noncomputable def Tryz.pinned : Pinned := { name := "ytgjjdfhoakailaagreat", sum := "2be006563f6cf0a0b913b737bdc00dbb7fb1c29d877e45bf9cd0b64325ba3829", checked := Tryz.checked }
namespace Rows
def none {H : Type} : Left H := { results := [], args := [] }

/-- 'peatbanklaw26.StateDoes': WHATEVER THE INPUT: true; the input reads as it did. -/
def stateDoesSpec : ChangeSpec := { name := "stateDoes", fn := fun _ => fun
  | [d1, d2] => { results := [.lit (.bool true)], args := [d1, d2] }
  | _ => none }
def stateDoesRow : OpenClaim := { program := "ytgjjdfhoakailaagreat", sum := "2be006563f6cf0a0b913b737bdc00dbb7fb1c29d877e45bf9cd0b64325ba3829", func := "peatbank/peatbanklaw26.StateDoes", spec := "stateDoes", inPlace := ["internal/bytealg.Compare"], unfollowed := true, recurses := true, plainKeys := false, apart := false }
def StateDoesSaid : Prop := stateDoesRow.holds Tryz.pinned (OpenSpec.ofChange stateDoesSpec)

/-- ITS FALSE NEIGHBOUR: 'it returns false'. Refute it at one input. -/
def stateDoesWrong : ChangeSpec := { name := "stateDoes", fn := fun _ => fun
  | [d1, d2] => { results := [.lit (.bool false)], args := [d1, d2] }
  | _ => none }
def StateDoesWrongFalsely : Prop := stateDoesRow.holds Tryz.pinned (OpenSpec.ofChange stateDoesWrong)

/-- 'peatbanklaw26.StateChecks': WHATEVER THE INPUT: true; the input reads as it did. -/
def stateChecksSpec : ChangeSpec := { name := "stateChecks", fn := fun _ => fun
  | [d1, d2, d3] => { results := [.lit (.bool true)], args := [d1, d2, d3] }
  | _ => none }
def stateChecksRow : OpenClaim := { program := "ytgjjdfhoakailaagreat", sum := "2be006563f6cf0a0b913b737bdc00dbb7fb1c29d877e45bf9cd0b64325ba3829", func := "peatbank/peatbanklaw26.StateChecks", spec := "stateChecks", inPlace := ["internal/bytealg.Compare"], unfollowed := true, recurses := true, plainKeys := false, apart := false }
def StateChecksSaid : Prop := stateChecksRow.holds Tryz.pinned (OpenSpec.ofChange stateChecksSpec)

/-- ITS FALSE NEIGHBOUR: 'it returns false'. Refute it at one input. -/
def stateChecksWrong : ChangeSpec := { name := "stateChecks", fn := fun _ => fun
  | [d1, d2, d3] => { results := [.lit (.bool false)], args := [d1, d2, d3] }
  | _ => none }
def StateChecksWrongFalsely : Prop := stateChecksRow.holds Tryz.pinned (OpenSpec.ofChange stateChecksWrong)

/-- 'peatbanklaw26.StateNone': WHATEVER THE INPUT: true; the input reads as it did. -/
def stateNoneSpec : ChangeSpec := { name := "stateNone", fn := fun _ => fun
  | [d] => { results := [.lit (.bool true)], args := [d] }
  | _ => none }
def stateNoneRow : OpenClaim := { program := "ytgjjdfhoakailaagreat", sum := "2be006563f6cf0a0b913b737bdc00dbb7fb1c29d877e45bf9cd0b64325ba3829", func := "peatbank/peatbanklaw26.StateNone", spec := "stateNone", inPlace := ["internal/bytealg.Compare"], unfollowed := true, recurses := true, plainKeys := false, apart := false }
def StateNoneSaid : Prop := stateNoneRow.holds Tryz.pinned (OpenSpec.ofChange stateNoneSpec)

/-- ITS FALSE NEIGHBOUR: 'it returns false'. Refute it at one input. -/
def stateNoneWrong : ChangeSpec := { name := "stateNone", fn := fun _ => fun
  | [d] => { results := [.lit (.bool false)], args := [d] }
  | _ => none }
def StateNoneWrongFalsely : Prop := stateNoneRow.holds Tryz.pinned (OpenSpec.ofChange stateNoneWrong)

/-- 'peatbanklaw26.StateKeeps': WHATEVER THE INPUT: true; the input reads as it did. -/
def stateKeepsSpec : ChangeSpec := { name := "stateKeeps", fn := fun _ => fun
  | [d] => { results := [.lit (.bool true)], args := [d] }
  | _ => none }
def stateKeepsRow : OpenClaim := { program := "ytgjjdfhoakailaagreat", sum := "2be006563f6cf0a0b913b737bdc00dbb7fb1c29d877e45bf9cd0b64325ba3829", func := "peatbank/peatbanklaw26.StateKeeps", spec := "stateKeeps", inPlace := ["internal/bytealg.Compare"], unfollowed := true, recurses := true, plainKeys := false, apart := false }
def StateKeepsSaid : Prop := stateKeepsRow.holds Tryz.pinned (OpenSpec.ofChange stateKeepsSpec)

/-- ITS FALSE NEIGHBOUR: 'it returns false'. Refute it at one input. -/
def stateKeepsWrong : ChangeSpec := { name := "stateKeeps", fn := fun _ => fun
  | [d] => { results := [.lit (.bool false)], args := [d] }
  | _ => none }
def StateKeepsWrongFalsely : Prop := stateKeepsRow.holds Tryz.pinned (OpenSpec.ofChange stateKeepsWrong)

/-- 'peatbanklaw26.StateOf': WHATEVER THE INPUT: true; the input reads as it did. -/
def stateOfSpec : ChangeSpec := { name := "stateOf", fn := fun _ => fun
  | [d1, d2] => { results := [.lit (.bool true)], args := [d1, d2] }
  | _ => none }
def stateOfRow : OpenClaim := { program := "ytgjjdfhoakailaagreat", sum := "2be006563f6cf0a0b913b737bdc00dbb7fb1c29d877e45bf9cd0b64325ba3829", func := "peatbank/peatbanklaw26.StateOf", spec := "stateOf", inPlace := ["internal/bytealg.Compare"], unfollowed := true, recurses := true, plainKeys := false, apart := false }
def StateOfSaid : Prop := stateOfRow.holds Tryz.pinned (OpenSpec.ofChange stateOfSpec)

/-- ITS FALSE NEIGHBOUR: 'it returns false'. Refute it at one input. -/
def stateOfWrong : ChangeSpec := { name := "stateOf", fn := fun _ => fun
  | [d1, d2] => { results := [.lit (.bool false)], args := [d1, d2] }
  | _ => none }
def StateOfWrongFalsely : Prop := stateOfRow.holds Tryz.pinned (OpenSpec.ofChange stateOfWrong)

/-- 'peatbanklaw26.StateBack': WHATEVER THE INPUT: true; the input reads as it did. -/
def stateBackSpec : ChangeSpec := { name := "stateBack", fn := fun _ => fun
  | [d1, d2, d3] => { results := [.lit (.bool true)], args := [d1, d2, d3] }
  | _ => none }
def stateBackRow : OpenClaim := { program := "ytgjjdfhoakailaagreat", sum := "2be006563f6cf0a0b913b737bdc00dbb7fb1c29d877e45bf9cd0b64325ba3829", func := "peatbank/peatbanklaw26.StateBack", spec := "stateBack", inPlace := ["internal/bytealg.Compare"], unfollowed := true, recurses := true, plainKeys := false, apart := false }
def StateBackSaid : Prop := stateBackRow.holds Tryz.pinned (OpenSpec.ofChange stateBackSpec)

/-- ITS FALSE NEIGHBOUR: 'it returns false'. Refute it at one input. -/
def stateBackWrong : ChangeSpec := { name := "stateBack", fn := fun _ => fun
  | [d1, d2, d3] => { results := [.lit (.bool false)], args := [d1, d2, d3] }
  | _ => none }
def StateBackWrongFalsely : Prop := stateBackRow.holds Tryz.pinned (OpenSpec.ofChange stateBackWrong)

/- THE SECOND FORM. 'bulk': how many values and letters a reading holds, each counted each time it is reached (what is shared counts as often as it is met; a slice's spare places count too). A statement '..UptoSaid' is the law's where the arguments, and the package variables that the reading takes, are together of bulk at most 1048576: NARROWER than '..Said'. Prove '..Said' where nothing that the law and all that it calls make is longer than what came in: it says more and counts as full. Else prove '..UptoSaid'. A law counts once. -/
mutual
def uptoBulk {H : Type} : DataW H → Nat
  | .lit (.string bytes) => bytes.length + 1
  | .lit _ => 1
  | .nil => 1
  | .ptr d => uptoBulk d + 1
  | .slice elems spare => uptoBulkAll elems + uptoBulkAll spare + 1
  | .agg parts => uptoBulkAll parts + 1
  | .iface _ d => uptoBulk d + 1
  | .map entries => uptoBulkEntries entries + 1
  | .held _ => 1
def uptoBulkAll {H : Type} : List (DataW H) → Nat
  | [] => 0
  | d :: r => uptoBulk d + uptoBulkAll r
def uptoBulkEntries {H : Type} : List (Lit × DataW H) → Nat
  | [] => 0
  | x :: r => uptoBulkEntry x + uptoBulkEntries r
def uptoBulkEntry {H : Type} : Lit × DataW H → Nat
  | (.string bytes, d) => bytes.length + uptoBulk d + 1
  | (_, d) => uptoBulk d + 1
 end
def uptoSmall : (H : Type) → List (DataW H) → Bool := fun _ ds => decide (uptoBulkAll ds ≤ 1048576)
def OpenSpec.upto (s : _root_.Go.ChangeSpec) : _root_.Go.OpenSpec := { _root_.Go.OpenSpec.ofChange s with cond := some uptoSmall }

/-- 'peatbanklaw26.StateDoes', WHERE WHAT IT READS IS OF BULK AT MOST 1048576: true; the input reads as it did. -/
def stateDoesUptoRow : OpenClaim := { program := "ytgjjdfhoakailaagreat", sum := "2be006563f6cf0a0b913b737bdc00dbb7fb1c29d877e45bf9cd0b64325ba3829", func := "peatbank/peatbanklaw26.StateDoes", spec := "stateDoes", inPlace := ["internal/bytealg.Compare"], unfollowed := true, recurses := true, plainKeys := false, apart := false, narrowed := true }
def StateDoesUptoSaid : Prop := stateDoesUptoRow.holds Tryz.pinned (OpenSpec.upto stateDoesSpec)

/-- 'peatbanklaw26.StateChecks', WHERE WHAT IT READS IS OF BULK AT MOST 1048576: true; the input reads as it did. -/
def stateChecksUptoRow : OpenClaim := { program := "ytgjjdfhoakailaagreat", sum := "2be006563f6cf0a0b913b737bdc00dbb7fb1c29d877e45bf9cd0b64325ba3829", func := "peatbank/peatbanklaw26.StateChecks", spec := "stateChecks", inPlace := ["internal/bytealg.Compare"], unfollowed := true, recurses := true, plainKeys := false, apart := false, narrowed := true }
def StateChecksUptoSaid : Prop := stateChecksUptoRow.holds Tryz.pinned (OpenSpec.upto stateChecksSpec)

/-- 'peatbanklaw26.StateNone', WHERE WHAT IT READS IS OF BULK AT MOST 1048576: true; the input reads as it did. -/
def stateNoneUptoRow : OpenClaim := { program := "ytgjjdfhoakailaagreat", sum := "2be006563f6cf0a0b913b737bdc00dbb7fb1c29d877e45bf9cd0b64325ba3829", func := "peatbank/peatbanklaw26.StateNone", spec := "stateNone", inPlace := ["internal/bytealg.Compare"], unfollowed := true, recurses := true, plainKeys := false, apart := false, narrowed := true }
def StateNoneUptoSaid : Prop := stateNoneUptoRow.holds Tryz.pinned (OpenSpec.upto stateNoneSpec)

/-- 'peatbanklaw26.StateKeeps', WHERE WHAT IT READS IS OF BULK AT MOST 1048576: true; the input reads as it did. -/
def stateKeepsUptoRow : OpenClaim := { program := "ytgjjdfhoakailaagreat", sum := "2be006563f6cf0a0b913b737bdc00dbb7fb1c29d877e45bf9cd0b64325ba3829", func := "peatbank/peatbanklaw26.StateKeeps", spec := "stateKeeps", inPlace := ["internal/bytealg.Compare"], unfollowed := true, recurses := true, plainKeys := false, apart := false, narrowed := true }
def StateKeepsUptoSaid : Prop := stateKeepsUptoRow.holds Tryz.pinned (OpenSpec.upto stateKeepsSpec)

/-- 'peatbanklaw26.StateOf', WHERE WHAT IT READS IS OF BULK AT MOST 1048576: true; the input reads as it did. -/
def stateOfUptoRow : OpenClaim := { program := "ytgjjdfhoakailaagreat", sum := "2be006563f6cf0a0b913b737bdc00dbb7fb1c29d877e45bf9cd0b64325ba3829", func := "peatbank/peatbanklaw26.StateOf", spec := "stateOf", inPlace := ["internal/bytealg.Compare"], unfollowed := true, recurses := true, plainKeys := false, apart := false, narrowed := true }
def StateOfUptoSaid : Prop := stateOfUptoRow.holds Tryz.pinned (OpenSpec.upto stateOfSpec)

/-- 'peatbanklaw26.StateBack', WHERE WHAT IT READS IS OF BULK AT MOST 1048576: true; the input reads as it did. -/
def stateBackUptoRow : OpenClaim := { program := "ytgjjdfhoakailaagreat", sum := "2be006563f6cf0a0b913b737bdc00dbb7fb1c29d877e45bf9cd0b64325ba3829", func := "peatbank/peatbanklaw26.StateBack", spec := "stateBack", inPlace := ["internal/bytealg.Compare"], unfollowed := true, recurses := true, plainKeys := false, apart := false, narrowed := true }
def StateBackUptoSaid : Prop := stateBackUptoRow.holds Tryz.pinned (OpenSpec.upto stateBackSpec)

end Rows
end Go.Proofs.YtgjjdfhoakailaaGreat
