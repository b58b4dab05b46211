/-
  NARROWER THAN 'FOR EVERY INPUT', by the rows' own cells (each row's printed sentence says how): PitchTexts: laid · PitchAdds: laid · PitchBack: laid · PitchMirrors: laid · PitchMoves: laid · PitchKnown: laid · PitchCalls: laid.
  DERIVED. THE GIVEN ROWS OF THIS SEAT. 7 by the template 'for every input the law returns true; each argument reads behind the call as it read before'; 0 by the template 'total and deterministic' (their statements: YtmmpjajjebljpaaDoorTotals.lean).
  GIVEN WITH THE SEED: the statements are not yours to turn. If you find one false, say at which input.
  Laid BY PROGRAM, IN A SANDBOX (cutbox-rows.mjs): the forced cells as the released guide's own fill.sh prints them over the translation 95e7018af2599ca5… (all of the seat's roots in one cut). By AI agents, Wed Nov 11 2026. No macro, syntax, notation, axiom, sorry.
-/
import Derived.Test.YtmmpjajjebljpaaDoorChecked
import GoSem.Claim
import GoSem.ClaimJoined
import GoSem.ClaimMapViews
import Derived.JoinedTies
import Derived.KernelRfl
namespace Go.Proofs.YtmmpjajjebljpaaDoor
/- THE CELL 'sum', in the pinned program and in every row, IS THE sha256 OF THE DUMP (.gsa) THAT YtmmpjajjebljpaaDoorProg.lean LOADS. Nothing in Lean hashes anything: it is a label: what it is worth is what the hold of that sum in a sandbox is worth. -/
noncomputable def Tryd.pinned : Pinned := { name := "ytmmpjajjebljpaadoor", sum := "95e7018af2599ca5259172421ed0c4d818d11f39a9f17bbce6600ddfe32d115e", checked := Tryd.checked }
namespace Rows
def none {H : Type} : Left H := { results := [], args := [] }

/- WHAT THE LISTED PACKAGE-LEVEL VARIABLES READ AS WHEN THE CALL BEGINS. Each datum BY PROGRAM (the guide's laid-datum.mjs) off the statement by which the dump's own 'gosem.cut.vars' lays the variable. In a bare row this is a premise. The card (YtmmpjajjebljpaaDoorCards.lean) ties it to the program's text. -/
def laid_tactus_pitch_halves {H : Type} : DataW H := .agg [.lit (.int .i64 0), .lit (.int .i64 2), .lit (.int .i64 4), .lit (.int .i64 5), .lit (.int .i64 7), .lit (.int .i64 9), .lit (.int .i64 11)]

/-- 'tactuslaw03.PitchTexts': WHATEVER THE INPUT: true; the input reads as it did. -/
def pitchTextsSpec : ChangeSpec := { name := "pitchTexts", fn := fun _ => fun
  | [d1, d2] => { results := [.lit (.bool true)], args := [d1, d2] }
  | _ => none }
def pitchTextsRow : OpenClaim := { program := "ytmmpjajjebljpaadoor", sum := "95e7018af2599ca5259172421ed0c4d818d11f39a9f17bbce6600ddfe32d115e", func := "tactus/tactuslaw03.PitchTexts", spec := "pitchTexts", inPlace := ["internal/bytealg.IndexByteString"], named := ["tactus/pitch.halves"], apart := false, laid := [("tactus/pitch.halves", laid_tactus_pitch_halves)] }
def PitchTextsSaid : Prop := pitchTextsRow.holds Tryd.pinned (OpenSpec.ofChange pitchTextsSpec)

/-- ITS FALSE NEIGHBOUR: 'it returns false'. Refute it at one input. -/
def pitchTextsWrong : ChangeSpec := { name := "pitchTexts", fn := fun _ => fun
  | [d1, d2] => { results := [.lit (.bool false)], args := [d1, d2] }
  | _ => none }
def PitchTextsWrongFalsely : Prop := pitchTextsRow.holds Tryd.pinned (OpenSpec.ofChange pitchTextsWrong)

/-- 'tactuslaw03.PitchAdds': WHATEVER THE INPUT: true; the input reads as it did. -/
def pitchAddsSpec : ChangeSpec := { name := "pitchAdds", fn := fun _ => fun
  | [d1, d2, d3] => { results := [.lit (.bool true)], args := [d1, d2, d3] }
  | _ => none }
def pitchAddsRow : OpenClaim := { program := "ytmmpjajjebljpaadoor", sum := "95e7018af2599ca5259172421ed0c4d818d11f39a9f17bbce6600ddfe32d115e", func := "tactus/tactuslaw03.PitchAdds", spec := "pitchAdds", inPlace := ["internal/bytealg.IndexByteString"], named := ["tactus/pitch.halves"], apart := false, laid := [("tactus/pitch.halves", laid_tactus_pitch_halves)] }
def PitchAddsSaid : Prop := pitchAddsRow.holds Tryd.pinned (OpenSpec.ofChange pitchAddsSpec)

/-- ITS FALSE NEIGHBOUR: 'it returns false'. Refute it at one input. -/
def pitchAddsWrong : ChangeSpec := { name := "pitchAdds", fn := fun _ => fun
  | [d1, d2, d3] => { results := [.lit (.bool false)], args := [d1, d2, d3] }
  | _ => none }
def PitchAddsWrongFalsely : Prop := pitchAddsRow.holds Tryd.pinned (OpenSpec.ofChange pitchAddsWrong)

/-- 'tactuslaw03.PitchBack': WHATEVER THE INPUT: true; the input reads as it did. -/
def pitchBackSpec : ChangeSpec := { name := "pitchBack", fn := fun _ => fun
  | [d] => { results := [.lit (.bool true)], args := [d] }
  | _ => none }
def pitchBackRow : OpenClaim := { program := "ytmmpjajjebljpaadoor", sum := "95e7018af2599ca5259172421ed0c4d818d11f39a9f17bbce6600ddfe32d115e", func := "tactus/tactuslaw03.PitchBack", spec := "pitchBack", inPlace := ["internal/bytealg.IndexByteString"], named := ["tactus/pitch.halves"], apart := false, laid := [("tactus/pitch.halves", laid_tactus_pitch_halves)] }
def PitchBackSaid : Prop := pitchBackRow.holds Tryd.pinned (OpenSpec.ofChange pitchBackSpec)

/-- ITS FALSE NEIGHBOUR: 'it returns false'. Refute it at one input. -/
def pitchBackWrong : ChangeSpec := { name := "pitchBack", fn := fun _ => fun
  | [d] => { results := [.lit (.bool false)], args := [d] }
  | _ => none }
def PitchBackWrongFalsely : Prop := pitchBackRow.holds Tryd.pinned (OpenSpec.ofChange pitchBackWrong)

/-- 'tactuslaw03.PitchMirrors': WHATEVER THE INPUT: true; the input reads as it did. -/
def pitchMirrorsSpec : ChangeSpec := { name := "pitchMirrors", fn := fun _ => fun
  | [d1, d2, d3] => { results := [.lit (.bool true)], args := [d1, d2, d3] }
  | _ => none }
def pitchMirrorsRow : OpenClaim := { program := "ytmmpjajjebljpaadoor", sum := "95e7018af2599ca5259172421ed0c4d818d11f39a9f17bbce6600ddfe32d115e", func := "tactus/tactuslaw03.PitchMirrors", spec := "pitchMirrors", inPlace := ["internal/bytealg.IndexByteString"], named := ["tactus/pitch.halves"], apart := false, laid := [("tactus/pitch.halves", laid_tactus_pitch_halves)] }
def PitchMirrorsSaid : Prop := pitchMirrorsRow.holds Tryd.pinned (OpenSpec.ofChange pitchMirrorsSpec)

/-- ITS FALSE NEIGHBOUR: 'it returns false'. Refute it at one input. -/
def pitchMirrorsWrong : ChangeSpec := { name := "pitchMirrors", fn := fun _ => fun
  | [d1, d2, d3] => { results := [.lit (.bool false)], args := [d1, d2, d3] }
  | _ => none }
def PitchMirrorsWrongFalsely : Prop := pitchMirrorsRow.holds Tryd.pinned (OpenSpec.ofChange pitchMirrorsWrong)

/-- 'tactuslaw03.PitchMoves': WHATEVER THE INPUT: true; the input reads as it did. -/
def pitchMovesSpec : ChangeSpec := { name := "pitchMoves", fn := fun _ => fun
  | [d1, d2, d3] => { results := [.lit (.bool true)], args := [d1, d2, d3] }
  | _ => none }
def pitchMovesRow : OpenClaim := { program := "ytmmpjajjebljpaadoor", sum := "95e7018af2599ca5259172421ed0c4d818d11f39a9f17bbce6600ddfe32d115e", func := "tactus/tactuslaw03.PitchMoves", spec := "pitchMoves", inPlace := ["internal/bytealg.IndexByteString"], named := ["tactus/pitch.halves"], apart := false, laid := [("tactus/pitch.halves", laid_tactus_pitch_halves)] }
def PitchMovesSaid : Prop := pitchMovesRow.holds Tryd.pinned (OpenSpec.ofChange pitchMovesSpec)

/-- ITS FALSE NEIGHBOUR: 'it returns false'. Refute it at one input. -/
def pitchMovesWrong : ChangeSpec := { name := "pitchMoves", fn := fun _ => fun
  | [d1, d2, d3] => { results := [.lit (.bool false)], args := [d1, d2, d3] }
  | _ => none }
def PitchMovesWrongFalsely : Prop := pitchMovesRow.holds Tryd.pinned (OpenSpec.ofChange pitchMovesWrong)

/-- 'tactuslaw03.PitchKnown': WHATEVER THE INPUT: true; the input reads as it did. -/
def pitchKnownSpec : ChangeSpec := { name := "pitchKnown", fn := fun _ => fun
  | [] => { results := [.lit (.bool true)], args := [] }
  | _ => none }
def pitchKnownRow : OpenClaim := { program := "ytmmpjajjebljpaadoor", sum := "95e7018af2599ca5259172421ed0c4d818d11f39a9f17bbce6600ddfe32d115e", func := "tactus/tactuslaw03.PitchKnown", spec := "pitchKnown", inPlace := ["internal/bytealg.IndexByteString"], named := ["tactus/pitch.halves"], apart := false, laid := [("tactus/pitch.halves", laid_tactus_pitch_halves)] }
def PitchKnownSaid : Prop := pitchKnownRow.holds Tryd.pinned (OpenSpec.ofChange pitchKnownSpec)

/-- ITS FALSE NEIGHBOUR: 'it returns false'. Refute it at one input. -/
def pitchKnownWrong : ChangeSpec := { name := "pitchKnown", fn := fun _ => fun
  | [] => { results := [.lit (.bool false)], args := [] }
  | _ => none }
def PitchKnownWrongFalsely : Prop := pitchKnownRow.holds Tryd.pinned (OpenSpec.ofChange pitchKnownWrong)

/-- 'tactuslaw03.PitchCalls': WHATEVER THE INPUT: true; the input reads as it did. -/
def pitchCallsSpec : ChangeSpec := { name := "pitchCalls", fn := fun _ => fun
  | [d1, d2, d3, d4] => { results := [.lit (.bool true)], args := [d1, d2, d3, d4] }
  | _ => none }
def pitchCallsRow : OpenClaim := { program := "ytmmpjajjebljpaadoor", sum := "95e7018af2599ca5259172421ed0c4d818d11f39a9f17bbce6600ddfe32d115e", func := "tactus/tactuslaw03.PitchCalls", spec := "pitchCalls", inPlace := ["internal/bytealg.IndexByteString"], named := ["tactus/pitch.halves"], apart := false, laid := [("tactus/pitch.halves", laid_tactus_pitch_halves)] }
def PitchCallsSaid : Prop := pitchCallsRow.holds Tryd.pinned (OpenSpec.ofChange pitchCallsSpec)

/-- ITS FALSE NEIGHBOUR: 'it returns false'. Refute it at one input. -/
def pitchCallsWrong : ChangeSpec := { name := "pitchCalls", fn := fun _ => fun
  | [d1, d2, d3, d4] => { results := [.lit (.bool false)], args := [d1, d2, d3, d4] }
  | _ => none }
def PitchCallsWrongFalsely : Prop := pitchCallsRow.holds Tryd.pinned (OpenSpec.ofChange pitchCallsWrong)

/- THE SECOND FORM. 'bulk': how many values and letters a reading holds, each counted each time it is reached (what is shared counts as often as it is met; a slice's spare places count too). A statement '..UptoSaid' is the law's where the arguments, and the package variables that the reading takes, are together of bulk at most 1048576: NARROWER than '..Said'. Prove '..Said' where nothing that the law and all that it calls make is longer than what came in: it says more and counts as full. Else prove '..UptoSaid'. A law counts once. -/
mutual
def uptoBulk {H : Type} : DataW H → Nat
  | .lit (.string bytes) => bytes.length + 1
  | .lit _ => 1
  | .nil => 1
  | .ptr d => uptoBulk d + 1
  | .slice elems spare => uptoBulkAll elems + uptoBulkAll spare + 1
  | .agg parts => uptoBulkAll parts + 1
  | .iface _ d => uptoBulk d + 1
  | .map entries => uptoBulkEntries entries + 1
  | .held _ => 1
def uptoBulkAll {H : Type} : List (DataW H) → Nat
  | [] => 0
  | d :: r => uptoBulk d + uptoBulkAll r
def uptoBulkEntries {H : Type} : List (Lit × DataW H) → Nat
  | [] => 0
  | x :: r => uptoBulkEntry x + uptoBulkEntries r
def uptoBulkEntry {H : Type} : Lit × DataW H → Nat
  | (.string bytes, d) => bytes.length + uptoBulk d + 1
  | (_, d) => uptoBulk d + 1
 end
def uptoSmall : (H : Type) → List (DataW H) → Bool := fun _ ds => decide (uptoBulkAll ds ≤ 1048576)
def OpenSpec.upto (s : _root_.Go.ChangeSpec) : _root_.Go.OpenSpec := { _root_.Go.OpenSpec.ofChange s with cond := some uptoSmall }

/-- 'tactuslaw03.PitchTexts', WHERE WHAT IT READS IS OF BULK AT MOST 1048576: true; the input reads as it did. -/
def pitchTextsUptoRow : OpenClaim := { program := "ytmmpjajjebljpaadoor", sum := "95e7018af2599ca5259172421ed0c4d818d11f39a9f17bbce6600ddfe32d115e", func := "tactus/tactuslaw03.PitchTexts", spec := "pitchTexts", inPlace := ["internal/bytealg.IndexByteString"], named := ["tactus/pitch.halves"], apart := false, laid := [("tactus/pitch.halves", laid_tactus_pitch_halves)], narrowed := true }
def PitchTextsUptoSaid : Prop := pitchTextsUptoRow.holds Tryd.pinned (OpenSpec.upto pitchTextsSpec)

/-- 'tactuslaw03.PitchAdds', WHERE WHAT IT READS IS OF BULK AT MOST 1048576: true; the input reads as it did. -/
def pitchAddsUptoRow : OpenClaim := { program := "ytmmpjajjebljpaadoor", sum := "95e7018af2599ca5259172421ed0c4d818d11f39a9f17bbce6600ddfe32d115e", func := "tactus/tactuslaw03.PitchAdds", spec := "pitchAdds", inPlace := ["internal/bytealg.IndexByteString"], named := ["tactus/pitch.halves"], apart := false, laid := [("tactus/pitch.halves", laid_tactus_pitch_halves)], narrowed := true }
def PitchAddsUptoSaid : Prop := pitchAddsUptoRow.holds Tryd.pinned (OpenSpec.upto pitchAddsSpec)

/-- 'tactuslaw03.PitchBack', WHERE WHAT IT READS IS OF BULK AT MOST 1048576: true; the input reads as it did. -/
def pitchBackUptoRow : OpenClaim := { program := "ytmmpjajjebljpaadoor", sum := "95e7018af2599ca5259172421ed0c4d818d11f39a9f17bbce6600ddfe32d115e", func := "tactus/tactuslaw03.PitchBack", spec := "pitchBack", inPlace := ["internal/bytealg.IndexByteString"], named := ["tactus/pitch.halves"], apart := false, laid := [("tactus/pitch.halves", laid_tactus_pitch_halves)], narrowed := true }
def PitchBackUptoSaid : Prop := pitchBackUptoRow.holds Tryd.pinned (OpenSpec.upto pitchBackSpec)

/-- 'tactuslaw03.PitchMirrors', WHERE WHAT IT READS IS OF BULK AT MOST 1048576: true; the input reads as it did. -/
def pitchMirrorsUptoRow : OpenClaim := { program := "ytmmpjajjebljpaadoor", sum := "95e7018af2599ca5259172421ed0c4d818d11f39a9f17bbce6600ddfe32d115e", func := "tactus/tactuslaw03.PitchMirrors", spec := "pitchMirrors", inPlace := ["internal/bytealg.IndexByteString"], named := ["tactus/pitch.halves"], apart := false, laid := [("tactus/pitch.halves", laid_tactus_pitch_halves)], narrowed := true }
def PitchMirrorsUptoSaid : Prop := pitchMirrorsUptoRow.holds Tryd.pinned (OpenSpec.upto pitchMirrorsSpec)

/-- 'tactuslaw03.PitchMoves', WHERE WHAT IT READS IS OF BULK AT MOST 1048576: true; the input reads as it did. -/
def pitchMovesUptoRow : OpenClaim := { program := "ytmmpjajjebljpaadoor", sum := "95e7018af2599ca5259172421ed0c4d818d11f39a9f17bbce6600ddfe32d115e", func := "tactus/tactuslaw03.PitchMoves", spec := "pitchMoves", inPlace := ["internal/bytealg.IndexByteString"], named := ["tactus/pitch.halves"], apart := false, laid := [("tactus/pitch.halves", laid_tactus_pitch_halves)], narrowed := true }
def PitchMovesUptoSaid : Prop := pitchMovesUptoRow.holds Tryd.pinned (OpenSpec.upto pitchMovesSpec)

/-- 'tactuslaw03.PitchKnown', WHERE WHAT IT READS IS OF BULK AT MOST 1048576: true; the input reads as it did. -/
def pitchKnownUptoRow : OpenClaim := { program := "ytmmpjajjebljpaadoor", sum := "95e7018af2599ca5259172421ed0c4d818d11f39a9f17bbce6600ddfe32d115e", func := "tactus/tactuslaw03.PitchKnown", spec := "pitchKnown", inPlace := ["internal/bytealg.IndexByteString"], named := ["tactus/pitch.halves"], apart := false, laid := [("tactus/pitch.halves", laid_tactus_pitch_halves)], narrowed := true }
def PitchKnownUptoSaid : Prop := pitchKnownUptoRow.holds Tryd.pinned (OpenSpec.upto pitchKnownSpec)

/-- 'tactuslaw03.PitchCalls', WHERE WHAT IT READS IS OF BULK AT MOST 1048576: true; the input reads as it did. -/
def pitchCallsUptoRow : OpenClaim := { program := "ytmmpjajjebljpaadoor", sum := "95e7018af2599ca5259172421ed0c4d818d11f39a9f17bbce6600ddfe32d115e", func := "tactus/tactuslaw03.PitchCalls", spec := "pitchCalls", inPlace := ["internal/bytealg.IndexByteString"], named := ["tactus/pitch.halves"], apart := false, laid := [("tactus/pitch.halves", laid_tactus_pitch_halves)], narrowed := true }
def PitchCallsUptoSaid : Prop := pitchCallsUptoRow.holds Tryd.pinned (OpenSpec.upto pitchCallsSpec)

end Rows
end Go.Proofs.YtmmpjajjebljpaaDoor
