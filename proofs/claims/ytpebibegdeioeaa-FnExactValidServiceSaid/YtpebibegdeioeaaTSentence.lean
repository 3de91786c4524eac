
/- Sentence: the data, its cells; the given helpers over it. Written by wip/gentype.py. -/
import Derived.Test.YtpebibegdeioeaaMark
namespace Go.Proofs.Ytpebibegdeioeaa
open Go.RowKit
set_option linter.unusedVariables false

structure DSentence where
  kind : Int
  a : Int
  b : Int
  deriving DecidableEq

def fSentence : Flat DSentence where
  n := 3
  enc := fun x => [.int .i64 x.kind, .int .i64 x.a, .int .i64 x.b]
  ok := fun x => fInt.ok x.kind ∧ fInt.ok x.a ∧ fInt.ok x.b
  pos := by omega
  len := fun _ => rfl
  one := by intro x v hv; simp at hv; rcases hv with rfl | rfl | rfl <;> rfl

def totSentenceS (xs : List DSentence) : Nat := xs.length





def mkSentence (k : Int) : DSentence := ⟨k, k + 1, k + 1 + 1⟩
def marksSentence (k : Int) (n : Nat) : List DSentence := (List.range n).map fun (i : Nat) => mkSentence (k + 3 * (i : Int))

theorem marksSentence_get (k0 : Int) (n i : Nat) (h : i < (marksSentence k0 n).length) : (marksSentence k0 n)[i] = mkSentence (k0 + 3 * (i : Int)) := by
  simp [marksSentence]
theorem marksSentence_len (k0 : Int) (n : Nat) : (marksSentence k0 n).length = n := by simp [marksSentence]



end Go.Proofs.Ytpebibegdeioeaa
