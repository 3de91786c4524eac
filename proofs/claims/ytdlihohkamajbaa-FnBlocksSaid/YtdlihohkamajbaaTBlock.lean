/- Block: the data, its cells; the given helpers over it. Written by wip/gentype.py. -/
import Derived.Test.YtdlihohkamajbaaMark
namespace Go.Proofs.Ytdlihohkamajbaa
open Go.RowKit
set_option linter.unusedVariables false

structure DBlock where
  kind : ByteArray
  name : ByteArray
  text : ByteArray
  deriving DecidableEq

def fBlock : Flat DBlock where
  n := 3
  enc := fun x => [.string x.kind, .string x.name, .string x.text]
  ok := fun x => fStr.ok x.kind ∧ fStr.ok x.name ∧ fStr.ok x.text
  pos := by omega
  len := fun _ => rfl
  one := by intro x v hv; simp at hv; rcases hv with rfl | rfl | rfl <;> rfl

def totBlock (x : DBlock) : Nat := x.kind.size + x.name.size + x.text.size
def totBlockS (xs : List DBlock) : Nat := xs.length + (xs.map totBlock).sum






def mkBlock (k : Int) : DBlock := ⟨mt (k), mt (k + 1), mt (k + 1 + 1)⟩
def marksBlock (k : Int) (n : Nat) : List DBlock := (List.range n).map fun (i : Nat) => mkBlock (k + 3 * (i : Int))

theorem marksBlock_get (k0 : Int) (n i : Nat) (h : i < (marksBlock k0 n).length) : (marksBlock k0 n)[i] = mkBlock (k0 + 3 * (i : Int)) := by
  simp [marksBlock]
theorem marksBlock_len (k0 : Int) (n : Nat) : (marksBlock k0 n).length = n := by simp [marksBlock]



end Go.Proofs.Ytdlihohkamajbaa
