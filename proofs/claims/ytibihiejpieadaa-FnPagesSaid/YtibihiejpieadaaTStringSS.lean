
/- Helpers at slices of slices: String. Written by wip/gen/gennest.py. -/
import Derived.Test.YtibihiejpieadaaTString
import Derived.Test.YtibihiejpieadaaNest
import Derived.Test.YtibihiejpieadaaSeg
namespace Go.Proofs.Ytibihiejpieadaa
open Go.RowKit
set_option linter.unusedVariables false


def marksStringS (k0 : Int) (ns : List Nat) : List (List ByteArray) := (List.range ns.length).map (fun i => marksString (k0 + 1 * (preS ns i : Int)) (ns.getD i 0))
theorem marksStringS_len (k0 : Int) (ns : List Nat) : (marksStringS k0 ns).length = ns.length := by simp [marksStringS]
theorem marksStringS_get (k0 : Int) (ns : List Nat) (i : Nat) (h : i < (marksStringS k0 ns).length) : (marksStringS k0 ns)[i] = marksString (k0 + 1 * (preS ns i : Int)) (ns.getD i 0) := by simp [marksStringS]
def lensS {α : Type} (xss : List (List α)) : List Nat := xss.map List.length

def totStringSS (xs : List (List ByteArray)) : Nat := xs.length + (xs.map totStringS).sum
theorem totStringSS_mem {xs : List (List ByteArray)} {r : List ByteArray} (h : r ∈ xs) : totStringS r ≤ totStringSS xs := by
  unfold totStringSS
  have : totStringS r ≤ (xs.map totStringS).sum := by
    obtain ⟨i, hi, rfl⟩ := List.getElem_of_mem h
    have h1 := sum_take_step_ totStringS xs i hi
    have h2 : ((xs.take (i + 1)).map totStringS).sum ≤ (xs.map totStringS).sum := by
      have h3 := congrArg (fun l => (l.map totStringS).sum) (List.take_append_drop (i + 1) xs)
      simp only [List.map_append, List.sum_append] at h3
      omega
    omega
  omega
theorem lens_le_String : ∀ xs : List (List ByteArray), (lensS xs).sum ≤ (xs.map totStringS).sum
  | [] => Nat.le_refl _
  | r :: xs => by
    have := lens_le_String xs
    unfold lensS at *
    rw [List.map_cons, List.map_cons, List.sum_cons, List.sum_cons]
    have h : r.length ≤ totStringS r := by unfold totStringS; omega
    omega
theorem lensS_tot (xs : List (List ByteArray)) : (lensS xs).sum ≤ totStringSS xs := by
  have := lens_le_String xs
  unfold totStringSS; omega
theorem totStringSS_cells {xs : List (List ByteArray)} {B : Nat} (h : totStringSS xs ≤ B) : ∀ r ∈ xs, ∀ c ∈ r, c.size ≤ B := by
  intro r hr c hc
  have h1 := totStringSS_mem hr
  have h2 : c.size ≤ totStringS r := by
    unfold totStringS
    obtain ⟨i, hi, rfl⟩ := List.getElem_of_mem hc
    have h3 := sum_take_step_ totString r i hi
    have h4 := congrArg (fun l => (l.map totString).sum) (List.take_append_drop (i + 1) r)
    simp only [List.map_append, List.sum_append] at h4
    unfold totString at *
    omega
  omega

end Go.Proofs.Ytibihiejpieadaa
