
/- Pages: how many lines they hold. -/
import Derived.Test.YtibihiejpieadaaPi
namespace Go.Proofs.Ytibihiejpieadaa
open Go.RowKit
set_option linter.unusedVariables false
theorem sum_le_mul {B : Nat} : ∀ (L : List Nat), (∀ x ∈ L, x ≤ B) → L.sum ≤ L.length * B
  | [], _ => by simp
  | a :: L, h => by
    have h1 := h a (by simp)
    have h2 := sum_le_mul L (fun x hx => h x (by simp [hx]))
    rw [List.sum_cons, List.length_cons, Nat.succ_mul]; omega
theorem pgF_sum (xs : List ByteArray) (h : Int) (hd : ByteArray) : (lensS (pgF xs h hd)).sum ≤ 100000000000 := by
  unfold pgF
  split
  · rename_i hc
    rw [Bool.and_eq_true] at hc
    obtain ⟨hl, _⟩ := linesB_parts hc.1
    have hp := hc.2
    unfold pgOk at hp
    rw [Bool.and_eq_true] at hp
    have hb := inB_true.1 hp.1
    have hlen : (lensS (pgAll (h.toNat - 1) hd xs)).length ≤ 400 := by
      unfold lensS pgAll
      simp only [List.length_map, List.length_range]
      unfold pgN
      exact Nat.le_trans (Nat.div_le_self _ _) (by omega)
    have hs := sum_le_mul (B := 201) (lensS (pgAll (h.toNat - 1) hd xs)) (fun x hx => by
      unfold lensS pgAll at hx
      rw [List.map_map] at hx
      obtain ⟨j, _, rfl⟩ := List.mem_map.1 hx
      show (hd :: pgAt (h.toNat - 1) xs j).length ≤ 201
      rw [List.length_cons, pgAt_size]; omega)
    have := Nat.mul_le_mul_right 201 hlen
    omega
  · show (0 : Nat) ≤ _
    omega
end Go.Proofs.Ytibihiejpieadaa
