
/- PagesOf of the spec. Written by wip/gen/pp.py. -/
import Derived.Test.YtibihiejpieadaaPg
import Derived.Test.YtibihiejpieadaaTk
import Derived.Test.YtibihiejpieadaaLn
import Derived.Test.YtibihiejpieadaaNm
import Derived.Test.YtibihiejpieadaaTStringSS
import Derived.Deep.AppendLies
namespace Go.Proofs.Ytibihiejpieadaa
open Go.RowKit
set_option linter.unusedVariables false

theorem infoStrP : (Try.prog.info? 9).map (fun i => (i.zero, i.size, i.bytes)) = some (some (.string ⟨#[]⟩), 1, 16) := by kernel_rfl
def pgOk (h : Int) (hd : ByteArray) : Bool := inB h 2 200 && lineB hd
def pgC (xs : List ByteArray) (h : Int) (hd : ByteArray) : Int := if linesB xs then (if pgOk h hd then 0 else 2) else 1
def pgF (xs : List ByteArray) (h : Int) (hd : ByteArray) : List (List ByteArray) := if linesB xs && pgOk h hd then pgAll (h.toNat - 1) hd xs else []
theorem pg_bad1 {xs : List ByteArray} {h : Int} {hd : ByteArray} (h0 : linesB xs = false) : pgC xs h hd = 1 ∧ pgF xs h hd = [] := by unfold pgC pgF; rw [h0]; exact ⟨rfl, rfl⟩
theorem pg_bad2 {xs : List ByteArray} {h : Int} {hd : ByteArray} (h0 : linesB xs = true) (h1 : pgOk h hd = false) : pgC xs h hd = 2 ∧ pgF xs h hd = [] := by unfold pgC pgF; rw [h0, h1]; exact ⟨rfl, rfl⟩
theorem pg_good {xs : List ByteArray} {h : Int} {hd : ByteArray} (h0 : linesB xs = true) (h1 : pgOk h hd = true) : pgC xs h hd = 0 ∧ pgF xs h hd = pgAll (h.toNat - 1) hd xs := by unfold pgC pgF; rw [h0, h1]; exact ⟨rfl, rfl⟩
theorem linesB_parts {xs : List ByteArray} (h : linesB xs = true) : xs.length ≤ 200 ∧ ∀ x ∈ xs, x.size ≤ 100 := by
  unfold linesB at h
  rw [Bool.and_eq_true, decide_eq_true_eq, List.all_eq_true] at h
  refine ⟨h.2, fun x hx => ?_⟩
  have := h.1 x hx
  unfold lineB at this
  rw [Bool.and_eq_true, decide_eq_true_eq] at this
  exact this.2
theorem PgV.cell {w : World} {B n g cap : Nat} {V : Nat → Value} {X : Nat → List ByteArray} {G : Nat → Nat} (h : PgV w B (.slice (some ⟨g, 0, none⟩) n cap) n V X G) {i : Nat} (hi : i < n) : w.cell? ⟨g, i, none⟩ = some (V i) := by
  rw [h.own.cellAt i (by omega), List.getElem?_map, List.getElem?_range hi]; rfl
theorem PgV.frz {w : World} {B n g cap : Nat} {V : Nat → Value} {X : Nat → List ByteArray} {G : Nat → Nat} (h : PgV w B (.slice (some ⟨g, 0, none⟩) n cap) n V X G) (i : Nat) : w.frozen? ⟨g, i, none⟩ = false := h.own.frozenAt i
theorem pg_ok {m k : Nat} {hd : ByteArray} {xs : List ByteArray} (hx : ∀ x ∈ xs, x.size ≤ 100) (hh : hd.size ≤ 100) (j : Nat) : ∀ x ∈ hd :: pgAt m (xs.take k) j, fStr.ok x := by
  intro x hx'
  have hs : x.size ≤ 100 := by
    rcases List.mem_cons.1 hx' with rfl | hx'
    · exact hh
    · exact hx x (List.mem_of_mem_take (List.mem_of_mem_drop (List.mem_of_mem_take hx')))
  show x.size ≤ _
  omega
end Go.Proofs.Ytibihiejpieadaa
