/- Contracts: PutBlock. Written by wip/gen/bt.py. -/
import Derived.Test.YtdckjljbmpdphaaDoorBq
namespace Go.Proofs.YtdckjljbmpdphaaDoor
open Go.RowKit
set_option linter.unusedVariables false

def pbOk (xs : List DBlock) (t : DBlock) : Bool := blocksB xs && blockB t
def pbF (xs : List DBlock) (t : DBlock) : List DBlock := if pbOk xs t && decide ((putF xs t).length ≤ 32) then putF xs t else []
def pbC (xs : List DBlock) (t : DBlock) : Int := if pbOk xs t then (if (putF xs t).length ≤ 32 then 0 else 5) else 1
theorem putF_ok {xs : List DBlock} {t : DBlock} (h : ∀ x ∈ xs, fBlock.ok x) (ht : fBlock.ok t) : ∀ x ∈ putF xs t, fBlock.ok x := by
  intro x hx
  unfold putF at hx
  rcases List.mem_append.1 hx with hx | hx
  · exact h x (List.mem_of_mem_take hx)
  · rcases List.mem_cons.1 hx with rfl | hx
    · exact ht
    · exact h x (List.mem_of_mem_drop hx)
theorem putF_len {xs : List DBlock} {t : DBlock} : (putF xs t).length ≤ 2 * xs.length + 1 := by
  unfold putF; simp; omega

end Go.Proofs.YtdckjljbmpdphaaDoor
