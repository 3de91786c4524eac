/- Contracts: PutBlock. Written by wip/gen/bt.py. -/
import Derived.Test.YtdlihohkamajbaaGreatDoorBq
namespace Go.Proofs.YtdlihohkamajbaaGreatDoor
open Go.RowKit
set_option linter.unusedVariables false

def pbOk (xs : List DBlock) (t : DBlock) : Bool := blocksB xs && blockB t
def pbF (xs : List DBlock) (t : DBlock) : List DBlock := if pbOk xs t && decide ((putF xs t).length ≤ 32) then putF xs t else []
def pbC (xs : List DBlock) (t : DBlock) : Int := if pbOk xs t then (if (putF xs t).length ≤ 32 then 0 else 5) else 1
theorem putF_ok {xs : List DBlock} {t : DBlock} (h : ∀ x ∈ xs, fBlock.ok x) (ht : fBlock.ok t) : ∀ x ∈ putF xs t, fBlock.ok x := by
  intro x hx
  unfold putF at hx
  rcases List.mem_append.1 hx with hx | hx
  · exact h x (List.mem_of_mem_take hx)
  · rcases List.mem_cons.1 hx with rfl | hx
    · exact ht
    · exact h x (List.mem_of_mem_drop hx)
theorem putF_len {xs : List DBlock} {t : DBlock} : (putF xs t).length ≤ 2 * xs.length + 1 := by
  unfold putF; simp; omega
set_option maxRecDepth 100000 in
set_option maxHeartbeats 2000000 in
theorem specPutBlock_any (v : Value) (xs : List DBlock) (fp : List Nat) (t : DBlock) (w : World) (hx : Sl fBlock.cod w v xs fp) (hok : fBlock.ok t) :
    Calls Tryz.prog 40 #[v, .agg #[.string t.kind, .string t.name, .string t.text]] w fun e w' => NewR2 fBlock.cod w (pbF xs t) (pbC xs t) e w' := by
  obtain ⟨A, cap, rfl, hlen, hcap⟩ := hx.form
  have hW0 : Below w.heap.size w (w.alloc (.cells #[.string t.kind, .string t.name, .string t.text] 52)) := (Below.refl _ _).alloc (Nat.le_refl _) _
  have hp := PBlock.box w t 52
  have hx0 := hx.below' hW0
  have hs0 : (w.alloc (.cells #[.string t.kind, .string t.name, .string t.text] 52)).heap.size = w.heap.size + 1 := World.size_alloc _ _
  go_enter Tryz.func40, Tryz.ntmps40
  go_wp2_with fail
  refine (l29Ok_any _ xs fp _ hx0).mono ?_
  rintro e w1 ⟨rfl, hb1⟩
  have hB1 := hW0.trans (hb1.mono hW0.size)
  have hp1 := hp.below' hb1
  cases h0 : blocksB xs
  · go_wp2
    go_ret2
    exact ⟨_, by rw [pbC, pbOk, h0]; rfl, by rw [pbF, pbOk, h0]; exact New.nil hB1⟩
  · have hor := blocksB_ordered h0
    have hl32 := blocksB_len h0
    have hx1 := hx.below' hB1
    go_wp2_with fail
    refine (l29One_any _ 0 t _ hp1 hok).mono ?_
    rintro e w2 ⟨rfl, hb2⟩
    have hB2 := hB1.trans (hb2.mono hB1.size)
    have hx2 := hx.below' hB2
    obtain ⟨d0, d1, d2⟩ := hp1.below' hb2
    cases h1 : blockB t
    · go_wp2
      go_ret2
      exact ⟨_, by rw [pbC, pbOk, h0, h1]; rfl, by rw [pbF, pbOk, h0, h1]; exact New.nil hB2⟩
    · have HL := putF_len (xs := xs) (t := t)
      have HOK := putF_ok hx.oks hok
      go_wp2_with fail
      refine (l29Put_any _ xs fp t _ hx2 hor (by omega)).mono ?_
      rintro e w3 ⟨v3, rfl, hown, hb3⟩
      have hB3 := hB2.trans (hb3.mono hB2.size)
      have ho3 : Own fBlock w3 w.heap.size 52 v3 (putF xs t) := own_mono hown hB2.size
      have ho4 : w3.ownsRow w.heap.size 52 3 v3 (putF xs t).length ((putF xs t).flatMap fBlock.enc) := ho3
      have hpos : 0 < (putF xs t).length := by unfold putF; simp; omega
      obtain ⟨g, cap3, rfl, hg, hgw, hc1, hc2⟩ := own_open ho4 hpos
      clear hown
      by_cases h2 : (putF xs t).length ≤ 32
      · have HF : Hid (pbF xs t = putF xs t) := by show _ = _; rw [pbF, pbOk, h0, h1]; simp [h2]
        have HC : Hid (pbC xs t = 0) := by show _ = _; rw [pbC, pbOk, h0, h1]; simp [h2]
        go_wp2
        go_ret2
        exact ⟨_, by rw [HC.out]; rfl, by rw [HF.out]; exact ho3.new hB3 HOK⟩
      · have HF : Hid (pbF xs t = []) := by show _ = _; rw [pbF, pbOk, h0, h1]; simp [h2]
        have HC : Hid (pbC xs t = 5) := by show _ = _; rw [pbC, pbOk, h0, h1]; simp [h2]
        go_wp2
        go_ret2
        exact ⟨_, by rw [HC.out]; rfl, by rw [HF.out]; exact New.nil hB3⟩

end Go.Proofs.YtdlihohkamajbaaGreatDoor
