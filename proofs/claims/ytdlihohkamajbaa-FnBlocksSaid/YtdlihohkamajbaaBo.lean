/- Contracts of BlocksOfKind. Written by wip/gen/bo.py. -/
import Derived.Test.YtdlihohkamajbaaBv
import Derived.Test.YtdlihohkamajbaaTString
namespace Go.Proofs.Ytdlihohkamajbaa
open Go.RowKit
set_option linter.unusedVariables false

theorem infoStr2 : (Try.prog.info? 9).map (fun i => (i.zero, i.size, i.bytes)) = some (some (.string ⟨#[]⟩), 1, 16) := by kernel_rfl
def bkC (xs : List DBlock) : Int := if blocksB xs then 0 else 1
def bkF (xs : List DBlock) (kind : ByteArray) : List ByteArray := if blocksB xs then (xs.filter (fun x : DBlock => decide (x.kind = kind))).map (fun x => x.name) else []
theorem bkF_len {xs : List DBlock} {kind : ByteArray} (h : xs.length ≤ 1048576) : (bkF xs kind).length ≤ 100000000000 := by
  unfold bkF; split
  · rw [List.length_map]; have := List.length_filter_le (fun x : DBlock => decide (x.kind = kind)) xs; omega
  · simp
set_option maxRecDepth 100000 in
set_option maxHeartbeats 4000000 in
theorem implBlocksOfKind_any (v : Value) (xs : List DBlock) (fp : List Nat) (kind : ByteArray) (w : World) (hx : Sl fBlock.cod w v xs fp) :
    Calls Try.prog 10 #[v, .string kind] w fun e w' => NewR2 fStr.cod w (bkF xs kind) (bkC xs) e w' := by
  obtain ⟨A, cap, rfl, hlen, hcap⟩ := hx.form
  obtain ⟨i0, hi, hz0, hz1, hz2⟩ := info_parts infoStr2
  go_enter Try.func10, Try.ntmps10
  go_wp2_with fail
  refine (validBlocks_any _ xs fp _ hx).mono ?_
  rintro e w1 ⟨rfl, hb1⟩
  cases h0 : blocksB xs
  · go_wp2
    go_ret2
    exact ⟨_, by rw [bkC, h0]; rfl, by rw [bkF, h0]; exact New.nil hb1⟩
  · have HC := Lib.hid (show bkC xs = 0 from by rw [bkC, h0]; rfl)
    have HF := Lib.hid (show bkF xs kind = (xs.filter (fun x : DBlock => decide (x.kind = kind))).map (fun x => x.name) from by rw [bkF, h0]; rfl)
    have HOK : ∀ x ∈ bkF xs kind, fStr.ok x := by
      rw [HF.out]; intro x hxm
      obtain ⟨g, hg, rfl⟩ := List.mem_map.1 hxm
      exact (hx.oks g (List.mem_filter.1 hg).1).2.1
    have hlen8 := blocksB_len h0
    go_wp2
    go_loopw [6, 14] (fun v i wr => ∃ k : Nat, k ≤ xs.length ∧ i = .int .i64 k ∧ Own fStr wr w.heap.size 9 v (keptL (fun x : DBlock => decide (x.kind = kind)) (fun x : DBlock => x.name) xs k) ∧ Below w.heap.size w wr) (fun _ i _ => xs.length - (intOf i).toNat)
    case atStart => exact ⟨0, Nat.zero_le _, rfl, Own.nil fStr _ _ _, hb1⟩
    case round =>
      obtain ⟨k, hk, rfl, ho, hb⟩ := hrel
      by_cases hlt : k < xs.length
      · obtain ⟨b, off, rfl, _, hok, hp⟩ := PBlock.elem (hx.below' hb) hlt
        have hid0 : xs[k].kind.size ≤ 9223372036854775807 := hok.1
        have hid : xs[k].name.size ≤ 9223372036854775807 := hok.2.1
        have hkl := keptL_len (p := (fun x : DBlock => decide (x.kind = kind))) (f := fun x : DBlock => x.name) (xs := xs) (k := k)
        obtain ⟨c0, c1, c2⟩ := id hp
        by_cases hgo : xs[k].kind = kind
        · have e1 : (xs[k].kind.toList == kind.toList) = true := eqS_true.2 hgo
          have HY := Lib.hid (keptL_yes (p := (fun x : DBlock => decide (x.kind = kind))) (f := fun x : DBlock => x.name) hlt (decide_eq_true hgo))
          have ho3 : (wr.alloc (.cells #[.string xs[k].kind, .string xs[k].name, .string xs[k].text] 27)).ownsRow w.heap.size 9 1 u6 (keptL (fun x : DBlock => decide (x.kind = kind)) (fun x : DBlock => x.name) xs k).length ((keptL (fun x : DBlock => decide (x.kind = kind)) (fun x : DBlock => x.name) xs k).flatMap fStr.enc) := World.ownsRow.alloc ho _
          have hbW : Below w.heap.size w (wr.alloc (.cells #[.string xs[k].kind, .string xs[k].name, .string xs[k].text] 27)) := hb.alloc hb.size _
          have hs2 := hbW.size
          clear ho hgo
          go_wp2_with (at_builtin; refine wpList_append_oneA (wr.heap.size + 1) (by simp) rfl _ _ 34 rfl w.heap.size 9 i0 (.string ⟨#[]⟩) 1 16 Try.underlying34 hi hz0 hz1 hz2 rfl (by decide) u6 (keptL (fun x : DBlock => decide (x.kind = kind)) (fun x : DBlock => x.name) xs k).length _ rfl ho3 [.string xs[k].name] rfl (by intro u hu; rw [List.mem_singleton] at hu; subst hu; rfl) rfl (by omega) (by decide) hs2 ?_)
          intro v' u hown hbu _ _
          have hbu' := hbW.trans hbu
          have ho2 : Own fStr u w.heap.size 9 v' (keptL (fun x : DBlock => decide (x.kind = kind)) (fun x : DBlock => x.name) xs (k + 1)) := by rw [HY.out]; exact Own.push _ rfl hown
          clear hown
          go_wp2
          go_roundw
          case rel => exact ⟨k + 1, by omega, by go_num, ho2, hbu'⟩
          case measure => simp [intOf]; omega
        · have e1 : (xs[k].kind.toList == kind.toList) = false := bytes_beq_false hgo
          have ho2 : Own fStr (wr.alloc (.cells #[.string xs[k].kind, .string xs[k].name, .string xs[k].text] 27)) w.heap.size 9 u6 (keptL (fun x : DBlock => decide (x.kind = kind)) (fun x : DBlock => x.name) xs (k + 1)) := by rw [keptL_no hlt (decide_eq_false hgo)]; exact World.ownsRow.alloc ho _
          have hbW : Below w.heap.size w (wr.alloc (.cells #[.string xs[k].kind, .string xs[k].name, .string xs[k].text] 27)) := hb.alloc hb.size _
          clear ho hgo
          go_wp2
          go_roundw
          case rel => exact ⟨k + 1, by omega, by go_num, ho2, hbW⟩
          case measure => simp [intOf]; omega
      · have ho2 : Own fStr wr w.heap.size 9 u6 (bkF xs kind) := by rw [HF.out, ← keptL_full (k := k) (by omega)]; exact ho
        clear ho
        go_wp2
        go_ret2
        exact ⟨_, by rw [HC.out]; rfl, ho2.new hb HOK⟩

end Go.Proofs.Ytdlihohkamajbaa
