/- BlocksOfGates. Written by wip/gen/bg.py. -/
import Derived.Test.YtdlihohkamajbaaDoorLt
import Derived.Test.YtdlihohkamajbaaDoorTBlock
import Derived.Test.YtdlihohkamajbaaDoorTString
namespace Go.Proofs.YtdlihohkamajbaaDoor
open Go.RowKit
set_option linter.unusedVariables false

theorem infoBlockG : (Tryd.prog.info? 42).map (fun i => (i.zero, i.size, i.bytes)) = some (some (.agg #[.string ⟨#[]⟩, .string ⟨#[]⟩, .string ⟨#[]⟩]), 3, 48) := by kernel_rfl
def bgB (x : DGate) : DBlock := ⟨⟨#[103, 97, 116, 101]⟩, x.id, gtS x⟩
def bgF (xs : List DGate) : List DBlock := if gatesB xs then xs.map bgB else []
def bgC (xs : List DGate) : Int := if gatesB xs then 0 else 1
theorem bgF_len {xs : List DGate} (h : xs.length ≤ 1048576) : (bgF xs).length ≤ 100000000000 := by
  unfold bgF; split
  · rw [List.length_map]; omega
  · simp
theorem bgB_ok {x : DGate} (h : gateB x = true) : fBlock.ok (bgB x) := by
  have h1 := (gateB_parts h).1
  have h2 := gtS_size h
  exact ⟨by show 4 ≤ _; decide, by show x.id.size ≤ 9223372036854775807; omega, by show (gtS x).size ≤ 9223372036854775807; omega⟩
theorem bg_oks {xs : List DGate} (h : gatesB xs = true) (k : Nat) : ∀ y ∈ (xs.take k).map bgB, fBlock.ok y := by
  intro y hy
  obtain ⟨x, hx, rfl⟩ := List.mem_map.1 hy
  obtain ⟨m, hm, rfl⟩ := List.getElem_of_mem (List.mem_of_mem_take hx)
  exact bgB_ok (gatesB_one h hm)
set_option maxRecDepth 100000 in
set_option maxHeartbeats 4000000 in
theorem specBlocksOfGates_any (v : Value) (xs : List DGate) (fp : List Nat) (w : World) (hx : Sl fGate.cod w v xs fp) (hl : xs.length ≤ 1048576) :
    Calls Tryd.prog 5 #[v] w fun e w' => NewR2 fBlock.cod w (bgF xs) (bgC xs) e w' := by
  obtain ⟨A, cap, rfl, hle, hca⟩ := hx.form
  obtain ⟨i0, hi, hz0, hz1, hz2⟩ := info_parts infoBlockG
  have hlt0 := hx.lt
  go_enter Tryd.func5, Tryd.ntmps5
  go_wp2_with fail
  refine (l21List_any _ xs fp _ hx).mono ?_
  rintro e w1 ⟨rfl, hb1⟩
  cases h0 : gatesB xs
  · go_wp2
    go_ret2
    exact ⟨_, by rw [bgC, h0]; rfl, by rw [bgF, h0]; exact New.nil hb1⟩
  · have HC := Lib.hid (show bgC xs = 0 from by rw [bgC, h0]; rfl)
    have HF := Lib.hid (show bgF xs = xs.map bgB from by rw [bgF, h0]; rfl)
    have hB0 : Below w.heap.size w (w1.alloc (.cells #[] 42)) := hb1.alloc hb1.size _
    have H0 := Lib.hid h0
    clear h0
    go_wp2
    go_loopw [4, 5] (fun v i wr => ∃ k : Nat, k ≤ xs.length ∧ i = .int .i64 k ∧ Own fBlock wr w.heap.size 42 v ((xs.take k).map bgB) ∧ Below w.heap.size w wr) (fun _ i _ => xs.length - (intOf i).toNat)
    case atStart => exact ⟨0, Nat.zero_le _, rfl, Own.lit0m fBlock hb1.size, hB0⟩
    case round =>
      obtain ⟨k, hk, rfl, ho, hb⟩ := hrel
      have hbW := hb.size
      by_cases hlt : k < xs.length
      · obtain ⟨b, off, rfl, hbm0, hok, hp⟩ := PGate.elem (hx.below' hb) hlt
        have hbm := hlt0 b hbm0
        have hplt := hp.lt
        have hv := gatesB_one H0.out hlt
        have c0 := hp.c0
        have HST : Hid ((xs.take (k + 1)).map bgB = (xs.take k).map bgB ++ [bgB xs[k]]) := take_map_step bgB hlt
        go_wp2
        have gk0 : ∀ p : KeptW (w.heap.size) wr (fun N => N.cell? ⟨b, off + k * 6, none⟩ = some (.string xs[k].id)), p.v.cell? ⟨b, off + k * 6, none⟩ = some (.string xs[k].id) := fun p => p.x
        haveI hKne : Nonempty (KeptW (w.heap.size) wr (fun N => N.cell? ⟨b, off + k * 6, none⟩ = some (.string xs[k].id))) := ⟨⟨_, Below.drew (Below.refl _ _), (((Below.drew (Below.refl _ _))).cell (p := ⟨b, off + k * 6, none⟩) hbm).trans c0⟩⟩
        refine wp_region_mix (C := fun w' => ∃ p : KeptW (w.heap.size) wr (fun N => N.cell? ⟨b, off + k * 6, none⟩ = some (.string xs[k].id)), w' = p.v) [true, true, true, true, true, true, true, true, true, false, true, false, false, true] (by kernel_rfl) (by kernel_rfl) (by kernel_rfl) (fun _ _ d _ _ h => by cases d <;> exact h) ⟨⟨_, Below.drew (Below.refl _ _), (((Below.drew (Below.refl _ _))).cell (p := ⟨b, off + k * 6, none⟩) hbm).trans c0⟩, rfl⟩ ?_
        have hS0 : Below (w.heap.size) wr wr.drew := Below.drew (Below.refl _ _)
        refine wpMix_pure (by kernel_rfl) (fun K hK => ?_)
        go_big_quiet_op
        refine hK _ ?_; clear hK K
        refine wpMix_pure (by kernel_rfl) (fun K hK => ?_)
        go_big_quiet_op
        refine hK _ ?_; clear hK K
        refine wpMix_pure (by kernel_rfl) (fun K hK => ?_)
        go_big_quiet_op
        refine hK _ ?_; clear hK K
        refine wpMix_pure (by kernel_rfl) (fun K hK => ?_)
        go_big_quiet_op
        refine hK _ ?_; clear hK K
        refine wpMix_pure (by kernel_rfl) (fun K hK => ?_)
        go_big_quiet_op
        refine hK _ ?_; clear hK K
        refine wpMix_pure (by kernel_rfl) (fun K hK => ?_)
        go_big_quiet_op
        refine hK _ ?_; clear hK K
        refine wpMix_pure (by kernel_rfl) (fun K hK => ?_)
        go_big_quiet_op
        refine hK _ ?_; clear hK K
        refine wpMix_pure (by kernel_rfl) (fun K hK => ?_)
        go_big_quiet_op
        refine hK _ ?_; clear hK K
        refine wpMix_pure (by kernel_rfl) (fun K hK => ?_)
        go_big_quiet_op
        refine hK _ ?_; clear hK K
        refine wpMix_act (by kernel_rfl) (fun K hK => ?_)
        go_big_op
        refine (l21Text_any _ _ xs[k] _ (hp.below hS0 hbm) hv).mono ?_
        rintro e wr1 ⟨rfl, hbr1⟩
        have hbr1S : Below (w.heap.size) wr wr1 := hS0.trans (hbr1.mono (Nat.le_trans hbW hS0.size))
        refine hK _ _ ⟨⟨_, hbr1S, ((hbr1S).cell (p := ⟨b, off + k * 6, none⟩) hbm).trans c0⟩, rfl⟩ ?_
        clear hK K
        refine wpMix_pure (by kernel_rfl) (fun K hK => ?_)
        go_big_quiet_op
        refine hK _ ?_; clear hK K
        refine wpMix_act (by kernel_rfl) (fun K hK => ?_)
        go_big_op
        refine hK _ _ ⟨⟨_, (hbr1S.alloc (Nat.le_trans hbW hbr1S.size) _), (((hbr1S.alloc (Nat.le_trans hbW hbr1S.size) _)).cell (p := ⟨b, off + k * 6, none⟩) hbm).trans c0⟩, rfl⟩ ?_
        clear hK K
        refine mix_world (fun N => Below (w.heap.size) wr N ∧ (N.ownsRow w.heap.size 42 3 u4 ((xs.take k).map bgB).length (((xs.take k).map bgB).flatMap fBlock.enc) ∧ N.cell? ⟨wr1.heap.size, 0, none⟩ = some (.string ⟨#[103, 97, 116, 101]⟩) ∧ N.cell? ⟨wr1.heap.size, 1, none⟩ = some (.string xs[k].id) ∧ N.cell? ⟨wr1.heap.size, 2, none⟩ = some (.string (gtS xs[k])))) ⟨hbr1S.alloc (Nat.le_trans hbW hbr1S.size) _, by refine ⟨World.ownsRow.alloc ((ho.below (Below.drew (Below.refl _ _))).below hbr1) _, ?_, ?_, ?_⟩ <;> simp⟩ ?_
        rintro wr2 ⟨hbr2S, hbr2F⟩
        refine wpMix_act (by kernel_rfl) (fun K hK => ?_)
        obtain ⟨hown9, q0, q1, q2⟩ := hbr2F
        refine wp_append_at1 _ _ _ 24 rfl w.heap.size 42 i0 (.agg #[.string ⟨#[]⟩, .string ⟨#[]⟩, .string ⟨#[]⟩]) 3 48 Tryd.underlying24 hi hz0 hz1 hz2 rfl (by decide) u4 ((xs.take k).map bgB).length _ rfl hown9 [.string ⟨#[103, 97, 116, 101]⟩, .string xs[k].id, .string (gtS xs[k])] rfl (by intro u hu; simp at hu; rcases hu with rfl | rfl | rfl <;> rfl) wr1.heap.size rfl (by intro j u hj; match j, hj with | 0, hj => (injection hj with hj; subst hj; exact q0) | 1, hj => (injection hj with hj; subst hj; exact q1) | 2, hj => (injection hj with hj; subst hj; exact q2) | j + 3, hj => (simp at hj)) (by rw [List.length_map, List.length_take]; omega) (by decide) (Nat.le_trans hbW hbr2S.size) ?_
        intro v' u hown hbu hgr
        have hbuS : Below (w.heap.size) wr u := hbr2S.trans hbu
        try simp only [Act.put, List.setIfInBounds_toArray, List.set_cons_zero, List.set_cons_succ]
        refine hK _ _ ⟨⟨_, hbuS, ((hbuS).cell (p := ⟨b, off + k * 6, none⟩) hbm).trans c0⟩, rfl⟩ ?_
        clear hK K
        refine wpMix_pure (by kernel_rfl) (fun K hK => ?_)
        go_big_quiet_op
        refine hK _ ?_; clear hK K
        refine wpMix_nil ?_
        have ho5 : Own fBlock u w.heap.size 42 v' ((xs.take (k + 1)).map bgB) := by rw [HST.out]; exact Own.push (bgB xs[k]) (by simp) hown
        clear hown
        have hb9 := hb.trans hbuS
        go_wp2
        go_roundw
        case rel => exact ⟨k + 1, by omega, by go_num, ho5, hb9⟩
        case measure => simp [intOf]; omega
      · have hke : k = xs.length := by omega
        subst hke
        rw [List.take_length] at ho
        have ho5 : Own fBlock wr w.heap.size 42 u4 (bgF xs) := by rw [HF.out]; exact ho
        have hoks : ∀ y ∈ bgF xs, fBlock.ok y := by rw [HF.out]; intro y hy; exact bg_oks H0.out xs.length y (by rw [List.take_length]; exact hy)
        clear ho
        go_wp2
        go_ret2
        exact ⟨_, by rw [HC.out]; rfl, ho5.new hb hoks⟩
theorem PGate.kept {w w' : World} {g : Nat} {x : DGate} (h : PGate w g 0 x) (hb : ∀ j, w'.cell? ⟨g, j, none⟩ = w.cell? ⟨g, j, none⟩) : PGate w' g 0 x :=
  ⟨(hb _).trans h.c0, (hb _).trans h.c1, (hb _).trans h.c2, (hb _).trans h.c3, (hb _).trans h.c4, (hb _).trans h.c5⟩
set_option maxRecDepth 100000 in
set_option maxHeartbeats 4000000 in
theorem implBlocksOfGates_any (v : Value) (xs : List DGate) (fp : List Nat) (w : World) (hx : Sl fGate.cod w v xs fp) (hl : xs.length ≤ 1048576) (ht : Tab10 w) :
    Calls Tryd.prog 7 #[v] w fun e w' => NewR2 fBlock.cod w (bgF xs) (bgC xs) e w' := by
  obtain ⟨A, cap, rfl, hle, hca⟩ := hx.form
  obtain ⟨i0, hi, hz0, hz1, hz2⟩ := info_parts infoBlockG
  go_enter Tryd.func7, Tryd.ntmps7
  go_wp2_with fail
  refine (validGates_any _ xs fp _ hx).mono ?_
  rintro e w1 ⟨rfl, hb1⟩
  cases h0 : gatesB xs
  · go_wp2
    go_ret2
    exact ⟨_, by rw [bgC, h0]; rfl, by rw [bgF, h0]; exact New.nil hb1⟩
  · have HC := Lib.hid (show bgC xs = 0 from by rw [bgC, h0]; rfl)
    have HF := Lib.hid (show bgF xs = xs.map bgB from by rw [bgF, h0]; rfl)
    have H0 := Lib.hid h0
    clear h0
    go_wp2
    go_loopw [4, 12] (fun v i wr => ∃ k : Nat, k ≤ xs.length ∧ i = .int .i64 k ∧ Own fBlock wr w.heap.size 42 v ((xs.take k).map bgB) ∧ Below w.heap.size w wr) (fun _ i _ => xs.length - (intOf i).toNat)
    case atStart => exact ⟨0, Nat.zero_le _, rfl, Own.nil fBlock _ _ _, hb1⟩
    case round =>
      obtain ⟨k, hk, rfl, ho, hb⟩ := hrel
      by_cases hlt : k < xs.length
      · obtain ⟨b, off, rfl, _, hok, hp⟩ := PGate.elem (hx.below' hb) hlt
        have hv := gatesB_one H0.out hlt
        have HST : Hid ((xs.take (k + 1)).map bgB = (xs.take k).map bgB ++ [bgB xs[k]]) := take_map_step bgB hlt
        obtain ⟨c0, c1, c2, c3, c4, c5⟩ := id hp
        have hrow : u4.ownBlock ≠ some wr.heap.size := fun e => by have := (World.ownsRow.lt ho _ e).2; omega
        go_wp2
        refine at_world (fun W => Below w.heap.size w W ∧ PGate W wr.heap.size 0 xs[k] ∧ Own fBlock W w.heap.size 42 u4 ((xs.take k).map bgB)) ⟨hb.alloc hb.size _, PGate.box wr xs[k] _, World.ownsRow.alloc ho _⟩ ?_
        clear c0 c1 c2 c3 c4 c5 hp ho
        generalize wr.heap.size = wq at *
        rintro W ⟨hBW, hpW, hoW⟩
        have hbW := hBW.size
        have hrowne : some wq = u4.ownBlock → False := fun e => hrow e.symm
        have gk0 : ∀ p : KeptW (w.heap.size) W (fun N => PGate N wq 0 xs[k]), p.v.cell? ⟨wq, 0, none⟩ = some (.string xs[k].id) := fun p => p.x.c0
        have gk1 : ∀ p : KeptW (w.heap.size) W (fun N => PGate N wq 0 xs[k]), p.v.cell? ⟨wq, 1, none⟩ = some (.int .i64 xs[k].shut) := fun p => p.x.c1
        have gk2 : ∀ p : KeptW (w.heap.size) W (fun N => PGate N wq 0 xs[k]), p.v.cell? ⟨wq, 2, none⟩ = some (.int .i64 xs[k].open_) := fun p => p.x.c2
        have gk3 : ∀ p : KeptW (w.heap.size) W (fun N => PGate N wq 0 xs[k]), p.v.cell? ⟨wq, 3, none⟩ = some (.int .i64 xs[k].hold) := fun p => p.x.c3
        have gk4 : ∀ p : KeptW (w.heap.size) W (fun N => PGate N wq 0 xs[k]), p.v.cell? ⟨wq, 4, none⟩ = some (.bool xs[k].shuts) := fun p => p.x.c4
        have gk5 : ∀ p : KeptW (w.heap.size) W (fun N => PGate N wq 0 xs[k]), p.v.cell? ⟨wq, 5, none⟩ = some (.int .i64 xs[k].calm) := fun p => p.x.c5
        haveI hKne : Nonempty (KeptW (w.heap.size) W (fun N => PGate N wq 0 xs[k])) := ⟨⟨_, Below.drew (Below.refl _ _), (hpW.below' (Below.drew (Below.refl _ _)))⟩⟩
        refine wp_region_mix (C := fun w' => ∃ p : KeptW (w.heap.size) W (fun N => PGate N wq 0 xs[k]), w' = p.v) [true, true, true, true, false, true, false, false, true] (by kernel_rfl) (by kernel_rfl) (by kernel_rfl) (fun _ _ d _ _ h => by cases d <;> exact h) ⟨⟨_, Below.drew (Below.refl _ _), (hpW.below' (Below.drew (Below.refl _ _)))⟩, rfl⟩ ?_
        have hS0 : Below (w.heap.size) W W.drew := Below.drew (Below.refl _ _)
        refine wpMix_pure (by kernel_rfl) (fun K hK => ?_)
        go_big_quiet_op
        refine hK _ ?_; clear hK K
        refine wpMix_pure (by kernel_rfl) (fun K hK => ?_)
        go_big_quiet_op
        refine hK _ ?_; clear hK K
        refine wpMix_pure (by kernel_rfl) (fun K hK => ?_)
        go_big_quiet_op
        refine hK _ ?_; clear hK K
        refine wpMix_pure (by kernel_rfl) (fun K hK => ?_)
        go_big_quiet_op
        refine hK _ ?_; clear hK K
        refine wpMix_act (by kernel_rfl) (fun K hK => ?_)
        go_big_op
        refine (GateText_any xs[k] _ hok hv (ht.below (hBW.trans hS0))).mono ?_
        rintro e wr1 ⟨rfl, hbr1⟩
        have hbr1S : Below (w.heap.size) W wr1 := hS0.trans (hbr1.mono (Nat.le_trans hbW hS0.size))
        refine hK _ _ ⟨⟨_, hbr1S, (((hpW.below' (Below.drew (Below.refl _ _)))).below' hbr1)⟩, rfl⟩ ?_
        clear hK K
        refine wpMix_pure (by kernel_rfl) (fun K hK => ?_)
        go_big_quiet_op
        refine hK _ ?_; clear hK K
        refine wpMix_act (by kernel_rfl) (fun K hK => ?_)
        go_big_op
        refine hK _ _ ⟨⟨_, (hbr1S.alloc (Nat.le_trans hbW hbr1S.size) _), (((((hpW.below' (Below.drew (Below.refl _ _)))).below' hbr1)).below' ((Below.refl _ _).alloc (Nat.le_refl _) _))⟩, rfl⟩ ?_
        clear hK K
        refine mix_world (fun N => Below (w.heap.size) W N ∧ PGate N wq 0 xs[k] ∧ (N.ownsRow w.heap.size 42 3 u4 ((xs.take k).map bgB).length (((xs.take k).map bgB).flatMap fBlock.enc) ∧ N.cell? ⟨wr1.heap.size, 0, none⟩ = some (.string ⟨#[103, 97, 116, 101]⟩) ∧ N.cell? ⟨wr1.heap.size, 1, none⟩ = some (.string xs[k].id) ∧ N.cell? ⟨wr1.heap.size, 2, none⟩ = some (.string (gtS xs[k])))) ⟨hbr1S.alloc (Nat.le_trans hbW hbr1S.size) _, ⟨((hpW.below' (Below.drew (Below.refl _ _))).below' hbr1).below' ((Below.refl _ _).alloc (Nat.le_refl _) _), by refine ⟨World.ownsRow.alloc ((hoW.below (Below.drew (Below.refl _ _))).below hbr1) _, ?_, ?_, ?_⟩ <;> simp⟩⟩ ?_
        rintro wr2 ⟨hbr2S, hbr2F⟩
        refine wpMix_act (by kernel_rfl) (fun K hK => ?_)
        obtain ⟨hown9, q0, q1, q2⟩ := hbr2F.2
        refine wp_append_at1 _ _ _ 24 rfl w.heap.size 42 i0 (.agg #[.string ⟨#[]⟩, .string ⟨#[]⟩, .string ⟨#[]⟩]) 3 48 Tryd.underlying24 hi hz0 hz1 hz2 rfl (by decide) u4 ((xs.take k).map bgB).length _ rfl hown9 [.string ⟨#[103, 97, 116, 101]⟩, .string xs[k].id, .string (gtS xs[k])] rfl (by intro u hu; simp at hu; rcases hu with rfl | rfl | rfl <;> rfl) wr1.heap.size rfl (by intro j u hj; match j, hj with | 0, hj => (injection hj with hj; subst hj; exact q0) | 1, hj => (injection hj with hj; subst hj; exact q1) | 2, hj => (injection hj with hj; subst hj; exact q2) | j + 3, hj => (simp at hj)) (by rw [List.length_map, List.length_take]; omega) (by decide) (Nat.le_trans hbW hbr2S.size) ?_
        intro v' u hown hbu hgr
        have hpu : PGate u wq 0 xs[k] := hbr2F.1.kept (fun j => World.cell?_of_block (a := ⟨wq, j, none⟩) (hgr.block wq hbr2F.1.lt (fun e => hrowne e)))
        have hbuS : Below (w.heap.size) W u := hbr2S.trans hbu
        try simp only [Act.put, List.setIfInBounds_toArray, List.set_cons_zero, List.set_cons_succ]
        refine hK _ _ ⟨⟨_, hbuS, hpu⟩, rfl⟩ ?_
        clear hK K
        refine wpMix_pure (by kernel_rfl) (fun K hK => ?_)
        go_big_quiet_op
        refine hK _ ?_; clear hK K
        refine wpMix_nil ?_
        have ho5 : Own fBlock u w.heap.size 42 v' ((xs.take (k + 1)).map bgB) := by rw [HST.out]; exact Own.push (bgB xs[k]) (by simp) hown
        clear hown
        have hb9 := hBW.trans hbuS
        go_wp2
        go_roundw
        case rel => exact ⟨k + 1, by omega, by go_num, ho5, hb9⟩
        case measure => simp [intOf]; omega
      · have hke : k = xs.length := by omega
        subst hke
        rw [List.take_length] at ho
        have ho5 : Own fBlock wr w.heap.size 42 u4 (bgF xs) := by rw [HF.out]; exact ho
        have hoks : ∀ y ∈ bgF xs, fBlock.ok y := by rw [HF.out]; intro y hy; exact bg_oks H0.out xs.length y (by rw [List.take_length]; exact hy)
        clear ho
        go_wp2
        go_ret2
        exact ⟨_, by rw [HC.out]; rfl, ho5.new hb hoks⟩

end Go.Proofs.YtdlihohkamajbaaDoor
