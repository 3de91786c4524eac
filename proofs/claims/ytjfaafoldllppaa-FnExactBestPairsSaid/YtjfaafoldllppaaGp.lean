
/- Contracts: what a group lacks, the program's way. Written by wip/gen/gp.py. -/
import Derived.Test.YtjfaafoldllppaaGl
import Derived.StillTailTactics
namespace Go.Proofs.Ytjfaafoldllppaa
open Go.RowKit
set_option linter.unusedVariables false

set_option maxRecDepth 100000 in
set_option maxHeartbeats 2000000 in
theorem kit_any (pb po : Nat) (x : DGroup) (w : World) (hp : PGroup w pb po x) :
    Calls Try.prog 69 #[.pointer (some ⟨pb, po, none⟩)] w fun e w' => e = .returned (.agg #[.pointer (some ⟨pb, po+3, none⟩), .pointer (some ⟨pb, po+4, none⟩), .pointer (some ⟨pb, po+5, none⟩)]) ∧ Below w.heap.size w w' := by
  have hplt := hp.lt
  go_enter Try.func69, Try.ntmps69
  go_wp2
  go_still_tail 10, (by kernel_rfl)
  change wpList _ _ _ _ _ (World.drew _)
  go_wp2
  exact bodyPost_ret (v := .agg #[.pointer (some ⟨pb, po+3, none⟩), .pointer (some ⟨pb, po+4, none⟩), .pointer (some ⟨pb, po+5, none⟩)]) (by simp [results, Try.results69, go_sem]) rfl ⟨rfl, below_drewN ((Below.refl _ _).alloc (Nat.le_refl _) _) 1⟩

def lackK (x : DGroup) (k : Nat) : List ByteArray :=
  match k with
  | 0 => []
  | 1 => lack x.beacons x.people [98, 101, 97, 99, 111, 110, 115]
  | 2 => lack x.beacons x.people [98, 101, 97, 99, 111, 110, 115] ++ lack x.shovels x.people [115, 104, 111, 118, 101, 108, 115]
  | _ => lacksF x
theorem lackK_ok (x : DGroup) (k : Nat) : ∀ s ∈ lackK x k, fStr.ok s := by
  intro s hs
  refine lacksF_ok x s ?_
  unfold lackK at hs
  unfold lacksF
  split at hs
  · simp at hs
  · simp [hs]
  · rw [List.append_assoc] ; simp at hs; rcases hs with h | h <;> simp [h]
  · exact hs
theorem lackK_len (x : DGroup) (k : Nat) : (lackK x k).length ≤ 3 := by
  unfold lackK lacksF lack
  split
  all_goals
    (try simp only [List.length_append])
    (repeat' split) <;> simp

theorem ix_p0 (a b c : Value) (w : World) : Sem.run Try.prog (Instr.index 100 (.agg #[a, b, c]) (.int .i64 0)) w = .ok a w := by kernel_rfl
theorem ix_p1 (a b c : Value) (w : World) : Sem.run Try.prog (Instr.index 100 (.agg #[a, b, c]) (.int .i64 1)) w = .ok b w := by kernel_rfl
theorem ix_p2 (a b c : Value) (w : World) : Sem.run Try.prog (Instr.index 100 (.agg #[a, b, c]) (.int .i64 2)) w = .ok c w := by kernel_rfl
theorem ix_s0 (a b c : Value) (w : World) : Sem.run Try.prog (Instr.index 102 (.agg #[a, b, c]) (.int .i64 0)) w = .ok a w := by kernel_rfl
theorem ix_s1 (a b c : Value) (w : World) : Sem.run Try.prog (Instr.index 102 (.agg #[a, b, c]) (.int .i64 1)) w = .ok b w := by kernel_rfl
theorem ix_s2 (a b c : Value) (w : World) : Sem.run Try.prog (Instr.index 102 (.agg #[a, b, c]) (.int .i64 2)) w = .ok c w := by kernel_rfl

set_option maxRecDepth 100000 in
set_option maxHeartbeats 4000000 in
theorem problems_any (x : DGroup) (w : World) :
    Calls Try.prog 46 #[.agg #[.string x.id, .int .i64 x.people, .int .i64 x.guides, .int .i64 x.beacons, .int .i64 x.shovels, .int .i64 x.probes, .int .i64 x.skill]] w fun e w' => NewR fStr.cod w (lacksF x) e w' := by
  obtain ⟨i0, hi, hz0, hz1, hz2⟩ := info_parts infoStr0
  have hpg := PGroup.box w x 43
  have hplt := hpg.lt
  go_enter Try.func46, Try.ntmps46
  go_wp2_with fail
  refine (kit_any _ _ x _ hpg).mono ?_
  rintro e w2 ⟨rfl, hb2⟩
  have hs1 : (w.alloc (Obj.cells #[.string x.id, .int .i64 x.people, .int .i64 x.guides, .int .i64 x.beacons, .int .i64 x.shovels, .int .i64 x.probes, .int .i64 x.skill] 43)).heap.size = w.heap.size + 1 := by simp
  have hb1 := (Below.refl w.heap.size w).alloc (Nat.le_refl _) (Obj.cells #[.string x.id, .int .i64 x.people, .int .i64 x.guides, .int .i64 x.beacons, .int .i64 x.shovels, .int .i64 x.probes, .int .i64 x.skill] 43)
  generalize w.alloc (Obj.cells #[.string x.id, .int .i64 x.people, .int .i64 x.guides, .int .i64 x.beacons, .int .i64 x.shovels, .int .i64 x.probes, .int .i64 x.skill] 43) = w1 at *
  rw [hs1] at hb2
  go_wp2
  go_loopw [3, 7] (fun l i wr => ∃ k : Nat, k ≤ 3 ∧ i = .int .i64 k ∧ Below (w.heap.size + 1) w1 wr ∧ wr.ownsRow (w.heap.size + 1) 9 1 l (lackK x k).length ((lackK x k).flatMap fStr.enc)) (fun _ i _ => 3 - (intOf i).toNat)
  case atStart => exact ⟨0, by omega, rfl, hb2, rfl, .inl ⟨rfl, rfl⟩⟩
  case round =>
    obtain ⟨k, hk, rfl, hb, hown⟩ := hrel
    have hk4 : k = 0 ∨ k = 1 ∨ k = 2 ∨ k = 3 := by omega
    obtain ⟨_, c1, _, c3, c4, c5, _⟩ := hpg.below hb (by omega)
    have e0 := ix_p0
    have e1 := ix_p1
    have e2 := ix_p2
    have e3 := ix_s0
    have e4 := ix_s1
    have e5 := ix_s2
    rcases hk4 with rfl | rfl | rfl | rfl
    · by_cases h : x.beacons < x.people
      · have HL := Lib.hid (show lackK x 1 = lackK x 0 ++ [⟨#[98, 101, 97, 99, 111, 110, 115]⟩] from by show lack x.beacons x.people _ = _; unfold lack; rw [if_pos h]; rfl)
        have hlen := lackK_len x 0
        go_wp2
        go_quiet (fail)
        have hbq := hb.trans (below_drewN (Below.refl _ _) nq)
        have hoq : (wr.drewN nq).ownsRow (w.heap.size + 1) 9 1 u3 (lackK x 0).length ((lackK x 0).flatMap fStr.enc) := hown
        have hsq := hbq.size
        clear hb hown c1 c3 c4 c5
        generalize wr.drewN nq = wq at *
        go_wp2_with (at_builtin; refine wpList_append_one rfl _ _ 38 rfl (w.heap.size + 1) 9 i0 (.string ⟨#[]⟩) 1 16 Try.underlying38 hi hz0 hz1 hz2 rfl (by decide) u3 _ _ rfl hoq [.string ⟨#[98, 101, 97, 99, 111, 110, 115]⟩] rfl (by intro u hu; rw [List.mem_singleton] at hu; subst hu; rfl) rfl (by omega) (by decide) (by omega) ?_)
        intro v' u' ho' hbu _ _
        have hb' := hbq.trans hbu
        go_wp2
        go_roundw
        case rel => exact ⟨1, by omega, by go_num, hb', by rw [HL.out, List.flatMap_append, List.length_append]; exact ho'⟩
        case measure => first | (simp [intOf]; done) | (simp [intOf]; omega)
      · have HL := Lib.hid (show lackK x 1 = lackK x 0 from by show lack x.beacons x.people _ = _; unfold lack; rw [if_neg h]; rfl)
        go_wp2
        go_quiet (fail)
        have hbq := hb.trans (below_drewN (Below.refl _ _) nq)
        go_wp2
        go_roundw
        case rel => exact ⟨1, by omega, by go_num, hbq, by rw [HL.out]; exact hown⟩
        case measure => first | (simp [intOf]; done) | (simp [intOf]; omega)
    · by_cases h : x.shovels < x.people
      · have HL := Lib.hid (show lackK x 2 = lackK x 1 ++ [⟨#[115, 104, 111, 118, 101, 108, 115]⟩] from by show _ ++ lack x.shovels x.people _ = _; unfold lack; rw [if_pos h]; rfl)
        have hlen := lackK_len x 1
        go_wp2
        go_quiet (fail)
        have hbq := hb.trans (below_drewN (Below.refl _ _) nq)
        have hoq : (wr.drewN nq).ownsRow (w.heap.size + 1) 9 1 u3 (lackK x 1).length ((lackK x 1).flatMap fStr.enc) := hown
        have hsq := hbq.size
        clear hb hown c1 c3 c4 c5
        generalize wr.drewN nq = wq at *
        go_wp2_with (at_builtin; refine wpList_append_one rfl _ _ 38 rfl (w.heap.size + 1) 9 i0 (.string ⟨#[]⟩) 1 16 Try.underlying38 hi hz0 hz1 hz2 rfl (by decide) u3 _ _ rfl hoq [.string ⟨#[115, 104, 111, 118, 101, 108, 115]⟩] rfl (by intro u hu; rw [List.mem_singleton] at hu; subst hu; rfl) rfl (by omega) (by decide) (by omega) ?_)
        intro v' u' ho' hbu _ _
        have hb' := hbq.trans hbu
        go_wp2
        go_roundw
        case rel => exact ⟨2, by omega, by go_num, hb', by rw [HL.out, List.flatMap_append, List.length_append]; exact ho'⟩
        case measure => first | (simp [intOf]; done) | (simp [intOf]; omega)
      · have HL := Lib.hid (show lackK x 2 = lackK x 1 from by show _ ++ lack x.shovels x.people _ = _; unfold lack; rw [if_neg h]; exact List.append_nil _)
        go_wp2
        go_quiet (fail)
        have hbq := hb.trans (below_drewN (Below.refl _ _) nq)
        go_wp2
        go_roundw
        case rel => exact ⟨2, by omega, by go_num, hbq, by rw [HL.out]; exact hown⟩
        case measure => first | (simp [intOf]; done) | (simp [intOf]; omega)
    · by_cases h : x.probes < x.people
      · have HL := Lib.hid (show lackK x 3 = lackK x 2 ++ [⟨#[112, 114, 111, 98, 101, 115]⟩] from by show _ ++ lack x.probes x.people _ = _; unfold lack; rw [if_pos h]; rfl)
        have hlen := lackK_len x 2
        go_wp2
        go_quiet (fail)
        have hbq := hb.trans (below_drewN (Below.refl _ _) nq)
        have hoq : (wr.drewN nq).ownsRow (w.heap.size + 1) 9 1 u3 (lackK x 2).length ((lackK x 2).flatMap fStr.enc) := hown
        have hsq := hbq.size
        clear hb hown c1 c3 c4 c5
        generalize wr.drewN nq = wq at *
        go_wp2_with (at_builtin; refine wpList_append_one rfl _ _ 38 rfl (w.heap.size + 1) 9 i0 (.string ⟨#[]⟩) 1 16 Try.underlying38 hi hz0 hz1 hz2 rfl (by decide) u3 _ _ rfl hoq [.string ⟨#[112, 114, 111, 98, 101, 115]⟩] rfl (by intro u hu; rw [List.mem_singleton] at hu; subst hu; rfl) rfl (by omega) (by decide) (by omega) ?_)
        intro v' u' ho' hbu _ _
        have hb' := hbq.trans hbu
        go_wp2
        go_roundw
        case rel => exact ⟨3, by omega, by go_num, hb', by rw [HL.out, List.flatMap_append, List.length_append]; exact ho'⟩
        case measure => first | (simp [intOf]; done) | (simp [intOf]; omega)
      · have HL := Lib.hid (show lackK x 3 = lackK x 2 from by show _ ++ lack x.probes x.people _ = _; unfold lack; rw [if_neg h]; exact List.append_nil _)
        go_wp2
        go_quiet (fail)
        have hbq := hb.trans (below_drewN (Below.refl _ _) nq)
        go_wp2
        go_roundw
        case rel => exact ⟨3, by omega, by go_num, hbq, by rw [HL.out]; exact hown⟩
        case measure => first | (simp [intOf]; done) | (simp [intOf]; omega)
    · go_wp2
      go_ret
      obtain ⟨fp, hs, hf, hn⟩ := Sl.of_own (E := fStr) (n := (lackK x 3).length) rfl hown (lackK_ok x 3)
      exact ⟨_, rfl, ⟨⟨fp, hs, fun b hb' => Nat.le_of_succ_le (hf b hb'), hn⟩, hb1.trans (hb.mono (Nat.le_succ _))⟩⟩
end Go.Proofs.Ytjfaafoldllppaa
