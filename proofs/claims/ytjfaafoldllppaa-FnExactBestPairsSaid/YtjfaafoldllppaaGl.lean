
/- Contracts: what a group lacks. Written by wip/gen/gl.py. -/
import Derived.Test.YtjfaafoldllppaaGq
import Derived.Test.YtjfaafoldllppaaTString
namespace Go.Proofs.Ytjfaafoldllppaa
open Go.RowKit
set_option linter.unusedVariables false

theorem infoStr0 : (Try.prog.info? 9).map (fun i => (i.zero, i.size, i.bytes)) = some (some (.string ⟨#[]⟩), 1, 16) := by kernel_rfl
def lack (b p : Int) (s : List UInt8) : List ByteArray := if b < p then [⟨s.toArray⟩] else []
def lacksF (x : DGroup) : List ByteArray := lack x.beacons x.people [98, 101, 97, 99, 111, 110, 115] ++ lack x.shovels x.people [115, 104, 111, 118, 101, 108, 115] ++ lack x.probes x.people [112, 114, 111, 98, 101, 115]
theorem lacksF_len (x : DGroup) : (lacksF x).length ≤ 3 := by
  unfold lacksF lack
  simp only [List.length_append]
  (repeat' split) <;> simp
theorem lacksF_ok (x : DGroup) : ∀ s ∈ lacksF x, fStr.ok s := by
  unfold lacksF lack
  intro s hs
  show s.size ≤ _
  simp only [List.mem_append] at hs
  rcases hs with (hs | hs) | hs
  all_goals
    split at hs
    · simp at hs; subst hs; show _ ≤ 9223372036854775807; decide
    · simp at hs

set_option maxRecDepth 100000 in
set_option maxHeartbeats 4000000 in
theorem l24Lacks_any (pb po : Nat) (x : DGroup) (w : World) (hp : PGroup w pb po x) :
    Calls Try.prog 73 #[.pointer (some ⟨pb, po, none⟩)] w fun e w' => NewR fStr.cod w (lacksF x) e w' := by
  obtain ⟨i0, hi, hz0, hz1, hz2⟩ := info_parts infoStr0
  have hplt := hp.lt
  by_cases h1 : x.beacons < x.people
  · by_cases h2 : x.shovels < x.people
    · by_cases h3 : x.probes < x.people
      · have HF := Lib.hid (show lacksF x = [⟨#[98, 101, 97, 99, 111, 110, 115]⟩, ⟨#[115, 104, 111, 118, 101, 108, 115]⟩, ⟨#[112, 114, 111, 98, 101, 115]⟩] from by unfold lacksF lack; rw [if_pos h1, if_pos h2, if_pos h3]; rfl)
        go_enter Try.func73, Try.ntmps73
        go_wp2
        have hb := (Below.refl w.heap.size w).alloc (Nat.le_refl _) (Obj.cells #[] 9)
        have hown := World.ownsRow_lit (e := 9) (size := 1) w #[] 0 (Nat.le_refl w.heap.size) (by decide) rfl
        have hq := hp.below hb hplt
        generalize w.alloc (Obj.cells #[] 9) = wa at *
        obtain ⟨_, c1, _, c3, c4, c5, _⟩ := hq
        go_quiet (fail)
        have hb0 := hb.trans ((below_drewN (Below.refl _ _) nq))
        have ho0 : (wa.drewN nq).ownsRow w.heap.size 9 1 (.slice (some ⟨w.heap.size, 0, none⟩) 0 0) 0 [] := hown
        have hq0 := hp.below hb0 hplt
        have hs0 := hb0.size
        clear hb hown c1 c3 c4 c5
        generalize wa.drewN nq = w0 at *
        go_wp2_with (at_builtin; refine wpList_append_one rfl _ _ 38 rfl w.heap.size 9 i0 (.string ⟨#[]⟩) 1 16 Try.underlying38 hi hz0 hz1 hz2 rfl (by decide) (.slice (some ⟨w.heap.size, 0, none⟩) 0 0) 0 _ rfl ho0 [.string ⟨#[98, 101, 97, 99, 111, 110, 115]⟩] rfl (by intro u hu; rw [List.mem_singleton] at hu; subst hu; rfl) rfl (by decide) (by decide) hs0 ?_)
        intro v0 u0 hown hbu _ _
        have hb := hb0.trans hbu
        have hq := hp.below hb hplt
        go_wp2_with fail
        obtain ⟨_, c1, _, c3, c4, c5, _⟩ := hq
        go_quiet (fail)
        have hb1 := hb.trans ((below_drewN (Below.refl _ _) nq))
        have ho1 : (u0.drewN nq).ownsRow w.heap.size 9 1 v0 1 [.string ⟨#[98, 101, 97, 99, 111, 110, 115]⟩] := hown
        have hq1 := hp.below hb1 hplt
        have hs1 := hb1.size
        clear hb hown c1 c3 c4 c5
        generalize u0.drewN nq = w1 at *
        go_wp2_with (at_builtin; refine wpList_append_one rfl _ _ 38 rfl w.heap.size 9 i0 (.string ⟨#[]⟩) 1 16 Try.underlying38 hi hz0 hz1 hz2 rfl (by decide) v0 1 _ rfl ho1 [.string ⟨#[115, 104, 111, 118, 101, 108, 115]⟩] rfl (by intro u hu; rw [List.mem_singleton] at hu; subst hu; rfl) rfl (by decide) (by decide) hs1 ?_)
        intro v1 u1 hown hbu _ _
        have hb := hb1.trans hbu
        have hq := hp.below hb hplt
        go_wp2_with fail
        obtain ⟨_, c1, _, c3, c4, c5, _⟩ := hq
        go_quiet (fail)
        have hb2 := hb.trans ((below_drewN (Below.refl _ _) nq))
        have ho2 : (u1.drewN nq).ownsRow w.heap.size 9 1 v1 2 [.string ⟨#[98, 101, 97, 99, 111, 110, 115]⟩, .string ⟨#[115, 104, 111, 118, 101, 108, 115]⟩] := hown
        have hq2 := hp.below hb2 hplt
        have hs2 := hb2.size
        clear hb hown c1 c3 c4 c5
        generalize u1.drewN nq = w2 at *
        go_wp2_with (at_builtin; refine wpList_append_one rfl _ _ 38 rfl w.heap.size 9 i0 (.string ⟨#[]⟩) 1 16 Try.underlying38 hi hz0 hz1 hz2 rfl (by decide) v1 2 _ rfl ho2 [.string ⟨#[112, 114, 111, 98, 101, 115]⟩] rfl (by intro u hu; rw [List.mem_singleton] at hu; subst hu; rfl) rfl (by decide) (by decide) hs2 ?_)
        intro v2 u2 hown hbu _ _
        have hb := hb2.trans hbu
        go_wp2
        go_ret
        refine ⟨_, rfl, ⟨?_, hb⟩⟩
        rw [HF.out]
        exact Sl.of_own (E := fStr) (n := 3) rfl hown (by rw [← HF.out]; exact lacksF_ok x)
      · have HF := Lib.hid (show lacksF x = [⟨#[98, 101, 97, 99, 111, 110, 115]⟩, ⟨#[115, 104, 111, 118, 101, 108, 115]⟩] from by unfold lacksF lack; rw [if_pos h1, if_pos h2, if_neg h3]; rfl)
        go_enter Try.func73, Try.ntmps73
        go_wp2
        have hb := (Below.refl w.heap.size w).alloc (Nat.le_refl _) (Obj.cells #[] 9)
        have hown := World.ownsRow_lit (e := 9) (size := 1) w #[] 0 (Nat.le_refl w.heap.size) (by decide) rfl
        have hq := hp.below hb hplt
        generalize w.alloc (Obj.cells #[] 9) = wa at *
        obtain ⟨_, c1, _, c3, c4, c5, _⟩ := hq
        go_quiet (fail)
        have hb0 := hb.trans ((below_drewN (Below.refl _ _) nq))
        have ho0 : (wa.drewN nq).ownsRow w.heap.size 9 1 (.slice (some ⟨w.heap.size, 0, none⟩) 0 0) 0 [] := hown
        have hq0 := hp.below hb0 hplt
        have hs0 := hb0.size
        clear hb hown c1 c3 c4 c5
        generalize wa.drewN nq = w0 at *
        go_wp2_with (at_builtin; refine wpList_append_one rfl _ _ 38 rfl w.heap.size 9 i0 (.string ⟨#[]⟩) 1 16 Try.underlying38 hi hz0 hz1 hz2 rfl (by decide) (.slice (some ⟨w.heap.size, 0, none⟩) 0 0) 0 _ rfl ho0 [.string ⟨#[98, 101, 97, 99, 111, 110, 115]⟩] rfl (by intro u hu; rw [List.mem_singleton] at hu; subst hu; rfl) rfl (by decide) (by decide) hs0 ?_)
        intro v0 u0 hown hbu _ _
        have hb := hb0.trans hbu
        have hq := hp.below hb hplt
        go_wp2_with fail
        obtain ⟨_, c1, _, c3, c4, c5, _⟩ := hq
        go_quiet (fail)
        have hb1 := hb.trans ((below_drewN (Below.refl _ _) nq))
        have ho1 : (u0.drewN nq).ownsRow w.heap.size 9 1 v0 1 [.string ⟨#[98, 101, 97, 99, 111, 110, 115]⟩] := hown
        have hq1 := hp.below hb1 hplt
        have hs1 := hb1.size
        clear hb hown c1 c3 c4 c5
        generalize u0.drewN nq = w1 at *
        go_wp2_with (at_builtin; refine wpList_append_one rfl _ _ 38 rfl w.heap.size 9 i0 (.string ⟨#[]⟩) 1 16 Try.underlying38 hi hz0 hz1 hz2 rfl (by decide) v0 1 _ rfl ho1 [.string ⟨#[115, 104, 111, 118, 101, 108, 115]⟩] rfl (by intro u hu; rw [List.mem_singleton] at hu; subst hu; rfl) rfl (by decide) (by decide) hs1 ?_)
        intro v1 u1 hown hbu _ _
        have hb := hb1.trans hbu
        have hq := hp.below hb hplt
        go_wp2_with fail
        obtain ⟨_, c1, _, c3, c4, c5, _⟩ := hq
        go_quiet (fail)
        have hb2 := hb.trans ((below_drewN (Below.refl _ _) nq))
        have ho2 : (u1.drewN nq).ownsRow w.heap.size 9 1 v1 2 [.string ⟨#[98, 101, 97, 99, 111, 110, 115]⟩, .string ⟨#[115, 104, 111, 118, 101, 108, 115]⟩] := hown
        have hq2 := hp.below hb2 hplt
        have hs2 := hb2.size
        clear hb hown c1 c3 c4 c5
        generalize u1.drewN nq = w2 at *
        have hb := hb2
        have hown := ho2
        go_wp2
        go_ret
        refine ⟨_, rfl, ⟨?_, hb⟩⟩
        rw [HF.out]
        exact Sl.of_own (E := fStr) (n := 2) rfl hown (by rw [← HF.out]; exact lacksF_ok x)
    · by_cases h3 : x.probes < x.people
      · have HF := Lib.hid (show lacksF x = [⟨#[98, 101, 97, 99, 111, 110, 115]⟩, ⟨#[112, 114, 111, 98, 101, 115]⟩] from by unfold lacksF lack; rw [if_pos h1, if_neg h2, if_pos h3]; rfl)
        go_enter Try.func73, Try.ntmps73
        go_wp2
        have hb := (Below.refl w.heap.size w).alloc (Nat.le_refl _) (Obj.cells #[] 9)
        have hown := World.ownsRow_lit (e := 9) (size := 1) w #[] 0 (Nat.le_refl w.heap.size) (by decide) rfl
        have hq := hp.below hb hplt
        generalize w.alloc (Obj.cells #[] 9) = wa at *
        obtain ⟨_, c1, _, c3, c4, c5, _⟩ := hq
        go_quiet (fail)
        have hb0 := hb.trans ((below_drewN (Below.refl _ _) nq))
        have ho0 : (wa.drewN nq).ownsRow w.heap.size 9 1 (.slice (some ⟨w.heap.size, 0, none⟩) 0 0) 0 [] := hown
        have hq0 := hp.below hb0 hplt
        have hs0 := hb0.size
        clear hb hown c1 c3 c4 c5
        generalize wa.drewN nq = w0 at *
        go_wp2_with (at_builtin; refine wpList_append_one rfl _ _ 38 rfl w.heap.size 9 i0 (.string ⟨#[]⟩) 1 16 Try.underlying38 hi hz0 hz1 hz2 rfl (by decide) (.slice (some ⟨w.heap.size, 0, none⟩) 0 0) 0 _ rfl ho0 [.string ⟨#[98, 101, 97, 99, 111, 110, 115]⟩] rfl (by intro u hu; rw [List.mem_singleton] at hu; subst hu; rfl) rfl (by decide) (by decide) hs0 ?_)
        intro v0 u0 hown hbu _ _
        have hb := hb0.trans hbu
        have hq := hp.below hb hplt
        go_wp2_with fail
        obtain ⟨_, c1, _, c3, c4, c5, _⟩ := hq
        go_quiet (fail)
        have hb1 := hb.trans ((below_drewN (Below.refl _ _) nq))
        have ho1 : (u0.drewN nq).ownsRow w.heap.size 9 1 v0 1 [.string ⟨#[98, 101, 97, 99, 111, 110, 115]⟩] := hown
        have hq1 := hp.below hb1 hplt
        have hs1 := hb1.size
        clear hb hown c1 c3 c4 c5
        generalize u0.drewN nq = w1 at *
        have hb := hb1
        have hown := ho1
        have hq := hp.below hb hplt
        go_wp2_with fail
        obtain ⟨_, c1, _, c3, c4, c5, _⟩ := hq
        go_quiet (fail)
        have hb2 := hb.trans ((below_drewN (Below.refl _ _) nq))
        have ho2 : (w1.drewN nq).ownsRow w.heap.size 9 1 v0 1 [.string ⟨#[98, 101, 97, 99, 111, 110, 115]⟩] := hown
        have hq2 := hp.below hb2 hplt
        have hs2 := hb2.size
        clear hb hown c1 c3 c4 c5
        generalize w1.drewN nq = w2 at *
        go_wp2_with (at_builtin; refine wpList_append_one rfl _ _ 38 rfl w.heap.size 9 i0 (.string ⟨#[]⟩) 1 16 Try.underlying38 hi hz0 hz1 hz2 rfl (by decide) v0 1 _ rfl ho2 [.string ⟨#[112, 114, 111, 98, 101, 115]⟩] rfl (by intro u hu; rw [List.mem_singleton] at hu; subst hu; rfl) rfl (by decide) (by decide) hs2 ?_)
        intro v2 u2 hown hbu _ _
        have hb := hb2.trans hbu
        go_wp2
        go_ret
        refine ⟨_, rfl, ⟨?_, hb⟩⟩
        rw [HF.out]
        exact Sl.of_own (E := fStr) (n := 2) rfl hown (by rw [← HF.out]; exact lacksF_ok x)
      · have HF := Lib.hid (show lacksF x = [⟨#[98, 101, 97, 99, 111, 110, 115]⟩] from by unfold lacksF lack; rw [if_pos h1, if_neg h2, if_neg h3]; rfl)
        go_enter Try.func73, Try.ntmps73
        go_wp2
        have hb := (Below.refl w.heap.size w).alloc (Nat.le_refl _) (Obj.cells #[] 9)
        have hown := World.ownsRow_lit (e := 9) (size := 1) w #[] 0 (Nat.le_refl w.heap.size) (by decide) rfl
        have hq := hp.below hb hplt
        generalize w.alloc (Obj.cells #[] 9) = wa at *
        obtain ⟨_, c1, _, c3, c4, c5, _⟩ := hq
        go_quiet (fail)
        have hb0 := hb.trans ((below_drewN (Below.refl _ _) nq))
        have ho0 : (wa.drewN nq).ownsRow w.heap.size 9 1 (.slice (some ⟨w.heap.size, 0, none⟩) 0 0) 0 [] := hown
        have hq0 := hp.below hb0 hplt
        have hs0 := hb0.size
        clear hb hown c1 c3 c4 c5
        generalize wa.drewN nq = w0 at *
        go_wp2_with (at_builtin; refine wpList_append_one rfl _ _ 38 rfl w.heap.size 9 i0 (.string ⟨#[]⟩) 1 16 Try.underlying38 hi hz0 hz1 hz2 rfl (by decide) (.slice (some ⟨w.heap.size, 0, none⟩) 0 0) 0 _ rfl ho0 [.string ⟨#[98, 101, 97, 99, 111, 110, 115]⟩] rfl (by intro u hu; rw [List.mem_singleton] at hu; subst hu; rfl) rfl (by decide) (by decide) hs0 ?_)
        intro v0 u0 hown hbu _ _
        have hb := hb0.trans hbu
        have hq := hp.below hb hplt
        go_wp2_with fail
        obtain ⟨_, c1, _, c3, c4, c5, _⟩ := hq
        go_quiet (fail)
        have hb1 := hb.trans ((below_drewN (Below.refl _ _) nq))
        have ho1 : (u0.drewN nq).ownsRow w.heap.size 9 1 v0 1 [.string ⟨#[98, 101, 97, 99, 111, 110, 115]⟩] := hown
        have hq1 := hp.below hb1 hplt
        have hs1 := hb1.size
        clear hb hown c1 c3 c4 c5
        generalize u0.drewN nq = w1 at *
        have hb := hb1
        have hown := ho1
        have hq := hp.below hb hplt
        go_wp2_with fail
        obtain ⟨_, c1, _, c3, c4, c5, _⟩ := hq
        go_quiet (fail)
        have hb2 := hb.trans ((below_drewN (Below.refl _ _) nq))
        have ho2 : (w1.drewN nq).ownsRow w.heap.size 9 1 v0 1 [.string ⟨#[98, 101, 97, 99, 111, 110, 115]⟩] := hown
        have hq2 := hp.below hb2 hplt
        have hs2 := hb2.size
        clear hb hown c1 c3 c4 c5
        generalize w1.drewN nq = w2 at *
        have hb := hb2
        have hown := ho2
        go_wp2
        go_ret
        refine ⟨_, rfl, ⟨?_, hb⟩⟩
        rw [HF.out]
        exact Sl.of_own (E := fStr) (n := 1) rfl hown (by rw [← HF.out]; exact lacksF_ok x)
  · by_cases h2 : x.shovels < x.people
    · by_cases h3 : x.probes < x.people
      · have HF := Lib.hid (show lacksF x = [⟨#[115, 104, 111, 118, 101, 108, 115]⟩, ⟨#[112, 114, 111, 98, 101, 115]⟩] from by unfold lacksF lack; rw [if_neg h1, if_pos h2, if_pos h3]; rfl)
        go_enter Try.func73, Try.ntmps73
        go_wp2
        have hb := (Below.refl w.heap.size w).alloc (Nat.le_refl _) (Obj.cells #[] 9)
        have hown := World.ownsRow_lit (e := 9) (size := 1) w #[] 0 (Nat.le_refl w.heap.size) (by decide) rfl
        have hq := hp.below hb hplt
        generalize w.alloc (Obj.cells #[] 9) = wa at *
        obtain ⟨_, c1, _, c3, c4, c5, _⟩ := hq
        go_quiet (fail)
        have hb0 := hb.trans ((below_drewN (Below.refl _ _) nq))
        have ho0 : (wa.drewN nq).ownsRow w.heap.size 9 1 (.slice (some ⟨w.heap.size, 0, none⟩) 0 0) 0 [] := hown
        have hq0 := hp.below hb0 hplt
        have hs0 := hb0.size
        clear hb hown c1 c3 c4 c5
        generalize wa.drewN nq = w0 at *
        have hb := hb0
        have hown := ho0
        have hq := hp.below hb hplt
        go_wp2_with fail
        obtain ⟨_, c1, _, c3, c4, c5, _⟩ := hq
        go_quiet (fail)
        have hb1 := hb.trans ((below_drewN (Below.refl _ _) nq))
        have ho1 : (w0.drewN nq).ownsRow w.heap.size 9 1 (.slice (some ⟨w.heap.size, 0, none⟩) 0 0) 0 [] := hown
        have hq1 := hp.below hb1 hplt
        have hs1 := hb1.size
        clear hb hown c1 c3 c4 c5
        generalize w0.drewN nq = w1 at *
        go_wp2_with (at_builtin; refine wpList_append_one rfl _ _ 38 rfl w.heap.size 9 i0 (.string ⟨#[]⟩) 1 16 Try.underlying38 hi hz0 hz1 hz2 rfl (by decide) (.slice (some ⟨w.heap.size, 0, none⟩) 0 0) 0 _ rfl ho1 [.string ⟨#[115, 104, 111, 118, 101, 108, 115]⟩] rfl (by intro u hu; rw [List.mem_singleton] at hu; subst hu; rfl) rfl (by decide) (by decide) hs1 ?_)
        intro v1 u1 hown hbu _ _
        have hb := hb1.trans hbu
        have hq := hp.below hb hplt
        go_wp2_with fail
        obtain ⟨_, c1, _, c3, c4, c5, _⟩ := hq
        go_quiet (fail)
        have hb2 := hb.trans ((below_drewN (Below.refl _ _) nq))
        have ho2 : (u1.drewN nq).ownsRow w.heap.size 9 1 v1 1 [.string ⟨#[115, 104, 111, 118, 101, 108, 115]⟩] := hown
        have hq2 := hp.below hb2 hplt
        have hs2 := hb2.size
        clear hb hown c1 c3 c4 c5
        generalize u1.drewN nq = w2 at *
        go_wp2_with (at_builtin; refine wpList_append_one rfl _ _ 38 rfl w.heap.size 9 i0 (.string ⟨#[]⟩) 1 16 Try.underlying38 hi hz0 hz1 hz2 rfl (by decide) v1 1 _ rfl ho2 [.string ⟨#[112, 114, 111, 98, 101, 115]⟩] rfl (by intro u hu; rw [List.mem_singleton] at hu; subst hu; rfl) rfl (by decide) (by decide) hs2 ?_)
        intro v2 u2 hown hbu _ _
        have hb := hb2.trans hbu
        go_wp2
        go_ret
        refine ⟨_, rfl, ⟨?_, hb⟩⟩
        rw [HF.out]
        exact Sl.of_own (E := fStr) (n := 2) rfl hown (by rw [← HF.out]; exact lacksF_ok x)
      · have HF := Lib.hid (show lacksF x = [⟨#[115, 104, 111, 118, 101, 108, 115]⟩] from by unfold lacksF lack; rw [if_neg h1, if_pos h2, if_neg h3]; rfl)
        go_enter Try.func73, Try.ntmps73
        go_wp2
        have hb := (Below.refl w.heap.size w).alloc (Nat.le_refl _) (Obj.cells #[] 9)
        have hown := World.ownsRow_lit (e := 9) (size := 1) w #[] 0 (Nat.le_refl w.heap.size) (by decide) rfl
        have hq := hp.below hb hplt
        generalize w.alloc (Obj.cells #[] 9) = wa at *
        obtain ⟨_, c1, _, c3, c4, c5, _⟩ := hq
        go_quiet (fail)
        have hb0 := hb.trans ((below_drewN (Below.refl _ _) nq))
        have ho0 : (wa.drewN nq).ownsRow w.heap.size 9 1 (.slice (some ⟨w.heap.size, 0, none⟩) 0 0) 0 [] := hown
        have hq0 := hp.below hb0 hplt
        have hs0 := hb0.size
        clear hb hown c1 c3 c4 c5
        generalize wa.drewN nq = w0 at *
        have hb := hb0
        have hown := ho0
        have hq := hp.below hb hplt
        go_wp2_with fail
        obtain ⟨_, c1, _, c3, c4, c5, _⟩ := hq
        go_quiet (fail)
        have hb1 := hb.trans ((below_drewN (Below.refl _ _) nq))
        have ho1 : (w0.drewN nq).ownsRow w.heap.size 9 1 (.slice (some ⟨w.heap.size, 0, none⟩) 0 0) 0 [] := hown
        have hq1 := hp.below hb1 hplt
        have hs1 := hb1.size
        clear hb hown c1 c3 c4 c5
        generalize w0.drewN nq = w1 at *
        go_wp2_with (at_builtin; refine wpList_append_one rfl _ _ 38 rfl w.heap.size 9 i0 (.string ⟨#[]⟩) 1 16 Try.underlying38 hi hz0 hz1 hz2 rfl (by decide) (.slice (some ⟨w.heap.size, 0, none⟩) 0 0) 0 _ rfl ho1 [.string ⟨#[115, 104, 111, 118, 101, 108, 115]⟩] rfl (by intro u hu; rw [List.mem_singleton] at hu; subst hu; rfl) rfl (by decide) (by decide) hs1 ?_)
        intro v1 u1 hown hbu _ _
        have hb := hb1.trans hbu
        have hq := hp.below hb hplt
        go_wp2_with fail
        obtain ⟨_, c1, _, c3, c4, c5, _⟩ := hq
        go_quiet (fail)
        have hb2 := hb.trans ((below_drewN (Below.refl _ _) nq))
        have ho2 : (u1.drewN nq).ownsRow w.heap.size 9 1 v1 1 [.string ⟨#[115, 104, 111, 118, 101, 108, 115]⟩] := hown
        have hq2 := hp.below hb2 hplt
        have hs2 := hb2.size
        clear hb hown c1 c3 c4 c5
        generalize u1.drewN nq = w2 at *
        have hb := hb2
        have hown := ho2
        go_wp2
        go_ret
        refine ⟨_, rfl, ⟨?_, hb⟩⟩
        rw [HF.out]
        exact Sl.of_own (E := fStr) (n := 1) rfl hown (by rw [← HF.out]; exact lacksF_ok x)
    · by_cases h3 : x.probes < x.people
      · have HF := Lib.hid (show lacksF x = [⟨#[112, 114, 111, 98, 101, 115]⟩] from by unfold lacksF lack; rw [if_neg h1, if_neg h2, if_pos h3]; rfl)
        go_enter Try.func73, Try.ntmps73
        go_wp2
        have hb := (Below.refl w.heap.size w).alloc (Nat.le_refl _) (Obj.cells #[] 9)
        have hown := World.ownsRow_lit (e := 9) (size := 1) w #[] 0 (Nat.le_refl w.heap.size) (by decide) rfl
        have hq := hp.below hb hplt
        generalize w.alloc (Obj.cells #[] 9) = wa at *
        obtain ⟨_, c1, _, c3, c4, c5, _⟩ := hq
        go_quiet (fail)
        have hb0 := hb.trans ((below_drewN (Below.refl _ _) nq))
        have ho0 : (wa.drewN nq).ownsRow w.heap.size 9 1 (.slice (some ⟨w.heap.size, 0, none⟩) 0 0) 0 [] := hown
        have hq0 := hp.below hb0 hplt
        have hs0 := hb0.size
        clear hb hown c1 c3 c4 c5
        generalize wa.drewN nq = w0 at *
        have hb := hb0
        have hown := ho0
        have hq := hp.below hb hplt
        go_wp2_with fail
        obtain ⟨_, c1, _, c3, c4, c5, _⟩ := hq
        go_quiet (fail)
        have hb1 := hb.trans ((below_drewN (Below.refl _ _) nq))
        have ho1 : (w0.drewN nq).ownsRow w.heap.size 9 1 (.slice (some ⟨w.heap.size, 0, none⟩) 0 0) 0 [] := hown
        have hq1 := hp.below hb1 hplt
        have hs1 := hb1.size
        clear hb hown c1 c3 c4 c5
        generalize w0.drewN nq = w1 at *
        have hb := hb1
        have hown := ho1
        have hq := hp.below hb hplt
        go_wp2_with fail
        obtain ⟨_, c1, _, c3, c4, c5, _⟩ := hq
        go_quiet (fail)
        have hb2 := hb.trans ((below_drewN (Below.refl _ _) nq))
        have ho2 : (w1.drewN nq).ownsRow w.heap.size 9 1 (.slice (some ⟨w.heap.size, 0, none⟩) 0 0) 0 [] := hown
        have hq2 := hp.below hb2 hplt
        have hs2 := hb2.size
        clear hb hown c1 c3 c4 c5
        generalize w1.drewN nq = w2 at *
        go_wp2_with (at_builtin; refine wpList_append_one rfl _ _ 38 rfl w.heap.size 9 i0 (.string ⟨#[]⟩) 1 16 Try.underlying38 hi hz0 hz1 hz2 rfl (by decide) (.slice (some ⟨w.heap.size, 0, none⟩) 0 0) 0 _ rfl ho2 [.string ⟨#[112, 114, 111, 98, 101, 115]⟩] rfl (by intro u hu; rw [List.mem_singleton] at hu; subst hu; rfl) rfl (by decide) (by decide) hs2 ?_)
        intro v2 u2 hown hbu _ _
        have hb := hb2.trans hbu
        go_wp2
        go_ret
        refine ⟨_, rfl, ⟨?_, hb⟩⟩
        rw [HF.out]
        exact Sl.of_own (E := fStr) (n := 1) rfl hown (by rw [← HF.out]; exact lacksF_ok x)
      · have HF := Lib.hid (show lacksF x = [] from by unfold lacksF lack; rw [if_neg h1, if_neg h2, if_neg h3]; rfl)
        go_enter Try.func73, Try.ntmps73
        go_wp2
        have hb := (Below.refl w.heap.size w).alloc (Nat.le_refl _) (Obj.cells #[] 9)
        have hown := World.ownsRow_lit (e := 9) (size := 1) w #[] 0 (Nat.le_refl w.heap.size) (by decide) rfl
        have hq := hp.below hb hplt
        generalize w.alloc (Obj.cells #[] 9) = wa at *
        obtain ⟨_, c1, _, c3, c4, c5, _⟩ := hq
        go_quiet (fail)
        have hb0 := hb.trans ((below_drewN (Below.refl _ _) nq))
        have ho0 : (wa.drewN nq).ownsRow w.heap.size 9 1 (.slice (some ⟨w.heap.size, 0, none⟩) 0 0) 0 [] := hown
        have hq0 := hp.below hb0 hplt
        have hs0 := hb0.size
        clear hb hown c1 c3 c4 c5
        generalize wa.drewN nq = w0 at *
        have hb := hb0
        have hown := ho0
        have hq := hp.below hb hplt
        go_wp2_with fail
        obtain ⟨_, c1, _, c3, c4, c5, _⟩ := hq
        go_quiet (fail)
        have hb1 := hb.trans ((below_drewN (Below.refl _ _) nq))
        have ho1 : (w0.drewN nq).ownsRow w.heap.size 9 1 (.slice (some ⟨w.heap.size, 0, none⟩) 0 0) 0 [] := hown
        have hq1 := hp.below hb1 hplt
        have hs1 := hb1.size
        clear hb hown c1 c3 c4 c5
        generalize w0.drewN nq = w1 at *
        have hb := hb1
        have hown := ho1
        have hq := hp.below hb hplt
        go_wp2_with fail
        obtain ⟨_, c1, _, c3, c4, c5, _⟩ := hq
        go_quiet (fail)
        have hb2 := hb.trans ((below_drewN (Below.refl _ _) nq))
        have ho2 : (w1.drewN nq).ownsRow w.heap.size 9 1 (.slice (some ⟨w.heap.size, 0, none⟩) 0 0) 0 [] := hown
        have hq2 := hp.below hb2 hplt
        have hs2 := hb2.size
        clear hb hown c1 c3 c4 c5
        generalize w1.drewN nq = w2 at *
        have hb := hb2
        have hown := ho2
        go_wp2
        go_ret
        refine ⟨_, rfl, ⟨?_, hb⟩⟩
        rw [HF.out]
        exact Sl.of_own (E := fStr) (n := 0) rfl hown (by rw [← HF.out]; exact lacksF_ok x)

end Go.Proofs.Ytjfaafoldllppaa
