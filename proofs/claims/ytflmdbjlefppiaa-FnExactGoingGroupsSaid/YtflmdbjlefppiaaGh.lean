/- Contracts of GoingGroups. Written by wip/gen/gh.py. -/
import Derived.Test.YtflmdbjlefppiaaGg
namespace Go.Proofs.Ytflmdbjlefppiaa
open Go.RowKit
set_option linter.unusedVariables false

def ggC (xs : List DGroup) (n : Int) : Int := if groupsB xs then (if levelB n then 0 else 2) else 1
def ggF (xs : List DGroup) (n : Int) : List ByteArray := if groupsB xs && levelB n then (xs.filter (fun x => goesB x n)).map (fun x => x.id) else []
theorem ggF_len {xs : List DGroup} {n : Int} (h : xs.length ≤ 1048576) : (ggF xs n).length ≤ 100000000000 := by
  unfold ggF; split
  · rw [List.length_map]; have := List.length_filter_le (fun x => goesB x n) xs; omega
  · simp
set_option maxRecDepth 100000 in
set_option maxHeartbeats 4000000 in
theorem specGoingGroups_any (v : Value) (xs : List DGroup) (fp : List Nat) (n : Int) (w : World) (hx : Sl fGroup.cod w v xs fp) :
    Calls Try.prog 46 #[v, .int .i64 n] w fun e w' => NewR2 fStr.cod w (ggF xs n) (ggC xs n) e w' := by
  obtain ⟨A, cap, rfl, hlen, hcap⟩ := hx.form
  obtain ⟨i0, hi, hz0, hz1, hz2⟩ := info_parts infoStr0
  go_enter Try.func46, Try.ntmps46
  go_wp2_with fail
  refine (l24Ok_any _ xs fp _ hx).mono ?_
  rintro e w1 ⟨rfl, hb1⟩
  cases h0 : groupsB xs
  · go_wp2
    go_ret2
    exact ⟨_, by rw [ggC, h0]; rfl, by rw [ggF, h0]; exact New.nil hb1⟩
  · cases h1 : levelB n
    · go_wp2_with (go_at_call 92; refine (l17Is_any _ _).mono ?_; rintro e w' ⟨rfl, rfl⟩)
      go_ret2
      exact ⟨_, by rw [ggC, h0, h1]; rfl, by rw [ggF, h0, h1]; exact New.nil hb1⟩
    · have HC := Lib.hid (show ggC xs n = 0 from by rw [ggC, h0, h1]; rfl)
      have HF := Lib.hid (show ggF xs n = (xs.filter (fun x => goesB x n)).map (fun x => x.id) from by rw [ggF, h0, h1]; rfl)
      have HOK : ∀ x ∈ ggF xs n, fStr.ok x := by
        rw [HF.out]; intro x hxm
        obtain ⟨g, hg, rfl⟩ := List.mem_map.1 hxm
        exact (hx.oks g ((List.mem_filter.1 hg).1)).1
      have hlen8 := groupsB_len h0
      go_wp2_with (go_at_call 92; refine (l17Is_any _ _).mono ?_; rintro e w' ⟨rfl, rfl⟩)
      go_loopw [6, 7] (fun v i wr => ∃ k : Nat, k ≤ xs.length ∧ i = .int .i64 k ∧ Own fStr wr w.heap.size 9 v (keptL (fun x => goesB x n) (fun x => x.id) xs k) ∧ Below w.heap.size w wr) (fun _ i _ => xs.length - (intOf i).toNat)
      case atStart => exact ⟨0, Nat.zero_le _, rfl, Own.lit0m fStr hb1.size, hb1.trans (((Below.refl _ _).alloc (Nat.le_refl _) _).mono hb1.size)⟩
      case round =>
        obtain ⟨k, hk, rfl, ho, hb⟩ := hrel
        by_cases hlt : k < xs.length
        · obtain ⟨b, off, rfl, _, hok, hp⟩ := PGroup.elem (hx.below' hb) hlt
          have hpe := groupB_people (groupsB_one h0 hlt)
          have hid : xs[k].id.size ≤ 9223372036854775807 := hok.1
          have hkl := keptL_len (p := fun x => goesB x n) (f := fun x : DGroup => x.id) (xs := xs) (k := k)
          go_wp2_with fail
          refine (l24Goes_any _ _ xs[k] n _ hp hpe).mono ?_
          rintro e w2 ⟨rfl, hb2⟩
          have hb' := hb.trans (hb2.mono hb.size)
          have ho' := ho.below hb2
          cases hgo : goesB xs[k] n
          · have ho2 : Own fStr w2 w.heap.size 9 u6 (keptL (fun x => goesB x n) (fun x => x.id) xs (k + 1)) := by rw [keptL_no hlt hgo]; exact ho'
            go_wp2
            go_roundw
            case rel => exact ⟨k + 1, by omega, by go_num, ho2, hb'⟩
            case measure => simp [intOf]; omega
          · have c0 := (hp.below' hb2).c0
            have hs2 := hb'.size
            have ho3 : w2.ownsRow w.heap.size 9 1 u6 (keptL (fun x => goesB x n) (fun x => x.id) xs k).length ((keptL (fun x => goesB x n) (fun x => x.id) xs k).flatMap fStr.enc) := ho'
            clear ho ho'
            go_wp2_with (at_builtin; refine wpList_append_one rfl _ _ 22 rfl w.heap.size 9 i0 (.string ⟨#[]⟩) 1 16 Try.underlying22 hi hz0 hz1 hz2 rfl (by decide) u6 (keptL (fun x => goesB x n) (fun x => x.id) xs k).length _ rfl ho3 [.string xs[k].id] rfl (by intro u hu; rw [List.mem_singleton] at hu; subst hu; rfl) rfl (by omega) (by decide) hs2 ?_)
            intro v' u hown hbu _ _
            have hbu' := hb'.trans hbu
            have ho2 : Own fStr u w.heap.size 9 v' (keptL (fun x => goesB x n) (fun x => x.id) xs (k + 1)) := by rw [keptL_yes hlt hgo]; exact Own.push _ rfl hown
            clear hown
            go_wp2
            go_roundw
            case rel => exact ⟨k + 1, by omega, by go_num, ho2, hbu'⟩
            case measure => simp [intOf]; omega
        · have ho2 : Own fStr wr w.heap.size 9 u6 (ggF xs n) := by rw [HF.out, ← keptL_full (k := k) (by omega)]; exact ho
          clear ho
          go_wp2
          go_ret2
          exact ⟨_, by rw [HC.out]; rfl, ho2.new hb HOK⟩
set_option maxRecDepth 100000 in
set_option maxHeartbeats 4000000 in
theorem implGoingGroups_any (v : Value) (xs : List DGroup) (fp : List Nat) (n : Int) (w : World) (hx : Sl fGroup.cod w v xs fp) :
    Calls Try.prog 48 #[v, .int .i64 n] w fun e w' => NewR2 fStr.cod w (ggF xs n) (ggC xs n) e w' := by
  obtain ⟨A, cap, rfl, hlen, hcap⟩ := hx.form
  obtain ⟨i0, hi, hz0, hz1, hz2⟩ := info_parts infoStr0
  go_enter Try.func48, Try.ntmps48
  go_wp2_with fail
  refine (validGroups_any _ xs fp _ hx).mono ?_
  rintro e w1 ⟨rfl, hb1⟩
  cases h0 : groupsB xs
  · go_wp2
    go_ret2
    exact ⟨_, by rw [ggC, h0]; rfl, by rw [ggF, h0]; exact New.nil hb1⟩
  · cases h1 : levelB n
    · go_wp2_with (go_at_call 95; refine (levelOk_any _ _).mono ?_; rintro e w' ⟨rfl, rfl⟩)
      go_ret2
      exact ⟨_, by rw [ggC, h0, h1]; rfl, by rw [ggF, h0, h1]; exact New.nil hb1⟩
    · have HC := Lib.hid (show ggC xs n = 0 from by rw [ggC, h0, h1]; rfl)
      have HF := Lib.hid (show ggF xs n = (xs.filter (fun x => goesB x n)).map (fun x => x.id) from by rw [ggF, h0, h1]; rfl)
      have HOK : ∀ x ∈ ggF xs n, fStr.ok x := by
        rw [HF.out]; intro x hxm
        obtain ⟨g, hg, rfl⟩ := List.mem_map.1 hxm
        exact (hx.oks g ((List.mem_filter.1 hg).1)).1
      have hlen8 := groupsB_len h0
      go_wp2_with (go_at_call 95; refine (levelOk_any _ _).mono ?_; rintro e w' ⟨rfl, rfl⟩)
      go_loopw [6, 19] (fun v i wr => ∃ k : Nat, k ≤ xs.length ∧ i = .int .i64 k ∧ Own fStr wr w.heap.size 9 v (keptL (fun x => goesB x n) (fun x => x.id) xs k) ∧ Below w.heap.size w wr) (fun _ i _ => xs.length - (intOf i).toNat)
      case atStart => exact ⟨0, Nat.zero_le _, rfl, Own.nil fStr _ _ _, hb1⟩
      case round =>
        obtain ⟨k, hk, rfl, ho, hb⟩ := hrel
        by_cases hlt : k < xs.length
        · obtain ⟨b, off, rfl, _, hok, hp⟩ := PGroup.elem (hx.below' hb) hlt
          have hpe := groupB_people (groupsB_one h0 hlt)
          have hid : xs[k].id.size ≤ 9223372036854775807 := hok.1
          have hkl := keptL_len (p := fun x => goesB x n) (f := fun x : DGroup => x.id) (xs := xs) (k := k)
          obtain ⟨c0, c1, c2, c3, c4, c5, c6⟩ := id hp
          have hpW := PGroup.box wr xs[k] 59
          go_wp2_with fail
          refine (implGoes_any xs[k] n _ hok hpe).mono ?_
          rintro e w2 ⟨rfl, hb2⟩
          have hbW : Below wr.heap.size wr w2 := ((Below.refl _ _).alloc (Nat.le_refl _) _).trans (hb2.mono (by simp))
          have hb' := hb.trans (hbW.mono hb.size)
          have ho' := ho.below hbW
          clear c0 c1 c2 c3 c4 c5 c6
          cases hgo : goesB xs[k] n
          · have ho2 : Own fStr w2 w.heap.size 9 u6 (keptL (fun x => goesB x n) (fun x => x.id) xs (k + 1)) := by rw [keptL_no hlt hgo]; exact ho'
            clear hpW
            go_wp2
            go_roundw
            case rel => exact ⟨k + 1, by omega, by go_num, ho2, hb'⟩
            case measure => simp [intOf]; omega
          · have c0 := (hpW.below' hb2).c0
            have hs2 := hb'.size
            have ho3 : w2.ownsRow w.heap.size 9 1 u6 (keptL (fun x => goesB x n) (fun x => x.id) xs k).length ((keptL (fun x => goesB x n) (fun x => x.id) xs k).flatMap fStr.enc) := ho'
            clear ho ho'
            clear hpW
            go_wp2_with (at_builtin; refine wpList_append_one rfl _ _ 22 rfl w.heap.size 9 i0 (.string ⟨#[]⟩) 1 16 Try.underlying22 hi hz0 hz1 hz2 rfl (by decide) u6 (keptL (fun x => goesB x n) (fun x => x.id) xs k).length _ rfl ho3 [.string xs[k].id] rfl (by intro u hu; rw [List.mem_singleton] at hu; subst hu; rfl) rfl (by omega) (by decide) hs2 ?_)
            intro v' u hown hbu _ _
            have hbu' := hb'.trans hbu
            have ho2 : Own fStr u w.heap.size 9 v' (keptL (fun x => goesB x n) (fun x => x.id) xs (k + 1)) := by rw [keptL_yes hlt hgo]; exact Own.push _ rfl hown
            clear hown
            go_wp2
            go_roundw
            case rel => exact ⟨k + 1, by omega, by go_num, ho2, hbu'⟩
            case measure => simp [intOf]; omega
        · have ho2 : Own fStr wr w.heap.size 9 u6 (ggF xs n) := by rw [HF.out, ← keptL_full (k := k) (by omega)]; exact ho
          clear ho
          go_wp2
          go_ret2
          exact ⟨_, by rw [HC.out]; rfl, ho2.new hb HOK⟩

end Go.Proofs.Ytflmdbjlefppiaa
