/- Parts of the proof: Jp, TIncident, PIncident, Io, Cq, Iv, Dd. -/
import Derived.Test.YtgnbhcgagdfaiaaGreatDoorG06
import Derived.Test.YtgnbhcgagdfaiaaGreatDoorG01
import Derived.Test.YtgnbhcgagdfaiaaGreatDoorG04
import Derived.Test.YtgnbhcgagdfaiaaGreatDoorG02
namespace Go.Proofs.YtgnbhcgagdfaiaaGreatDoor
open Go.RowKit
set_option linter.unusedVariables false

theorem infoIntP : (Tryz.prog.info? 2).map (fun i => (i.zero, i.size, i.bytes)) = some (some (.int .i64 0), 1, 8) := by kernel_rfl
set_option maxRecDepth 100000 in
set_option maxHeartbeats 8000000 in
theorem l00Put_any (v : Value) (xs : List Int) (fp : List Nat) (n : Int) (w : World) (hx : Sl fInt.cod w v xs fp) (hl : xs.length ≤ 1000000) :
    Calls Tryz.prog 63 #[v, .int .i64 n] w fun e w' => ∃ v', e = .returned v' ∧ Own fInt w' w.heap.size 2 v' (putI xs n) ∧ Below w.heap.size w w' := by
  obtain ⟨A, cap, rfl, hlen, hcap⟩ := hx.form
  obtain ⟨j0, hj, hy0, hy1, hy2⟩ := info_parts infoIntP
  have hB0 : Below w.heap.size w (w.alloc (.cells #[] 2)) := (Below.refl _ _).alloc (Nat.le_refl _) _
  go_enter Tryz.func63, Tryz.ntmps63
  go_wp2
  go_loopw [5, 6, 7] (fun a b c wr => ∃ (k : Nat) (L : List Int) (d : Bool), k ≤ xs.length ∧ L.length ≤ (if d then k + 1 else k) ∧ c = .int .i64 k ∧ b = .bool d ∧ Own fInt wr w.heap.size 2 a L ∧ Hid (putI xs n = L ++ putR xs n d k) ∧ Below w.heap.size w wr) (fun _ _ c _ => xs.length - (intOf c).toNat)
  case atStart => exact ⟨0, [], false, Nat.zero_le _, Nat.le_refl _, rfl, rfl, Own.lit0 fInt w _, rfl, hB0⟩
  case round =>
    clear hB0
    obtain ⟨k, L, d, hk, hL, rfl, rfl, ho, HP, hb⟩ := hrel
    have hLk : L.length ≤ k + 1 := by revert hL; cases d <;> simp <;> omega
    have hsz := hb.size
    by_cases hlt : k < xs.length
    · obtain ⟨b, off, rfl, hbf, _, hc, _⟩ := (hx.below' hb).cell1 rfl hlt rfl
      have hbw : b < w.heap.size := hx.lt b hbf
      cases d
      · replace hL : L.length ≤ k := hL
        by_cases h1 : xs[k] < n
        · have HP2 : Hid (putI xs n = (L ++ [xs[k]]) ++ putR xs n false (k + 1)) := by show _ = _; rw [HP.out, putR_less hlt h1]; simp
          have hoW : wr.ownsRow w.heap.size 2 1 u5 L.length (L.flatMap fInt.enc) := ho
          clear HP ho
          go_wp2_with (at_builtin; refine wpList_append_one rfl _ _ 46 rfl w.heap.size 2 j0 (.int .i64 0) 1 8 Tryz.underlying46 hj hy0 hy1 hy2 rfl (by decide) u5 L.length _ rfl hoW [.int .i64 xs[k]] rfl (by intro u hu; rw [List.mem_singleton] at hu; subst hu; rfl) rfl (by omega) (by decide) hsz ?_)
          intro v' u hown hbu hgr hul
          have hoD : Own fInt u w.heap.size 2 v' (L ++ [xs[k]]) := Own.push _ (by omega) hown
          have hb2 := hb.trans hbu
          clear hown
          go_wp2
          go_roundw
          case rel => exact ⟨k + 1, _, false, by omega, by show _ ≤ k + 1; rw [List.length_append, List.length_singleton]; omega, by go_num, rfl, hoD, HP2, hb2⟩
          case measure => simp [intOf]; omega
        · by_cases h2 : xs[k] = n
          · have HP2 : Hid (putI xs n = (L ++ [xs[k]]) ++ putR xs n true (k + 1)) := by show _ = _; rw [HP.out, putR_same hlt h2]; simp
            have e1 : decide (n ≤ xs[k]) = true := decide_eq_true (by omega)
            have e2 : decide (n < xs[k]) = false := decide_eq_false (by omega)
            have hoW : wr.ownsRow w.heap.size 2 1 u5 L.length (L.flatMap fInt.enc) := ho
            clear HP ho h2
            go_wp2_with (at_builtin; refine wpList_append_one rfl _ _ 46 rfl w.heap.size 2 j0 (.int .i64 0) 1 8 Tryz.underlying46 hj hy0 hy1 hy2 rfl (by decide) u5 L.length _ rfl hoW [.int .i64 xs[k]] rfl (by intro u hu; rw [List.mem_singleton] at hu; subst hu; rfl) rfl (by omega) (by decide) hsz ?_)
            intro v' u hown hbu hgr hul
            have hoD : Own fInt u w.heap.size 2 v' (L ++ [xs[k]]) := Own.push _ (by omega) hown
            have hb2 := hb.trans hbu
            clear hown
            go_wp2
            go_roundw
            case rel => exact ⟨k + 1, _, true, by omega, by show _ ≤ k + 1 + 1; rw [List.length_append, List.length_singleton]; omega, by go_num, rfl, hoD, HP2, hb2⟩
            case measure => simp [intOf]; omega
          · have HP2 : Hid (putI xs n = (L ++ [n] ++ [xs[k]]) ++ putR xs n true (k + 1)) := by show _ = _; rw [HP.out, putR_more hlt (by omega)]; simp
            have e1 : decide (n ≤ xs[k]) = true := decide_eq_true (by omega)
            have e2 : decide (n < xs[k]) = true := decide_eq_true (by omega)
            have hoW : wr.ownsRow w.heap.size 2 1 u5 L.length (L.flatMap fInt.enc) := ho
            clear HP ho h2
            go_wp2_with (at_builtin; refine wpList_append_one rfl _ _ 46 rfl w.heap.size 2 j0 (.int .i64 0) 1 8 Tryz.underlying46 hj hy0 hy1 hy2 rfl (by decide) u5 L.length _ rfl hoW [.int .i64 n] rfl (by intro u hu; rw [List.mem_singleton] at hu; subst hu; rfl) rfl (by omega) (by decide) hsz ?_)
            intro v' u hown hbu hgr hul
            have hoD : Own fInt u w.heap.size 2 v' (L ++ [n]) := Own.push _ (by omega) hown
            have hb2 := hb.trans hbu
            have hc3 : u.cell? ⟨b, off + k, none⟩ = some (.int .i64 xs[k]) := (hbu.cell (p := ⟨b, off + k, none⟩) hbw).trans hc
            have hL1 : (L ++ [n]).length ≤ k + 1 := by rw [List.length_append, List.length_singleton]; omega
            have hsz2 := hb2.size
            generalize L ++ [n] = M at *
            have hoW : u.ownsRow w.heap.size 2 1 v' M.length (M.flatMap fInt.enc) := hoD
            clear hown hoD hul hgr
            go_wp2_with (at_builtin; refine wpList_append_one rfl _ _ 46 rfl w.heap.size 2 j0 (.int .i64 0) 1 8 Tryz.underlying46 hj hy0 hy1 hy2 rfl (by decide) v' M.length _ rfl hoW [.int .i64 xs[k]] rfl (by intro u hu; rw [List.mem_singleton] at hu; subst hu; rfl) rfl (by omega) (by decide) hsz2 ?_)
            intro v2 u2 hown hbu2 hgr hul
            have hoD : Own fInt u2 w.heap.size 2 v2 (M ++ [xs[k]]) := Own.push _ (by omega) hown
            have hb3 := hb2.trans hbu2
            clear hown
            go_wp2
            go_roundw
            case rel => exact ⟨k + 1, _, true, by omega, by show _ ≤ k + 1 + 1; rw [List.length_append, List.length_singleton]; omega, by go_num, rfl, hoD, HP2, hb3⟩
            case measure => simp [intOf]; omega
      · have HP2 : Hid (putI xs n = (L ++ [xs[k]]) ++ putR xs n true (k + 1)) := by show _ = _; rw [HP.out, putR_done hlt]; simp
        have hoW : wr.ownsRow w.heap.size 2 1 u5 L.length (L.flatMap fInt.enc) := ho
        clear HP ho
        go_wp2_with (at_builtin; refine wpList_append_one rfl _ _ 46 rfl w.heap.size 2 j0 (.int .i64 0) 1 8 Tryz.underlying46 hj hy0 hy1 hy2 rfl (by decide) u5 L.length _ rfl hoW [.int .i64 xs[k]] rfl (by intro u hu; rw [List.mem_singleton] at hu; subst hu; rfl) rfl (by omega) (by decide) hsz ?_)
        intro v' u hown hbu hgr hul
        have hoD : Own fInt u w.heap.size 2 v' (L ++ [xs[k]]) := Own.push _ (by omega) hown
        have hb2 := hb.trans hbu
        clear hown
        go_wp2
        go_roundw
        case rel => exact ⟨k + 1, _, true, by omega, by show _ ≤ k + 1 + 1; rw [List.length_append, List.length_singleton]; omega, by go_num, rfl, hoD, HP2, hb2⟩
        case measure => simp [intOf]; omega
    · rw [putR_end (by omega)] at HP
      cases d
      · have hoW : wr.ownsRow w.heap.size 2 1 u5 L.length (L.flatMap fInt.enc) := ho
        clear ho
        go_wp2_with (at_builtin; refine wpList_append_one rfl _ _ 46 rfl w.heap.size 2 j0 (.int .i64 0) 1 8 Tryz.underlying46 hj hy0 hy1 hy2 rfl (by decide) u5 L.length _ rfl hoW [.int .i64 n] rfl (by intro u hu; rw [List.mem_singleton] at hu; subst hu; rfl) rfl (by omega) (by decide) hsz ?_)
        intro v' u hown hbu hgr hul
        have hoD : Own fInt u w.heap.size 2 v' (L ++ [n]) := Own.push _ (by omega) hown
        have hb2 := hb.trans hbu
        clear hown
        go_wp2
        go_ret
        exact ⟨_, rfl, by rw [HP.out]; exact hoD, hb2⟩
      · obtain ⟨A9, c9, rfl⟩ := ho.form
        go_wp2
        go_ret
        exact ⟨_, rfl, by have h9 := HP.out; simp at h9; rw [h9]; exact ho, hb⟩
set_option maxRecDepth 100000 in
set_option maxHeartbeats 4000000 in
theorem l18Levels_any (v : Value) (xs : List DRegion) (fp : List Nat) (w : World) (hx : Sl cRegion w v xs fp) (hl : xs.length ≤ 1000) :
    Calls Tryz.prog 29 #[v] w fun e w' => ∃ v', e = .returned v' ∧ Own fInt w' w.heap.size 2 v' (xs.map (·.level)) ∧ Below w.heap.size w w' := by
  obtain ⟨A, cap, rfl, hlen, hcap⟩ := hx.form
  obtain ⟨j0, hj, hy0, hy1, hy2⟩ := info_parts infoIntP
  have hB0 : Below w.heap.size w (w.alloc (.cells #[] 2)) := (Below.refl _ _).alloc (Nat.le_refl _) _
  go_enter Tryz.func29, Tryz.ntmps29
  go_wp2
  go_loopw [3, 4] (fun a c wr => ∃ k : Nat, k ≤ xs.length ∧ c = .int .i64 k ∧ Own fInt wr w.heap.size 2 a ((xs.take k).map (·.level)) ∧ Below w.heap.size w wr) (fun _ c _ => xs.length - (intOf c).toNat)
  case atStart => exact ⟨0, Nat.zero_le _, rfl, Own.lit0 fInt w _, hB0⟩
  case round =>
    clear hB0
    obtain ⟨k, hk, rfl, ho, hb⟩ := hrel
    have hsz := hb.size
    by_cases hlt : k < xs.length
    · obtain ⟨b, off, vk, fk, rfl, _, c1, _⟩ := (hx.below' hb).reg hlt
      have HT : Hid ((xs.take (k + 1)).map (·.level) = (xs.take k).map (·.level) ++ [xs[k].level]) := by show _ = _; rw [List.take_succ_eq_append_getElem hlt, List.map_append]; rfl
      have hlk : ((xs.take k).map (·.level)).length = k := by rw [List.length_map, List.length_take]; omega
      generalize hL : (xs.take k).map (·.level) = L at *
      have hoW : wr.ownsRow w.heap.size 2 1 u3 k (L.flatMap fInt.enc) := by rw [← hlk]; exact ho
      have HLK := Lib.hid hlk
      clear ho hL hlk
      go_wp2_with (at_builtin; refine wpList_append_one rfl _ _ 46 rfl w.heap.size 2 j0 (.int .i64 0) 1 8 Tryz.underlying46 hj hy0 hy1 hy2 rfl (by decide) u3 k _ rfl hoW [.int .i64 xs[k].level] rfl (by intro u hu; rw [List.mem_singleton] at hu; subst hu; rfl) rfl (by omega) (by decide) hsz ?_)
      intro v' u hown hbu hgr hul
      have hoD : Own fInt u w.heap.size 2 v' (L ++ [xs[k].level]) := Own.push _ (by rw [HLK.out]) hown
      have hb2 := hb.trans hbu
      clear hown
      go_wp2
      go_roundw
      case rel => exact ⟨k + 1, by omega, by go_num, by rw [HT.out]; exact hoD, hb2⟩
      case measure => simp [intOf]; omega
    · have HT : Hid ((xs.take k).map (·.level) = xs.map (·.level)) := by show _ = _; rw [List.take_of_length_le (by omega)]
      have hlk : ((xs.take k).map (·.level)).length = k := by rw [List.length_map, List.length_take]; omega
      obtain ⟨A9, c9, rfl⟩ := ho.form
      generalize (xs.take k).map (·.level) = L at *
      rw [hlk] at ho ⊢
      clear hlk
      go_wp2
      go_ret
      exact ⟨_, rfl, by rw [← HT.out]; exact ho, hb⟩
def GrR (xs : List DRegion) (w : World) (e : Ending) (w' : World) : Prop := ∃ v' fq, e = .returned v' ∧ Sl fInt.cod.slice w' v' ((groupsL xs.length (adjR xs) xs.length).map ints) fq ∧ (∀ b ∈ fq, w.heap.size ≤ b) ∧ Below w.heap.size w w'
theorem infoRowP : (Tryz.prog.info? 46).map (fun i => (i.zero, i.size, i.bytes)) = some (some (.slice none 0 0), 1, 24) := by kernel_rfl
theorem infoBoolP : (Tryz.prog.info? 4).map (fun i => (i.zero, i.size, i.bytes)) = some (some (.bool false), 1, 1) := by kernel_rfl
theorem grp_ok {n : Nat} {adj : Nat → Nat → Bool} {k : Nat} (hn : n ≤ 1000) {i : Nat} : ∀ x ∈ (groupsL n adj k).getD i [], x ≤ 1000 := fun x hx => by
  rw [List.getD_eq_getElem?_getD] at hx
  rcases Nat.lt_or_ge i (groupsL n adj k).length with h | h
  · rw [List.getElem?_eq_getElem h] at hx
    obtain ⟨r, _, e⟩ := List.mem_map.1 (show (groupsL n adj k)[i] ∈ ((List.range k).filter (fun i => !seenB adj i i)).map (compL n adj) from List.getElem_mem h)
    replace hx : x ∈ (groupsL n adj k)[i] := hx
    rw [← e] at hx
    have := (compL_mem.1 hx).1
    omega
  · rw [List.getElem?_eq_none h] at hx
    cases hx
theorem mapGet {L : List (List Nat)} : L.map ints = (List.range L.length).map (fun j => ints (L.getD j [])) := by
  refine List.ext_getElem (by simp) (fun i h1 h2 => ?_)
  simp only [List.length_map] at h1
  simp [List.getD_eq_getElem?_getD, h1]
/-- One group more. -/
theorem getD_snoc {L : List (List Nat)} {c : List Nat} {i : Nat} (hi : i < L.length + 1) : (if i = L.length then ints c else ints (L.getD i [])) = ints ((L ++ [c]).getD i []) := by
  rcases Nat.lt_or_eq_of_le (Nat.le_of_lt_succ hi) with h | rfl
  · rw [if_neg (by omega)]
    simp [List.getD_eq_getElem?_getD, List.getElem?_append_left h]
  · rw [if_pos rfl]
    simp
set_option maxRecDepth 100000 in
set_option maxHeartbeats 8000000 in
theorem l18Groups_any (v : Value) (xs : List DRegion) (fp : List Nat) (v2 : Value) (fp2 : List Nat) (w : World) (hx : Sl cRegion w v xs fp) (hx2 : Sl fInt.cod w v2 (xs.map (·.level)) fp2) (hv : regionsB xs = true) :
    Calls Tryz.prog 28 #[v, v2] w fun e w' => GrR xs w e w' := by
  obtain ⟨A, cap, rfl, hlen, hcap⟩ := hx.form
  obtain ⟨A2, cap2, rfl, hlen2, hcap2⟩ := hx2.form
  obtain ⟨j0, hj, hy0, hy1, hy2⟩ := info_parts infoIntP
  obtain ⟨i0, hi, hz0, hz1, hz2⟩ := info_parts infoRowP
  obtain ⟨k0, hk0, hb0', hb1', hb2'⟩ := info_parts infoBoolP
  have hn8 := regs_len hv
  have hmk : ∀ W : World, (Instr.makeSlice 97 (.int .i64 (xs.length : Nat)) (.int .i64 (xs.length : Nat))).run Tryz.prog W = .ok (.slice (some ⟨W.heap.size, 0, none⟩) xs.length xs.length) (W.alloc (.cells (madeCells #[Value.bool false] xs.length) 4)) := fun W => by
    have h := run_make_rowN (P := Tryz.prog) 97 4 k0 _ Tryz.underlying97 hk0 hb0' .i64 .i64 xs.length xs.length (Nat.le_refl _) (by rw [hb2']; omega) (by omega) W
    rw [hb1', Nat.mul_one] at h
    exact h
  have hg := adjR_graph hv
  have HV := Lib.hid hv
  have hlm : (xs.map (·.level)).length = xs.length := List.length_map _
  rw [hlm] at hx2 hlen2 ⊢
  have hB0 : Below w.heap.size w (w.alloc (.cells #[] 46)) := (Below.refl _ _).alloc (Nat.le_refl _) _
  have hB1 : Below w.heap.size w ((w.alloc (.cells #[] 46)).alloc (.cells (madeCells #[Value.bool false] xs.length) 4)) := hB0.alloc hB0.size _
  have hS0 : Own fBool ((w.alloc (.cells #[] 46)).alloc (.cells (madeCells #[Value.bool false] xs.length) 4)) w.heap.size 4 (.slice (some ⟨w.heap.size + 1, 0, none⟩) xs.length xs.length) (seenL xs.length (fun _ => false)) := by
    have h := madeBools (w.alloc (.cells #[] 46)) w.heap.size xs.length hB0.size (by omega)
    rw [World.size_alloc] at h; exact h
  have hP0 : PgW ((w.alloc (.cells #[] 46)).alloc (.cells (madeCells #[Value.bool false] xs.length) 4)) w.heap.size (.slice (some ⟨w.heap.size, 0, none⟩) 0 0) 0 (fun _ => undef) (fun _ => []) (fun _ => 0) :=
    PgW.nil (c := 0) (show World.ownsRow _ w.heap.size 46 1 _ 0 [] from (Own.lit0 fInt w 46).below ((Below.refl _ _).alloc (Nat.le_refl _) _))
  obtain ⟨n, hn⟩ : ∃ n, n = xs.length := ⟨_, rfl⟩
  clear hk0 hb0' hb1' hb2' hB0
  go_enter Tryz.func28, Tryz.ntmps28
  go_wp2
  generalize hgs : w.heap.size + 1 = gs at *
  go_loopw [5, 7] (fun vo c wr => ∃ (i : Nat) (V : Nat → Value) (G : Nat → Nat), i ≤ xs.length ∧ c = .int .i64 i ∧ PgW wr w.heap.size vo (groupsL xs.length (adjR xs) i).length V (fun j => ints ((groupsL xs.length (adjR xs) i).getD j [])) G ∧ (∀ b, inPg vo (groupsL xs.length (adjR xs) i).length G b → b ≠ gs) ∧ Own fBool wr w.heap.size 4 (.slice (some ⟨gs, 0, none⟩) xs.length xs.length) (seenL xs.length (seenB (adjR xs) i)) ∧ Below w.heap.size w wr) (fun _ c _ => xs.length - (intOf c).toNat)
  case atStart =>
    refine ⟨0, _, _, Nat.zero_le _, rfl, hP0.congr (fun i hi => absurd hi (Nat.not_lt_zero _)), fun b hb => ?_, hS0, hB1⟩
    rcases hb with hb | ⟨i, hi, _⟩
    · have hb : w.heap.size = b := by injection hb
      omega
    · exact absurd hi (Nat.not_lt_zero _)
  case round => as_aux_lemma =>
    clear hS0 hP0 hB1
    obtain ⟨i, V, G, hi1, rfl, hpg, hne, hse, hb⟩ := hrel
    rename World => wo
    by_cases hlt : i < xs.length
    rotate_left
    · obtain rfl : i = xs.length := by omega
      obtain ⟨fq, h1, h2, _⟩ := hpg.sl (xss := (groupsL xs.length (adjR xs) xs.length).map ints) mapGet (fun i _ => ints_ok (grp_ok (by omega)))
      obtain ⟨A5, c5, rfl⟩ := hpg.form
      clear hpg hse hne
      go_wp2
      go_ret
      exact ⟨_, fq, rfl, h1, h2, hb⟩
    have hlti : (i : Int) < (xs.length : Int) := by omega
    have cs := hse.cellBool (seenL_get (f := seenB (adjR xs) i) hlt)
    have zs := hse.frozenS i
    cases hsi : seenB (adjR xs) i i
    rotate_left
    · rw [hsi] at cs
      have HG := Lib.hid (groupsL_skip (n := xs.length) hsi)
      have HS : Hid (seenL xs.length (seenB (adjR xs) i) = seenL xs.length (seenB (adjR xs) (i + 1))) := seenL_congr (fun j _ => (seenB_skip hg hsi j).symm)
      clear hsi
      go_wp2
      go_roundw
      case rel => exact ⟨i + 1, V, G, by omega, by go_num, by rw [HG.out]; exact hpg, by rw [HG.out]; exact hne, by rw [← HS.out]; exact hse, hb⟩
      case measure => simp [intOf]; omega
    rw [hsi] at cs
    have hgsl := hse.blk.2.1
    have hgsb := hse.blk.1
    have hG0 : GSt wo w.heap.size gs xs.length wo.heap.size (seenB (adjR xs) i) u5 (groupsL xs.length (adjR xs) i) V G (.slice none 0 0) [] (.slice none 0 0) [] :=
      ⟨hpg, fun b hb => ⟨(hpg.lt hb).2, hne b hb⟩, hse, hgsl, Own.nil _ _ _ _, Own.nil _ _ _ _, fun b hb => by cases hb⟩
    have hG1 := (((hG0.mark i).below ((Below.refl _ _).alloc (Nat.le_refl _) (.cells #[.int .i64 i] 2))).below ((Below.refl _ _).alloc (Nat.le_refl _) (.cells #[] 2))).congr (f' := fun j => seenB (adjR xs) i j || memN j [i]) (fun j _ => by rw [memN_one])
    have hszS : (wo.setCell ⟨gs, i, none⟩ (.bool true)).heap.size = wo.heap.size := World.size_setCell _ _ _
    have hq1 : Own fInt (((wo.setCell ⟨gs, i, none⟩ (.bool true)).alloc (.cells #[.int .i64 i] 2)).alloc (.cells #[] 2)) wo.heap.size 2 (.slice (some ⟨wo.heap.size, 0, none⟩) 1 1) (ints [i]) := by
      have h := World.ownsRow_lit (e := 2) (size := 1) (base := wo.heap.size) (wo.setCell ⟨gs, i, none⟩ (.bool true)) #[.int .i64 i] 1 (by rw [hszS]; exact Nat.le_refl _) (by decide) rfl
      rw [hszS] at h
      exact World.ownsRow.alloc h _
    have hg1 : Own fInt (((wo.setCell ⟨gs, i, none⟩ (.bool true)).alloc (.cells #[.int .i64 i] 2)).alloc (.cells #[] 2)) wo.heap.size 2 (.slice (some ⟨wo.heap.size + 1, 0, none⟩) 0 0) (ints []) := by
      have h := Own.lit0m fInt (w := (wo.setCell ⟨gs, i, none⟩ (.bool true)).alloc (.cells #[.int .i64 i] 2)) (base := wo.heap.size) (by rw [World.size_alloc, hszS]; omega) (e := 2)
      rw [World.size_alloc, hszS] at h
      exact h
    have hG2 : GSt _ w.heap.size gs xs.length wo.heap.size (fun j => seenB (adjR xs) i j || memN j [i]) u5 (groupsL xs.length (adjR xs) i) V G (.slice (some ⟨wo.heap.size, 0, none⟩) 1 1) [i] (.slice (some ⟨wo.heap.size + 1, 0, none⟩) 0 0) [] :=
      ⟨hG1.out, hG1.low, hG1.seen, hG1.gsl, hq1, hg1, fun b hb => by
        have hb : wo.heap.size + 1 = b := by injection hb
        intro e
        have e : wo.heap.size = b := by injection e
        omega⟩
    have hb2 : Below w.heap.size w (((wo.setCell ⟨gs, i, none⟩ (.bool true)).alloc (.cells #[.int .i64 i] 2)).alloc (.cells #[] 2)) := by
      have h1 : Below w.heap.size w (wo.setCell ⟨gs, i, none⟩ (.bool true)) := hb.setCell (p := ⟨gs, i, none⟩) hgsb _
      have h2 := h1.alloc h1.size (.cells #[.int .i64 i] 2)
      exact h2.alloc h2.size _
    have hbs := hb.size
    have hbz : wo.heap.size ≤ (((wo.setCell ⟨gs, i, none⟩ (.bool true)).alloc (.cells #[.int .i64 i] 2)).alloc (.cells #[] 2)).heap.size := by simp; omega
    replace hsi := Lib.hid hsi
    clear hG0 hG1 hq1 hg1 hszS hpg hne hse hb
    obtain ⟨A5, c5, rfl⟩ := hG2.out.form
    go_wp2
    generalize hBq : wo.heap.size = Bq at *
    clear hBq
    go_loopw [8, 9, 10] (fun vq vg c wr => ∃ (q s : List Nat) (at_ : Nat), Queue (adjR xs) xs.length i q at_ ∧ at_ ≤ q.length ∧ c = .int .i64 at_ ∧ GSt wr w.heap.size gs xs.length Bq (fun j => seenB (adjR xs) i j || memN j q) (.slice A5 (groupsL xs.length (adjR xs) i).length c5) (groupsL xs.length (adjR xs) i) V G vq q vg s ∧ Hid (s.Pairwise (· < ·) ∧ ∀ x, x ∈ s ↔ x ∈ q.take at_) ∧ s.length ≤ at_ ∧ Below w.heap.size w wr ∧ Bq ≤ wr.heap.size) (fun _ _ c _ => xs.length + 1 - (intOf c).toNat)
    case atStart => exact ⟨[i], [], 0, Queue.start hlt, Nat.zero_le _, rfl, hG2, ⟨List.Pairwise.nil, fun x => by simp⟩, Nat.le_refl _, hb2, hbz⟩
    case round => as_aux_lemma =>
      clear hG2 hb2 hbz cs zs
      obtain ⟨q, s, at_, hq, hat, rfl, hG, HSM, hsl, hb, hBw⟩ := hrel
      have hqn := hq.len
      have hq0 : 0 < q.length := List.length_pos_of_mem hq.first
      obtain ⟨gq, cq, rfl, _⟩ := hG.qo.addr (by rw [ints_len]; exact hq0)
      obtain ⟨A9, c9, rfl⟩ := hG.go.form
      rw [ints_len] at hG ⊢
      rw [ints_len] at hG ⊢
      by_cases hql : at_ < q.length
      rotate_left
      · -- the group is whole
        obtain rfl : at_ = q.length := by omega
        have hcomp : s = compL xs.length (adjR xs) i := comp_of_queue hq (Nat.le_refl _) HSM.out.1 (fun x => by rw [HSM.out.2, List.take_length])
        have hs0 : 0 < s.length := List.length_pos_of_mem ((HSM.out.2 i).2 (by rw [List.take_length]; exact hq.first))
        have HG : Hid (groupsL xs.length (adjR xs) (i + 1) = (groupsL xs.length (adjR xs) i) ++ [s]) := by show _ = _; rw [groupsL_new hsi.out, hcomp]
        have HSE : Hid (seenL xs.length (fun j => seenB (adjR xs) i j || memN j q) = seenL xs.length (seenB (adjR xs) (i + 1))) := seenL_congr (fun j _ => seen_after hq (Nat.le_refl _) j)
        have hgn := groupsL_len (n := xs.length) (adj := adjR xs) (k := i)
        have hLi : ((ints s).length : Nat) = s.length := ints_len s
        have hA := hG.go.addr (by rw [hLi]; exact hs0)
        rw [hLi] at hA
        obtain ⟨gy, cy, hvy0⟩ := hA
        injection hvy0 with hvy1 _ hvy2
        subst hvy1 hvy2
        clear hcomp HSM hLi
        have hgyB := (own_at hG.go (g := gy) rfl)
        have hbs2 := hb.size
        have hpA : PgW (wr.alloc (.cells #[.slice (some ⟨gy, 0, none⟩) s.length c9] 46)) w.heap.size (.slice A5 (groupsL xs.length (adjR xs) i).length c5) (groupsL xs.length (adjR xs) i).length V (fun j => ints ((groupsL xs.length (adjR xs) i).getD j [])) G := hG.out.below ((Below.refl _ _).alloc (Nat.le_refl _) _)
        have hyA : Own fInt (wr.alloc (.cells #[.slice (some ⟨gy, 0, none⟩) s.length c9] 46)) w.heap.size 2 (.slice (some ⟨gy, 0, none⟩) s.length c9) (ints s) := ownM_ (hG.go.below ((Below.refl _ _).alloc (Nat.le_refl _) _)) hbs
        have hbA : Below w.heap.size w (wr.alloc (.cells #[.slice (some ⟨gy, 0, none⟩) s.length c9] 46)) := hb.alloc hbs2 _
        have hseA : Own fBool (wr.alloc (.cells #[.slice (some ⟨gy, 0, none⟩) s.length c9] 46)) w.heap.size 4 (.slice (some ⟨gs, 0, none⟩) xs.length xs.length) (seenL xs.length (fun j => seenB (adjR xs) i j || memN j q)) := hG.seen.below ((Below.refl _ _).alloc (Nat.le_refl _) _)
        have hGy : ∀ j, j < (groupsL xs.length (adjR xs) i).length → G j ≠ gy := fun j hj e => by have := (hG.low _ (.inr ⟨j, hj, rfl⟩)).1; omega
        have hvy : ((.slice A5 (groupsL xs.length (adjR xs) i).length c5) : Value).ownBlock ≠ some gy := fun e => by have := (hG.low _ (.inl e)).1; omega
        have hnw : ∀ (j : Nat) (u : Value), [(.slice (some ⟨gy, 0, none⟩) s.length c9 : Value)][j]? = some u → (wr.alloc (.cells #[.slice (some ⟨gy, 0, none⟩) s.length c9] 46)).cell? ((⟨wr.heap.size, 0, none⟩ : Addr).add j) = some u := fun j u hj => by
          match j, hj with
          | 0, hj => injection hj with hj; subst hj; simp [Addr.add]
          | j + 1, hj => simp at hj
        obtain ⟨LV, hLV⟩ : ∃ LV : List Value, LV = (List.range ((groupsL xs.length (adjR xs) i).length)).map V := ⟨_, rfl⟩
        have hown0 := hpA.own
        rw [← hLV] at hown0
        have HLV := Lib.hid hLV
        have hgsl2 := hG.gslt
        have hlow := hG.low
        have hgsB := hG.gsl
        clear hLV hG
        generalize (groupsL xs.length (adjR xs) i) = L at *
        go_wp2_with (at_builtin; refine wpList_append_lies _ rfl _ _ 58 rfl w.heap.size 46 i0 (.slice none 0 0) 1 24 Tryz.underlying58 hi hz0 hz1 hz2 rfl (by decide) (.slice A5 L.length c5) L.length _ rfl hown0 _ 1 1 [.slice (some ⟨gy, 0, none⟩) s.length c9] rfl rfl hnw (by intro u hu; rw [List.mem_singleton] at hu; subst hu; rfl) (by decide) (by unfold maxLen; omega) (by omega) (by simp; omega) (wr.heap.size + 1) (by simp) ?_)
        intro g5 c6 w5 hown5 hgr5 hat5 hlt5
        rw [HLV.out] at hown5
        clear hown0 HLV hnw
        have hl5 : (Value.slice (some ⟨g5, 0, none⟩) (L.length + 1) c6).ownBlock = (.slice A5 L.length c5 : Value).ownBlock ∨ (Value.slice (some ⟨g5, 0, none⟩) (L.length + 1) c6).ownBlock = some ((wr.alloc (.cells #[.slice (some ⟨gy, 0, none⟩) s.length c9] 46))).heap.size := by
          rcases hat5 with e | e
          · exact .inl e.symm
          · refine .inr ?_
            show some g5 = _
            rw [e]; simp
        have hp2 := hpA.push hyA rfl hGy hvy hown5 hgr5 hl5
        have hb5 : Below w.heap.size w w5 := hbA.grown hgr5 (by simp; omega) (fun k hk => (hpA.lt (.inl hk)).1)
        have hse5 : Own fBool w5 w.heap.size 4 (.slice (some ⟨gs, 0, none⟩) xs.length xs.length) (seenL xs.length (fun j => seenB (adjR xs) i j || memN j q)) := own_stays hseA (fun b hb hbl => hgr5.block b hbl (fun e => by
          have e2 : gs = b := by injection hb
          exact (hlow b (.inl e.symm)).2 e2.symm))
        rw [HSE.out] at hse5
        have hlL : (L ++ [s]).length = L.length + 1 := by rw [List.length_append]; rfl
        have hp3 := hp2.congr (fun i hi => getD_snoc (L := L) (c := s) hi)
        have hne5 : ∀ b, inPg (.slice (some ⟨g5, 0, none⟩) (L.length + 1) c6) (L.length + 1) (fun i => if i = L.length then gy else G i) b → b ≠ gs := fun b hb => by
          rcases hb with hb | ⟨j, hj, hb⟩
          · have hb : g5 = b := by injection hb
            subst hb
            rcases hat5 with e | e
            · exact (hlow _ (.inl e)).2
            · omega
          · replace hb : (if j = L.length then gy else G j) = b := hb
            by_cases e : j = L.length
            · rw [if_pos e] at hb; omega
            · rw [if_neg e] at hb; exact (hlow b (.inr ⟨j, by omega, hb⟩)).2
        rw [← hlL] at hp3 hne5 ⊢
        clear hown5 hgr5 hat5 hlt5 hl5 hp2 hlL hGy hvy hbA hyA hpA hlow
        go_wp2
        go_roundw
        case rel => exact ⟨i + 1, _, _, by omega, by go_num, by rw [HG.out]; exact hp3, by rw [HG.out]; exact hne5, hse5, hb5⟩
        case measure => simp [intOf]; omega
      have hqli : (at_ : Int) < (q.length : Int) := by omega
      have cq := hG.cellQ hql
      obtain ⟨x0, hx0⟩ : ∃ x0, q[at_] = x0 := ⟨_, rfl⟩
      rw [hx0] at cq
      have hx0n : x0 < xs.length := by rw [← hx0]; exact hq.lt _ (List.getElem_mem hql)
      have hrx : Rch (adjR xs) i x0 := by rw [← hx0]; exact hq.rch _ (List.getElem_mem hql)
      have hx0m : x0 ∈ q := by rw [← hx0]; exact List.getElem_mem hql
      obtain ⟨s', hs', hmem', hsort'⟩ := put_nat s x0
      have hss : ∀ x ∈ s, x ≤ 1000 := fun x hx => by
        have h := hq.lt x (List.mem_of_mem_take ((HSM.out.2 x).1 hx))
        omega
      have hown9 := hG.go
      unfold Own at hown9
      rw [ints_len] at hown9
      obtain ⟨fs, hsl9, _, _⟩ := Sl.of_own (E := fInt) (xs := ints s) (n := s.length) (ints_len s) hown9 (ints_ok hss)
      have hsl2 : s.length ≤ 1000 := by omega
      clear hown9 hss
      go_wp2_with fail
      refine (l00Put_any _ (ints s) fs x0 _ hsl9 (by rw [ints_len]; omega)).mono ?_
      rintro e wp ⟨vg, rfl, hown, hbp⟩
      rw [hs'] at hown
      have hGp := hG.put hbp hown hBw
      have hbP := hb.trans (hbp.mono hb.size)
      have hBp : Bq ≤ wp.heap.size := Nat.le_trans hBw hbp.size
      have HSM2 : Hid (s'.Pairwise (· < ·) ∧ ∀ x, x ∈ s' ↔ x ∈ q.take (at_ + 1)) := ⟨hsort' HSM.out.1, fun x => by
        rw [hmem', HSM.out.2, List.take_succ_eq_append_getElem hql, List.mem_append, List.mem_singleton, hx0]
        constructor
        · rintro (h | h)
          · exact .inr h
          · exact .inl h
        · rintro (h | h)
          · exact .inr h
          · exact .inl h⟩
      have hsl' : s'.length ≤ at_ + 1 := by
        have h1 : (ints s').length ≤ (ints s).length + 1 := by rw [← hs']; exact putI_len
        rw [ints_len, ints_len] at h1; omega
      have HX0 := Lib.hid hx0
      clear hG hown hs' hmem' hsort' HSM hsl9 hbp hb cq hx0 hBw
      rename World => w8
      go_wp2
      go_loopw [8, 12] (fun vq c wr => ∃ (q2 : List Nat) (k : Nat), k ≤ xs.length ∧ c = .int .i64 k ∧ Queue (adjR xs) xs.length i q2 at_ ∧ Hid (q2.take (at_ + 1) = q.take (at_ + 1)) ∧ at_ < q2.length ∧ Hid (q2[at_]? = some x0) ∧ Hid (∀ y, y < k → adjR xs x0 y = true → y ∈ q2) ∧ GSt wr w.heap.size gs xs.length Bq (fun j => seenB (adjR xs) i j || memN j q2) (.slice A5 (groupsL xs.length (adjR xs) i).length c5) (groupsL xs.length (adjR xs) i) V G vq q2 vg s' ∧ Below w.heap.size w wr ∧ Bq ≤ wr.heap.size) (fun _ c _ => xs.length - (intOf c).toNat)
      case atStart => exact ⟨q, 0, Nat.zero_le _, rfl, hq, rfl, hql, (by show _ = _; rw [List.getElem?_eq_getElem hql, HX0.out]), (fun y hy => absurd hy (Nat.not_lt_zero _)), hGp, hbP, hBp⟩
      case round => as_aux_lemma =>
        clear hGp hbP hBp
        obtain ⟨q2, k, hk, rfl, hq2, HTK, hat2, HQX, HAL, hG, hb, hBw⟩ := hrel
        have hqn2 := hq2.len
        by_cases hltk : k < xs.length
        rotate_left
        · have hk2 : ¬ (k : Int) < (xs.length : Int) := by omega
          have hqx : q2[at_] = x0 := by have := HQX.out; rw [List.getElem?_eq_getElem hat2] at this; exact Option.some.inj this
          have hqN := hq2.next hat2 (fun y hy => by rw [hqx] at hy; exact HAL.out y (by have := (hg.lt _ _ hy).2; omega) hy)
          replace hqx := Lib.hid hqx
          go_wp2
          go_roundw
          case rel => exact ⟨q2, s', at_ + 1, hqN, by omega, by go_num, hG, ⟨HSM2.out.1, fun x => by rw [HSM2.out.2, HTK.out]⟩, hsl', hb, hBw⟩
          case measure => simp [intOf]; omega
        have hltk' : (k : Int) < (xs.length : Int) := by omega
        obtain ⟨gq2, cq2, rfl, _⟩ := hG.qo.addr (by rw [ints_len]; omega)
        rw [ints_len] at hG ⊢
        obtain ⟨b, off, vk, fk, rfl, _, _, r2, hnear, _⟩ := (hx.below' hb).reg hx0n
        obtain ⟨b', off', vk', fk', hA, r0, _⟩ := (hx.below' hb).reg hltk
        injection hA with hA
        injection hA with hA1 hA2 _
        subst hA1 hA2
        obtain ⟨bl, ol, rfl, _, _, l0, _⟩ := (hx2.below' hb).cell1 rfl (k := k) (by rw [hlm]; exact hltk) rfl
        obtain ⟨bl', ol', hA, _, _, l1, _⟩ := (hx2.below' hb).cell1 rfl (k := i) (by rw [hlm]; exact hlt) rfl
        injection hA with hA
        injection hA with hA1 hA2 _
        subst hA1 hA2
        replace l0 : wr.cell? ⟨bl, ol + k, none⟩ = some (.int .i64 xs[k].level) := by simpa using l0
        replace l1 : wr.cell? ⟨bl, ol + i, none⟩ = some (.int .i64 xs[i].level) := by simpa using l1
        have hlx : xs[x0].level = xs[i].level := by
          have h := rch_level hrx
          rw [getD_of_lt hx0n, getD_of_lt hlt] at h; exact h
        have HADJ : Hid (adjR xs x0 k = (decide (xs[k].level = xs[i].level) && memS xs[k].id xs[x0].near)) := by
          show _ = _
          rw [adjR_at hx0n hltk, hlx]
          congr 1
          rw [Bool.eq_iff_iff]; simp [eq_comm]
        have hnx : seenB (adjR xs) i k = true → adjR xs x0 k = true → False := fun h1 h2 => by
          have hqx : q2[at_] = x0 := by have := HQX.out; rw [List.getElem?_eq_getElem hat2] at this; exact Option.some.inj this
          have := hq2.fresh hg hsi.out hat2 (by rw [hqx]; exact h2)
          rw [this] at h1; cases h1
        have HNX := Lib.hid hnx
        have s0 := hG.cellS hltk
        have z0 := hG.frozenS k
        have hxl : xs.length ≤ 8 := hn8
        clear hlx hnx
        generalize hnr : xs[x0].near = nr at *
        generalize hid' : xs[k].id = idk at *
        generalize hlk' : xs[k].level = lk at *
        generalize hli' : xs[i].level = li at *
        clear hnr hid' hlk' hli'
        cases hf : (seenB (adjR xs) i k || memN k q2)
        rotate_left
        · rw [hf] at s0
          have HAL2 : Hid (∀ y, y < k + 1 → adjR xs x0 y = true → y ∈ q2) := fun y hy ha => by
            rcases Nat.lt_or_eq_of_le (Nat.le_of_lt_succ hy) with h1 | rfl
            · exact HAL.out y h1 ha
            · rcases Bool.or_eq_true _ _ ▸ hf with h | h
              · exact (HNX.out h ha).elim
              · exact memN_true.1 h
          clear hf HADJ HNX HAL
          go_wp2
          have gs0 := cell_regrown s0
          refine wp_region_mix (C := fun w' => ∃ p : Regrown, w' = Go.Sort.grow (redrawn wr p.d) p.os) [true, true, true, true, true, true, true, true, true, true, true, true, true, true, true, true, true, true, true, true, true, true, true, true, true, false, true] (by kernel_rfl) (by kernel_rfl) (by kernel_rfl) (fun _ _ d _ _ h => by cases d <;> exact h) (regrown_of_below (Below.drew (Below.refl _ _))) ?_
          have hS0 : Below (wr.heap.size) wr wr.drew := Below.drew (Below.refl _ _)
          refine wpMix_pure (by kernel_rfl) (fun K hK => ?_); go_big_quiet_op; refine hK _ ?_; clear hK K
          refine wpMix_pure (by kernel_rfl) (fun K hK => ?_); go_big_quiet_op; refine hK _ ?_; clear hK K
          refine wpMix_pure (by kernel_rfl) (fun K hK => ?_); go_big_quiet_op; refine hK _ ?_; clear hK K
          refine wpMix_pure (by kernel_rfl) (fun K hK => ?_); go_big_quiet_op; refine hK _ ?_; clear hK K
          refine wpMix_pure (by kernel_rfl) (fun K hK => ?_); go_big_quiet_op; refine hK _ ?_; clear hK K
          refine wpMix_pure (by kernel_rfl) (fun K hK => ?_); go_big_quiet_op; refine hK _ ?_; clear hK K
          refine wpMix_skip (by kernel_rfl) (fun K hK => ?_)
          simp only [Act.put, List.setIfInBounds_toArray, List.set_cons_zero, List.set_cons_succ]
          refine hK _ ?_; clear hK K
          refine wpMix_skip (by kernel_rfl) (fun K hK => ?_)
          simp only [Act.put, List.setIfInBounds_toArray, List.set_cons_zero, List.set_cons_succ]
          refine hK _ ?_; clear hK K
          refine wpMix_skip (by kernel_rfl) (fun K hK => ?_)
          simp only [Act.put, List.setIfInBounds_toArray, List.set_cons_zero, List.set_cons_succ]
          refine hK _ ?_; clear hK K
          refine wpMix_skip (by kernel_rfl) (fun K hK => ?_)
          simp only [Act.put, List.setIfInBounds_toArray, List.set_cons_zero, List.set_cons_succ]
          refine hK _ ?_; clear hK K
          refine wpMix_skip (by kernel_rfl) (fun K hK => ?_)
          simp only [Act.put, List.setIfInBounds_toArray, List.set_cons_zero, List.set_cons_succ]
          refine hK _ ?_; clear hK K
          refine wpMix_skip (by kernel_rfl) (fun K hK => ?_)
          simp only [Act.put, List.setIfInBounds_toArray, List.set_cons_zero, List.set_cons_succ]
          refine hK _ ?_; clear hK K
          refine wpMix_skip (by kernel_rfl) (fun K hK => ?_)
          simp only [Act.put, List.setIfInBounds_toArray, List.set_cons_zero, List.set_cons_succ]
          refine hK _ ?_; clear hK K
          refine wpMix_skip (by kernel_rfl) (fun K hK => ?_)
          simp only [Act.put, List.setIfInBounds_toArray, List.set_cons_zero, List.set_cons_succ]
          refine hK _ ?_; clear hK K
          refine wpMix_skip (by kernel_rfl) (fun K hK => ?_)
          simp only [Act.put, List.setIfInBounds_toArray, List.set_cons_zero, List.set_cons_succ]
          refine hK _ ?_; clear hK K
          refine wpMix_pure (by kernel_rfl) (fun K hK => ?_); go_big_quiet_op; refine hK _ ?_; clear hK K
          refine wpMix_pure (by kernel_rfl) (fun K hK => ?_); go_big_quiet_op; refine hK _ ?_; clear hK K
          refine wpMix_skip (by kernel_rfl) (fun K hK => ?_)
          simp only [Act.put, List.setIfInBounds_toArray, List.set_cons_zero, List.set_cons_succ]
          refine hK _ ?_; clear hK K
          refine wpMix_skip (by kernel_rfl) (fun K hK => ?_)
          simp only [Act.put, List.setIfInBounds_toArray, List.set_cons_zero, List.set_cons_succ]
          refine hK _ ?_; clear hK K
          refine wpMix_skip (by kernel_rfl) (fun K hK => ?_)
          simp only [Act.put, List.setIfInBounds_toArray, List.set_cons_zero, List.set_cons_succ]
          refine hK _ ?_; clear hK K
          refine wpMix_skip (by kernel_rfl) (fun K hK => ?_)
          simp only [Act.put, List.setIfInBounds_toArray, List.set_cons_zero, List.set_cons_succ]
          refine hK _ ?_; clear hK K
          refine wpMix_skip (by kernel_rfl) (fun K hK => ?_)
          simp only [Act.put, List.setIfInBounds_toArray, List.set_cons_zero, List.set_cons_succ]
          refine hK _ ?_; clear hK K
          refine wpMix_skip (by kernel_rfl) (fun K hK => ?_)
          simp only [Act.put, List.setIfInBounds_toArray, List.set_cons_zero, List.set_cons_succ]
          refine hK _ ?_; clear hK K
          refine wpMix_skip (by kernel_rfl) (fun K hK => ?_)
          simp only [Act.put, List.setIfInBounds_toArray, List.set_cons_zero, List.set_cons_succ]
          refine hK _ ?_; clear hK K
          refine wpMix_skip (by kernel_rfl) (fun K hK => ?_)
          simp only [Act.put, List.setIfInBounds_toArray, List.set_cons_zero, List.set_cons_succ]
          refine hK _ ?_; clear hK K
          refine wpMix_skip (by kernel_rfl) (fun K hK => ?_)
          simp only [Act.put, List.setIfInBounds_toArray, List.set_cons_zero, List.set_cons_succ]
          refine hK _ ?_; clear hK K
          refine wpMix_pure (by kernel_rfl) (fun K hK => ?_); go_big_quiet_op; refine hK _ ?_; clear hK K
          refine wpMix_nil ?_
          have hS9 : Below wr.heap.size wr wr.drew := hS0
          have hG9 := hG.below hS9
          have hb9 := hb.trans (hS9.mono hb.size)
          have hBw9 : Bq ≤ wr.drew.heap.size := Nat.le_trans hBw hS9.size
          go_wp2
          go_roundw
          case rel => exact ⟨q2, k + 1, by omega, by go_num, hq2, HTK, hat2, HQX, HAL2, hG9, hb9, hBw9⟩
          case measure => simp [intOf]; omega
        · rw [hf] at s0
          replace hf := Lib.hid hf
          go_wp2
          have gs0 := cell_regrown s0
          have gl0 := cell_regrown l0
          have gl1 := cell_regrown l1
          have gr0 := cell_regrown r0
          refine wp_region_mix (C := fun w' => ∃ p : Regrown, w' = Go.Sort.grow (redrawn wr p.d) p.os) [true, true, true, true, true, true, true, true, true, true, true, true, true, true, true, true, true, true, true, true, true, true, true, true, true, false, true] (by kernel_rfl) (by kernel_rfl) (by kernel_rfl) (fun _ _ d _ _ h => by cases d <;> exact h) (regrown_of_below (Below.drew (Below.refl _ _))) ?_
          have hS0 : Below (wr.heap.size) wr wr.drew := Below.drew (Below.refl _ _)
          refine wpMix_pure (by kernel_rfl) (fun K hK => ?_); go_big_quiet_op; refine hK _ ?_; clear hK K
          refine wpMix_pure (by kernel_rfl) (fun K hK => ?_); go_big_quiet_op; refine hK _ ?_; clear hK K
          refine wpMix_pure (by kernel_rfl) (fun K hK => ?_); go_big_quiet_op; refine hK _ ?_; clear hK K
          refine wpMix_pure (by kernel_rfl) (fun K hK => ?_); go_big_quiet_op; refine hK _ ?_; clear hK K
          refine wpMix_pure (by kernel_rfl) (fun K hK => ?_); go_big_quiet_op; refine hK _ ?_; clear hK K
          refine wpMix_pure (by kernel_rfl) (fun K hK => ?_); go_big_quiet_op; refine hK _ ?_; clear hK K
          refine wpMix_pure (by kernel_rfl) (fun K hK => ?_); go_big_quiet_op; refine hK _ ?_; clear hK K
          refine wpMix_pure (by kernel_rfl) (fun K hK => ?_); go_big_quiet_op; refine hK _ ?_; clear hK K
          refine wpMix_pure (by kernel_rfl) (fun K hK => ?_); go_big_quiet_op; refine hK _ ?_; clear hK K
          refine wpMix_pure (by kernel_rfl) (fun K hK => ?_); go_big_quiet_op; refine hK _ ?_; clear hK K
          refine wpMix_pure (by kernel_rfl) (fun K hK => ?_); go_big_quiet_op; refine hK _ ?_; clear hK K
          refine wpMix_pure (by kernel_rfl) (fun K hK => ?_); go_big_quiet_op; refine hK _ ?_; clear hK K
          refine wpMix_pure (by kernel_rfl) (fun K hK => ?_); go_big_quiet_op; refine hK _ ?_; clear hK K
          refine wpMix_pure (by kernel_rfl) (fun K hK => ?_); go_big_quiet_op; refine hK _ ?_; clear hK K
          by_cases hq14 : lk = li
          · skip
            have e14 : (lk == li) = true := by rw [beq_iff_eq]; exact hq14
            replace hq14 := Lib.hid hq14
            refine wpMix_pure (by kernel_rfl) (fun K hK => ?_); go_big_quiet_op; refine hK _ ?_; clear hK K
            refine wpMix_pure (by kernel_rfl) (fun K hK => ?_); go_big_quiet_op; refine hK _ ?_; clear hK K
            refine wpMix_pure (by kernel_rfl) (fun K hK => ?_); go_big_quiet_op; refine hK _ ?_; clear hK K
            refine wpMix_pure (by kernel_rfl) (fun K hK => ?_); go_big_quiet_op; refine hK _ ?_; clear hK K
            refine wpMix_pure (by kernel_rfl) (fun K hK => ?_); go_big_quiet_op; refine hK _ ?_; clear hK K
            refine wpMix_pure (by kernel_rfl) (fun K hK => ?_); go_big_quiet_op; refine hK _ ?_; clear hK K
            refine wpMix_pure (by kernel_rfl) (fun K hK => ?_); go_big_quiet_op; refine hK _ ?_; clear hK K
            refine wpMix_pure (by kernel_rfl) (fun K hK => ?_); go_big_quiet_op; refine hK _ ?_; clear hK K
            refine wpMix_pure (by kernel_rfl) (fun K hK => ?_); go_big_quiet_op; refine hK _ ?_; clear hK K
            refine wpMix_pure (by kernel_rfl) (fun K hK => ?_); go_big_quiet_op; refine hK _ ?_; clear hK K
            refine wpMix_pure (by kernel_rfl) (fun K hK => ?_); go_big_quiet_op; refine hK _ ?_; clear hK K
            refine wpMix_act (by kernel_rfl) (fun K hK => ?_)
            go_big_op
            refine (l18Near_any b (off + x0 * 3) vk nr fk idk wr.drew ((hS0).cell (p := ⟨b, off + x0 * 3 + 2, none⟩) (block_lt_of_cell r2) |>.trans r2) (hnear.below' (hS0))).mono ?_
            rintro e w' ⟨rfl, rfl⟩
            refine hK _ _ (regrown_of_below hS0) ?_
            clear hK K
            cases hq25 : memS idk nr
            · skip
              refine wpMix_pure (by kernel_rfl) (fun K hK => ?_); go_big_quiet_op; refine hK _ ?_; clear hK K
              refine wpMix_nil ?_
              have hS9 : Below wr.heap.size wr wr.drew := hS0
              have hG9 := hG.below hS9
              have hb9 := hb.trans (hS9.mono hb.size)
              have hBw9 : Bq ≤ wr.drew.heap.size := Nat.le_trans hBw hS9.size
              have HAL2 : Hid (∀ y, y < k + 1 → adjR xs x0 y = true → y ∈ q2) := fun y hy ha => by
                rcases Nat.lt_or_eq_of_le (Nat.le_of_lt_succ hy) with h1 | rfl
                · exact HAL.out y h1 ha
                · rw [HADJ.out, hq25, Bool.and_false] at ha; cases ha
              clear HADJ HNX HAL hf
              go_wp2
              go_roundw
              case rel => exact ⟨q2, k + 1, by omega, by go_num, hq2, HTK, hat2, HQX, HAL2, hG9, hb9, hBw9⟩
              case measure => simp [intOf]; omega
            · skip
              refine wpMix_pure (by kernel_rfl) (fun K hK => ?_); go_big_quiet_op; refine hK _ ?_; clear hK K
              refine wpMix_nil ?_
              have hS9 : Below wr.heap.size wr wr.drew := hS0
              have hG9 := hG.below hS9
              have hb9 := hb.trans (hS9.mono hb.size)
              have hBw9 : Bq ≤ wr.drew.heap.size := Nat.le_trans hBw hS9.size
              have hadj : adjR xs x0 k = true := by rw [HADJ.out, decide_eq_true hq14.out, hq25]; rfl
              have hqx : q2[at_] = x0 := by have := HQX.out; rw [List.getElem?_eq_getElem hat2] at this; exact Option.some.inj this
              have hni : k ∉ q2 := fun h => by
                have h1 := hf.out
                rw [Bool.or_eq_false_iff] at h1
                have h2 := memN_true.2 h
                rw [h1.2] at h2; cases h2
              have HQ3 := Lib.hid (hq2.add hg hat2 (by rw [hqx]; exact hadj) hni)
              have HAL2 : Hid (∀ y, y < k + 1 → adjR xs x0 y = true → y ∈ q2 ++ [k]) := fun y hy ha => by
                rcases Nat.lt_or_eq_of_le (Nat.le_of_lt_succ hy) with h1 | rfl
                · exact List.mem_append_left _ (HAL.out y h1 ha)
                · exact List.mem_append_right _ (List.mem_singleton.2 rfl)
              have HTK2 : Hid ((q2 ++ [k]).take (at_ + 1) = q.take (at_ + 1)) := by show _ = _; rw [List.take_append_of_le_length (by omega)]; exact HTK.out
              have HQX2 : Hid ((q2 ++ [k])[at_]? = some x0) := by show _ = _; rw [List.getElem?_append_left hat2]; exact HQX.out
              clear hadj hqx hni HADJ HNX HAL HTK HQX hf hq14 hq25 hG hS9 hS0 gr0 gl0 gl1 gs0 r2 r0 l0 l1 hnear
              generalize wr.drew = V9 at *
              have s9 := hG9.cellS hltk
              have z9 := hG9.frozenS k
              have hGa := (hG9.mark k).below ((Below.refl _ _).alloc (Nat.le_refl _) (.cells #[.int .i64 k] 2))
              have hgsl9 := hG9.gslt
              have hbA : Below w.heap.size w ((V9.setCell ⟨gs, k, none⟩ (.bool true)).alloc (.cells #[.int .i64 k] 2)) := by
                have h1 : Below w.heap.size w (V9.setCell ⟨gs, k, none⟩ (.bool true)) := hb9.setCell (p := ⟨gs, k, none⟩) hgsl9.1 _
                exact h1.alloc h1.size _
              have hszW : (((V9.setCell ⟨gs, k, none⟩ (.bool true)).alloc (.cells #[.int .i64 k] 2))).heap.size = V9.heap.size + 1 := by simp
              have hown0 : (((V9.setCell ⟨gs, k, none⟩ (.bool true)).alloc (.cells #[.int .i64 k] 2))).ownsRow Bq 2 1 (.slice (some ⟨gq2, 0, none⟩) q2.length cq2) q2.length ((ints q2).flatMap fInt.enc) := by
                have h : (((V9.setCell ⟨gs, k, none⟩ (.bool true)).alloc (.cells #[.int .i64 k] 2))).ownsRow Bq 2 1 (.slice (some ⟨gq2, 0, none⟩) q2.length cq2) (ints q2).length ((ints q2).flatMap fInt.enc) := hGa.qo
                rw [ints_len] at h; exact h
              have hnw : ∀ (j : Nat) (u : Value), [(.int .i64 k : Value)][j]? = some u → (((V9.setCell ⟨gs, k, none⟩ (.bool true)).alloc (.cells #[.int .i64 k] 2))).cell? ((⟨V9.heap.size, 0, none⟩ : Addr).add j) = some u := fun j u hj => by
                have e0 : ((⟨V9.heap.size, 0, none⟩ : Addr).add 0) = ⟨(V9.setCell ⟨gs, k, none⟩ (.bool true)).heap.size, 0, none⟩ := by simp [Addr.add]
                match j, hj with
                | 0, hj => injection hj with hj; subst hj; rw [e0]; exact (World.cell?_alloc_at _ _ _ _ rfl).trans rfl
                | j + 1, hj => simp at hj
              obtain ⟨LV, hLV⟩ : ∃ LV : List Value, LV = (ints q2).flatMap fInt.enc := ⟨_, rfl⟩
              rw [← hLV] at hown0
              have HLV := Lib.hid hLV
              clear hLV
              go_wp2_with (at_builtin; refine wpList_append_lies _ rfl _ _ 46 rfl Bq 2 j0 (.int .i64 0) 1 8 Tryz.underlying46 hj hy0 hy1 hy2 rfl (by decide) (.slice (some ⟨gq2, 0, none⟩) q2.length cq2) q2.length _ rfl hown0 _ 1 1 [.int .i64 k] rfl rfl hnw (by intro u hu; rw [List.mem_singleton] at hu; subst hu; rfl) (by decide) (by unfold maxLen; omega) (by omega) (by simp; omega) (V9.heap.size + 1) (by simp) ?_)
              intro g5 c6 w5 hown5 hgr5 hat5 hlt5
              rw [HLV.out] at hown5
              have hw5 : Own fInt w5 Bq 2 (.slice (some ⟨g5, 0, none⟩) (q2.length + 1) c6) (ints (q2 ++ [k])) := by rw [ints_snoc]; exact Own.push _ (by rw [ints_len]) hown5
              have hG5 := (hGa.add hw5 hgr5 (by
                rcases hat5 with e | e
                · exact .inl e.symm
                · exact .inr ⟨g5, rfl, by rw [hszW, e]; exact Nat.le_refl _⟩)).congr (f' := fun j => seenB (adjR xs) i j || memN j (q2 ++ [k])) (fun j _ => by rw [memN_snoc, Bool.or_assoc])
              have hb5 : Below w.heap.size w w5 := hbA.grown hgr5 (by have := hb9.size; simp; omega) (fun b hb => by have := (own_at hGa.qo hb).1; have := hbs; omega)
              have hBw5 : Bq ≤ w5.heap.size := by have := hgr5.size; rw [hszW] at this; omega
              have hl2 : at_ < (q2 ++ [k]).length := by rw [List.length_append]; omega
              clear hown0 HLV hnw hown5 hgr5 hat5 hlt5 hw5 hGa hG9 hbA hszW s9 z9
              go_wp2
              go_roundw
              case rel => exact ⟨q2 ++ [k], k + 1, by omega, by go_num, HQ3.out, HTK2, hl2, HQX2, HAL2, hG5, hb5, hBw5⟩
              case measure => simp [intOf]; omega
          · skip
            have e14 : (lk == li) = false := by rw [beq_eq_false_iff_ne]; exact hq14
            refine wpMix_pure (by kernel_rfl) (fun K hK => ?_); go_big_quiet_op; refine hK _ ?_; clear hK K
            refine wpMix_pure (by kernel_rfl) (fun K hK => ?_); go_big_quiet_op; refine hK _ ?_; clear hK K
            refine wpMix_pure (by kernel_rfl) (fun K hK => ?_); go_big_quiet_op; refine hK _ ?_; clear hK K
            refine wpMix_skip (by kernel_rfl) (fun K hK => ?_)
            simp only [Act.put, List.setIfInBounds_toArray, List.set_cons_zero, List.set_cons_succ]
            refine hK _ ?_; clear hK K
            refine wpMix_skip (by kernel_rfl) (fun K hK => ?_)
            simp only [Act.put, List.setIfInBounds_toArray, List.set_cons_zero, List.set_cons_succ]
            refine hK _ ?_; clear hK K
            refine wpMix_skip (by kernel_rfl) (fun K hK => ?_)
            simp only [Act.put, List.setIfInBounds_toArray, List.set_cons_zero, List.set_cons_succ]
            refine hK _ ?_; clear hK K
            refine wpMix_skip (by kernel_rfl) (fun K hK => ?_)
            simp only [Act.put, List.setIfInBounds_toArray, List.set_cons_zero, List.set_cons_succ]
            refine hK _ ?_; clear hK K
            refine wpMix_skip (by kernel_rfl) (fun K hK => ?_)
            simp only [Act.put, List.setIfInBounds_toArray, List.set_cons_zero, List.set_cons_succ]
            refine hK _ ?_; clear hK K
            refine wpMix_skip (by kernel_rfl) (fun K hK => ?_)
            simp only [Act.put, List.setIfInBounds_toArray, List.set_cons_zero, List.set_cons_succ]
            refine hK _ ?_; clear hK K
            refine wpMix_skip (by kernel_rfl) (fun K hK => ?_)
            simp only [Act.put, List.setIfInBounds_toArray, List.set_cons_zero, List.set_cons_succ]
            refine hK _ ?_; clear hK K
            refine wpMix_skip (by kernel_rfl) (fun K hK => ?_)
            simp only [Act.put, List.setIfInBounds_toArray, List.set_cons_zero, List.set_cons_succ]
            refine hK _ ?_; clear hK K
            refine wpMix_skip (by kernel_rfl) (fun K hK => ?_)
            simp only [Act.put, List.setIfInBounds_toArray, List.set_cons_zero, List.set_cons_succ]
            refine hK _ ?_; clear hK K
            refine wpMix_pure (by kernel_rfl) (fun K hK => ?_); go_big_quiet_op; refine hK _ ?_; clear hK K
            refine wpMix_nil ?_
            have hS9 : Below wr.heap.size wr wr.drew := hS0
            have hG9 := hG.below hS9
            have hb9 := hb.trans (hS9.mono hb.size)
            have hBw9 : Bq ≤ wr.drew.heap.size := Nat.le_trans hBw hS9.size
            have HAL2 : Hid (∀ y, y < k + 1 → adjR xs x0 y = true → y ∈ q2) := fun y hy ha => by
              rcases Nat.lt_or_eq_of_le (Nat.le_of_lt_succ hy) with h1 | rfl
              · exact HAL.out y h1 ha
              · rw [HADJ.out, decide_eq_false hq14, Bool.false_and] at ha; cases ha
            clear HADJ HNX HAL hf
            go_wp2
            go_roundw
            case rel => exact ⟨q2, k + 1, by omega, by go_num, hq2, HTK, hat2, HQX, HAL2, hG9, hb9, hBw9⟩
            case measure => simp [intOf]; omega

end Go.Proofs.YtgnbhcgagdfaiaaGreatDoor

namespace Go.Proofs.YtgnbhcgagdfaiaaGreatDoor
open Go.RowKit
set_option linter.unusedVariables false

structure DIncident where
  day : Int
  place : ByteArray
  cause : ByteArray
  level : Int
  caught : Int
  buried : Int
  deriving DecidableEq

def fIncident : Flat DIncident where
  n := 6
  enc := fun x => [.int .i64 x.day, .string x.place, .string x.cause, .int .i64 x.level, .int .i64 x.caught, .int .i64 x.buried]
  ok := fun x => fInt.ok x.day ∧ fStr.ok x.place ∧ fStr.ok x.cause ∧ fInt.ok x.level ∧ fInt.ok x.caught ∧ fInt.ok x.buried
  pos := by omega
  len := fun _ => rfl
  one := by intro x v hv; simp at hv; rcases hv with rfl | rfl | rfl | rfl | rfl | rfl <;> rfl

def totIncident (x : DIncident) : Nat := x.place.size + x.cause.size
def totIncidentS (xs : List DIncident) : Nat := xs.length + (xs.map totIncident).sum






def mkIncident (k : Int) : DIncident := ⟨k, mt (k + 1), mt (k + 1 + 1), k + 1 + 1 + 1, k + 1 + 1 + 1 + 1, k + 1 + 1 + 1 + 1 + 1⟩
def marksIncident (k : Int) (n : Nat) : List DIncident := (List.range n).map fun (i : Nat) => mkIncident (k + 6 * (i : Int))

theorem marksIncident_get (k0 : Int) (n i : Nat) (h : i < (marksIncident k0 n).length) : (marksIncident k0 n)[i] = mkIncident (k0 + 6 * (i : Int)) := by
  simp [marksIncident]
theorem marksIncident_len (k0 : Int) (n : Nat) : (marksIncident k0 n).length = n := by simp [marksIncident]



end Go.Proofs.YtgnbhcgagdfaiaaGreatDoor

namespace Go.Proofs.YtgnbhcgagdfaiaaGreatDoor
open Go.RowKit
set_option linter.unusedVariables false

/-- A pointer to a Incident that lies somewhere. -/
structure PIncident (w : World) (pb po : Nat) (x : DIncident) : Prop where
  c0 : w.cell? ⟨pb, po, none⟩ = some (.int .i64 x.day)
  c1 : w.cell? ⟨pb, po + 1, none⟩ = some (.string x.place)
  c2 : w.cell? ⟨pb, po + 2, none⟩ = some (.string x.cause)
  c3 : w.cell? ⟨pb, po + 3, none⟩ = some (.int .i64 x.level)
  c4 : w.cell? ⟨pb, po + 4, none⟩ = some (.int .i64 x.caught)
  c5 : w.cell? ⟨pb, po + 5, none⟩ = some (.int .i64 x.buried)
theorem PIncident.below {w w' : World} {pb po : Nat} {x : DIncident} {B : Nat} (h : PIncident w pb po x) (hb : Below B w w') (hB : pb < B) : PIncident w' pb po x :=
  ⟨(hb.cell (p := ⟨pb, _, none⟩) hB).trans h.c0, (hb.cell (p := ⟨pb, _, none⟩) hB).trans h.c1, (hb.cell (p := ⟨pb, _, none⟩) hB).trans h.c2, (hb.cell (p := ⟨pb, _, none⟩) hB).trans h.c3, (hb.cell (p := ⟨pb, _, none⟩) hB).trans h.c4, (hb.cell (p := ⟨pb, _, none⟩) hB).trans h.c5⟩
theorem PIncident.drewN {w : World} {pb po : Nat} {x : DIncident} (h : PIncident w pb po x) (n : Nat) : PIncident (w.drewN n) pb po x :=
  ⟨h.c0, h.c1, h.c2, h.c3, h.c4, h.c5⟩
theorem PIncident.lt {w : World} {pb po : Nat} {x : DIncident} (h : PIncident w pb po x) : pb < w.heap.size := block_lt_of_cell h.c0
theorem PIncident.below' {w w' : World} {pb po : Nat} {x : DIncident} (h : PIncident w pb po x) (hb : Below w.heap.size w w') : PIncident w' pb po x := h.below hb h.lt
theorem PIncident.box (w : World) (x : DIncident) (T : TypeId) : PIncident (w.alloc (.cells #[.int .i64 x.day, .string x.place, .string x.cause, .int .i64 x.level, .int .i64 x.caught, .int .i64 x.buried] T)) w.heap.size 0 x := by
  constructor <;> simp
theorem PIncident.elem {w : World} {A : Option Addr} {len cap : Nat} {xs : List DIncident} {fp : List Nat} (h : Sl fIncident.cod w (.slice A len cap) xs fp) {k : Nat} (hk : k < xs.length) :
    ∃ b off, A = some ⟨b, off, none⟩ ∧ b ∈ fp ∧ fIncident.ok xs[k] ∧ PIncident w b (off + k * 6) xs[k] := by
  obtain ⟨b, off, hA, hm, hok, hc, _⟩ := h.at_ hk
  exact ⟨b, off, hA, hm, hok, ⟨hc 0 (by decide), hc 1 (by decide), hc 2 (by decide), hc 3 (by decide), hc 4 (by decide), hc 5 (by decide)⟩⟩
end Go.Proofs.YtgnbhcgagdfaiaaGreatDoor

namespace Go.Proofs.YtgnbhcgagdfaiaaGreatDoor
open Go.RowKit
set_option linter.unusedVariables false

def incB (x : DIncident) : Bool := inB x.day 0 36524 && nameB x.place && nameB x.cause && inB x.level 1 5 && inB x.caught 0 20 && inB x.buried 0 x.caught
def n00 : DIncident := ⟨0, ⟨#[]⟩, ⟨#[]⟩, 0, 0, 0⟩
def iAg (x : DIncident) : Value := .agg #[.int .i64 x.day, .string x.place, .string x.cause, .int .i64 x.level, .int .i64 x.caught, .int .i64 x.buried]
theorem incV (x : DIncident) : incB x = (inB x.day 0 36524 && (nameB x.place && (nameB x.cause && (inB x.level 1 5 && (inB x.caught 0 20 && inB x.buried 0 x.caught))))) := by
  unfold incB; simp only [Bool.and_assoc]
set_option maxRecDepth 100000 in
set_option maxHeartbeats 4000000 in
theorem l28One_any (pb po : Nat) (x : DIncident) (w : World) (hp : PIncident w pb po x) (hok : fIncident.ok x) :
    Calls Tryz.prog 118 #[.pointer (some ⟨pb, po, none⟩)] w fun e w' => e = .returned (.bool (incB x)) ∧ Below w.heap.size w w' := by
  obtain ⟨c0, c1, c2, c3, c4, c5⟩ := id hp
  obtain ⟨_, k1, k2, _⟩ := id hok
  have k1' : x.place.size ≤ 9223372036854775807 := k1
  have k2' : x.cause.size ≤ 9223372036854775807 := k2
  clear k1 k2 hok hp
  go_enter Tryz.func118, Tryz.ntmps118
  go_wp2
  have gc0 := cell_regrown c0
  have gc1 := cell_regrown c1
  have gc2 := cell_regrown c2
  have gc3 := cell_regrown c3
  have gc4 := cell_regrown c4
  have gc5 := cell_regrown c5
  refine wp_region_mix (C := fun w' => ∃ p : Regrown, w' = Go.Sort.grow (redrawn w p.d) p.os) [true, true, true, true, false, true, true, true, true, true, false, true, true, true, true, true, true, false, true, true, true, true, true, true, false, true, true, true, true, true, true, false, true, true, true, true, true, true, true, true, true, true, false, true, true] (by kernel_rfl) (by kernel_rfl) (by kernel_rfl) (fun _ _ d _ _ h => by cases d <;> exact h) (regrown_of_below (Below.drew (Below.refl _ _))) ?_
  have hS0 : Below (w.heap.size) w w.drew := Below.drew (Below.refl _ _)
  refine wpMix_pure (by kernel_rfl) (fun K hK => ?_); go_big_quiet_op; refine hK _ ?_; clear hK K
  refine wpMix_pure (by kernel_rfl) (fun K hK => ?_); go_big_quiet_op; refine hK _ ?_; clear hK K
  refine wpMix_pure (by kernel_rfl) (fun K hK => ?_); go_big_quiet_op; refine hK _ ?_; clear hK K
  refine wpMix_pure (by kernel_rfl) (fun K hK => ?_); go_big_quiet_op; refine hK _ ?_; clear hK K
  refine wpMix_act (by kernel_rfl) (fun K hK => ?_)
  go_big_op
  refine (l02DayV_any _ _).mono ?_
  rintro e w' ⟨rfl, rfl⟩
  refine hK _ _ (regrown_of_below hS0) ?_
  clear hK K
  cases hq4 : inB x.day 0 36524
  · skip
    refine wpMix_pure (by kernel_rfl) (fun K hK => ?_); go_big_quiet_op; refine hK _ ?_; clear hK K
    refine wpMix_skip (by kernel_rfl) (fun K hK => ?_)
    simp only [Act.put, List.setIfInBounds_toArray, List.set_cons_zero, List.set_cons_succ]
    refine hK _ ?_; clear hK K
    refine wpMix_skip (by kernel_rfl) (fun K hK => ?_)
    simp only [Act.put, List.setIfInBounds_toArray, List.set_cons_zero, List.set_cons_succ]
    refine hK _ ?_; clear hK K
    refine wpMix_skip (by kernel_rfl) (fun K hK => ?_)
    simp only [Act.put, List.setIfInBounds_toArray, List.set_cons_zero, List.set_cons_succ]
    refine hK _ ?_; clear hK K
    refine wpMix_skip (by kernel_rfl) (fun K hK => ?_)
    simp only [Act.put, List.setIfInBounds_toArray, List.set_cons_zero, List.set_cons_succ]
    refine hK _ ?_; clear hK K
    refine wpMix_skip (by kernel_rfl) (fun K hK => ?_)
    simp only [Act.put, List.setIfInBounds_toArray, List.set_cons_zero, List.set_cons_succ]
    refine hK _ ?_; clear hK K
    refine wpMix_pure (by kernel_rfl) (fun K hK => ?_); go_big_quiet_op; refine hK _ ?_; clear hK K
    refine wpMix_pure (by kernel_rfl) (fun K hK => ?_); go_big_quiet_op; refine hK _ ?_; clear hK K
    refine wpMix_skip (by kernel_rfl) (fun K hK => ?_)
    simp only [Act.put, List.setIfInBounds_toArray, List.set_cons_zero, List.set_cons_succ]
    refine hK _ ?_; clear hK K
    refine wpMix_skip (by kernel_rfl) (fun K hK => ?_)
    simp only [Act.put, List.setIfInBounds_toArray, List.set_cons_zero, List.set_cons_succ]
    refine hK _ ?_; clear hK K
    refine wpMix_skip (by kernel_rfl) (fun K hK => ?_)
    simp only [Act.put, List.setIfInBounds_toArray, List.set_cons_zero, List.set_cons_succ]
    refine hK _ ?_; clear hK K
    refine wpMix_skip (by kernel_rfl) (fun K hK => ?_)
    simp only [Act.put, List.setIfInBounds_toArray, List.set_cons_zero, List.set_cons_succ]
    refine hK _ ?_; clear hK K
    refine wpMix_skip (by kernel_rfl) (fun K hK => ?_)
    simp only [Act.put, List.setIfInBounds_toArray, List.set_cons_zero, List.set_cons_succ]
    refine hK _ ?_; clear hK K
    refine wpMix_pure (by kernel_rfl) (fun K hK => ?_); go_big_quiet_op; refine hK _ ?_; clear hK K
    refine wpMix_pure (by kernel_rfl) (fun K hK => ?_); go_big_quiet_op; refine hK _ ?_; clear hK K
    refine wpMix_skip (by kernel_rfl) (fun K hK => ?_)
    simp only [Act.put, List.setIfInBounds_toArray, List.set_cons_zero, List.set_cons_succ]
    refine hK _ ?_; clear hK K
    refine wpMix_skip (by kernel_rfl) (fun K hK => ?_)
    simp only [Act.put, List.setIfInBounds_toArray, List.set_cons_zero, List.set_cons_succ]
    refine hK _ ?_; clear hK K
    refine wpMix_skip (by kernel_rfl) (fun K hK => ?_)
    simp only [Act.put, List.setIfInBounds_toArray, List.set_cons_zero, List.set_cons_succ]
    refine hK _ ?_; clear hK K
    refine wpMix_skip (by kernel_rfl) (fun K hK => ?_)
    simp only [Act.put, List.setIfInBounds_toArray, List.set_cons_zero, List.set_cons_succ]
    refine hK _ ?_; clear hK K
    refine wpMix_skip (by kernel_rfl) (fun K hK => ?_)
    simp only [Act.put, List.setIfInBounds_toArray, List.set_cons_zero, List.set_cons_succ]
    refine hK _ ?_; clear hK K
    refine wpMix_pure (by kernel_rfl) (fun K hK => ?_); go_big_quiet_op; refine hK _ ?_; clear hK K
    refine wpMix_pure (by kernel_rfl) (fun K hK => ?_); go_big_quiet_op; refine hK _ ?_; clear hK K
    refine wpMix_skip (by kernel_rfl) (fun K hK => ?_)
    simp only [Act.put, List.setIfInBounds_toArray, List.set_cons_zero, List.set_cons_succ]
    refine hK _ ?_; clear hK K
    refine wpMix_skip (by kernel_rfl) (fun K hK => ?_)
    simp only [Act.put, List.setIfInBounds_toArray, List.set_cons_zero, List.set_cons_succ]
    refine hK _ ?_; clear hK K
    refine wpMix_skip (by kernel_rfl) (fun K hK => ?_)
    simp only [Act.put, List.setIfInBounds_toArray, List.set_cons_zero, List.set_cons_succ]
    refine hK _ ?_; clear hK K
    refine wpMix_skip (by kernel_rfl) (fun K hK => ?_)
    simp only [Act.put, List.setIfInBounds_toArray, List.set_cons_zero, List.set_cons_succ]
    refine hK _ ?_; clear hK K
    refine wpMix_skip (by kernel_rfl) (fun K hK => ?_)
    simp only [Act.put, List.setIfInBounds_toArray, List.set_cons_zero, List.set_cons_succ]
    refine hK _ ?_; clear hK K
    refine wpMix_pure (by kernel_rfl) (fun K hK => ?_); go_big_quiet_op; refine hK _ ?_; clear hK K
    refine wpMix_pure (by kernel_rfl) (fun K hK => ?_); go_big_quiet_op; refine hK _ ?_; clear hK K
    refine wpMix_skip (by kernel_rfl) (fun K hK => ?_)
    simp only [Act.put, List.setIfInBounds_toArray, List.set_cons_zero, List.set_cons_succ]
    refine hK _ ?_; clear hK K
    refine wpMix_skip (by kernel_rfl) (fun K hK => ?_)
    simp only [Act.put, List.setIfInBounds_toArray, List.set_cons_zero, List.set_cons_succ]
    refine hK _ ?_; clear hK K
    refine wpMix_skip (by kernel_rfl) (fun K hK => ?_)
    simp only [Act.put, List.setIfInBounds_toArray, List.set_cons_zero, List.set_cons_succ]
    refine hK _ ?_; clear hK K
    refine wpMix_skip (by kernel_rfl) (fun K hK => ?_)
    simp only [Act.put, List.setIfInBounds_toArray, List.set_cons_zero, List.set_cons_succ]
    refine hK _ ?_; clear hK K
    refine wpMix_skip (by kernel_rfl) (fun K hK => ?_)
    simp only [Act.put, List.setIfInBounds_toArray, List.set_cons_zero, List.set_cons_succ]
    refine hK _ ?_; clear hK K
    refine wpMix_skip (by kernel_rfl) (fun K hK => ?_)
    simp only [Act.put, List.setIfInBounds_toArray, List.set_cons_zero, List.set_cons_succ]
    refine hK _ ?_; clear hK K
    refine wpMix_skip (by kernel_rfl) (fun K hK => ?_)
    simp only [Act.put, List.setIfInBounds_toArray, List.set_cons_zero, List.set_cons_succ]
    refine hK _ ?_; clear hK K
    refine wpMix_skip (by kernel_rfl) (fun K hK => ?_)
    simp only [Act.put, List.setIfInBounds_toArray, List.set_cons_zero, List.set_cons_succ]
    refine hK _ ?_; clear hK K
    refine wpMix_skip (by kernel_rfl) (fun K hK => ?_)
    simp only [Act.put, List.setIfInBounds_toArray, List.set_cons_zero, List.set_cons_succ]
    refine hK _ ?_; clear hK K
    refine wpMix_pure (by kernel_rfl) (fun K hK => ?_); go_big_quiet_op; refine hK _ ?_; clear hK K
    refine wpMix_pure (by kernel_rfl) (fun K hK => ?_); go_big_quiet_op; refine hK _ ?_; clear hK K
    refine wpMix_nil ?_
    go_wp2
    go_ret
    exact ⟨ret_bool (by simp [incB, *]), hS0⟩
  · skip
    refine wpMix_pure (by kernel_rfl) (fun K hK => ?_); go_big_quiet_op; refine hK _ ?_; clear hK K
    refine wpMix_pure (by kernel_rfl) (fun K hK => ?_); go_big_quiet_op; refine hK _ ?_; clear hK K
    refine wpMix_pure (by kernel_rfl) (fun K hK => ?_); go_big_quiet_op; refine hK _ ?_; clear hK K
    refine wpMix_pure (by kernel_rfl) (fun K hK => ?_); go_big_quiet_op; refine hK _ ?_; clear hK K
    refine wpMix_pure (by kernel_rfl) (fun K hK => ?_); go_big_quiet_op; refine hK _ ?_; clear hK K
    refine wpMix_act (by kernel_rfl) (fun K hK => ?_)
    go_big_op
    refine (l01Name_any _ _ k1').mono ?_
    rintro e w' ⟨rfl, rfl⟩
    refine hK _ _ (regrown_of_below hS0) ?_
    clear hK K
    cases hq10 : nameB x.place
    · skip
      refine wpMix_pure (by kernel_rfl) (fun K hK => ?_); go_big_quiet_op; refine hK _ ?_; clear hK K
      refine wpMix_pure (by kernel_rfl) (fun K hK => ?_); go_big_quiet_op; refine hK _ ?_; clear hK K
      refine wpMix_skip (by kernel_rfl) (fun K hK => ?_)
      simp only [Act.put, List.setIfInBounds_toArray, List.set_cons_zero, List.set_cons_succ]
      refine hK _ ?_; clear hK K
      refine wpMix_skip (by kernel_rfl) (fun K hK => ?_)
      simp only [Act.put, List.setIfInBounds_toArray, List.set_cons_zero, List.set_cons_succ]
      refine hK _ ?_; clear hK K
      refine wpMix_skip (by kernel_rfl) (fun K hK => ?_)
      simp only [Act.put, List.setIfInBounds_toArray, List.set_cons_zero, List.set_cons_succ]
      refine hK _ ?_; clear hK K
      refine wpMix_skip (by kernel_rfl) (fun K hK => ?_)
      simp only [Act.put, List.setIfInBounds_toArray, List.set_cons_zero, List.set_cons_succ]
      refine hK _ ?_; clear hK K
      refine wpMix_skip (by kernel_rfl) (fun K hK => ?_)
      simp only [Act.put, List.setIfInBounds_toArray, List.set_cons_zero, List.set_cons_succ]
      refine hK _ ?_; clear hK K
      refine wpMix_pure (by kernel_rfl) (fun K hK => ?_); go_big_quiet_op; refine hK _ ?_; clear hK K
      refine wpMix_pure (by kernel_rfl) (fun K hK => ?_); go_big_quiet_op; refine hK _ ?_; clear hK K
      refine wpMix_skip (by kernel_rfl) (fun K hK => ?_)
      simp only [Act.put, List.setIfInBounds_toArray, List.set_cons_zero, List.set_cons_succ]
      refine hK _ ?_; clear hK K
      refine wpMix_skip (by kernel_rfl) (fun K hK => ?_)
      simp only [Act.put, List.setIfInBounds_toArray, List.set_cons_zero, List.set_cons_succ]
      refine hK _ ?_; clear hK K
      refine wpMix_skip (by kernel_rfl) (fun K hK => ?_)
      simp only [Act.put, List.setIfInBounds_toArray, List.set_cons_zero, List.set_cons_succ]
      refine hK _ ?_; clear hK K
      refine wpMix_skip (by kernel_rfl) (fun K hK => ?_)
      simp only [Act.put, List.setIfInBounds_toArray, List.set_cons_zero, List.set_cons_succ]
      refine hK _ ?_; clear hK K
      refine wpMix_skip (by kernel_rfl) (fun K hK => ?_)
      simp only [Act.put, List.setIfInBounds_toArray, List.set_cons_zero, List.set_cons_succ]
      refine hK _ ?_; clear hK K
      refine wpMix_pure (by kernel_rfl) (fun K hK => ?_); go_big_quiet_op; refine hK _ ?_; clear hK K
      refine wpMix_pure (by kernel_rfl) (fun K hK => ?_); go_big_quiet_op; refine hK _ ?_; clear hK K
      refine wpMix_skip (by kernel_rfl) (fun K hK => ?_)
      simp only [Act.put, List.setIfInBounds_toArray, List.set_cons_zero, List.set_cons_succ]
      refine hK _ ?_; clear hK K
      refine wpMix_skip (by kernel_rfl) (fun K hK => ?_)
      simp only [Act.put, List.setIfInBounds_toArray, List.set_cons_zero, List.set_cons_succ]
      refine hK _ ?_; clear hK K
      refine wpMix_skip (by kernel_rfl) (fun K hK => ?_)
      simp only [Act.put, List.setIfInBounds_toArray, List.set_cons_zero, List.set_cons_succ]
      refine hK _ ?_; clear hK K
      refine wpMix_skip (by kernel_rfl) (fun K hK => ?_)
      simp only [Act.put, List.setIfInBounds_toArray, List.set_cons_zero, List.set_cons_succ]
      refine hK _ ?_; clear hK K
      refine wpMix_skip (by kernel_rfl) (fun K hK => ?_)
      simp only [Act.put, List.setIfInBounds_toArray, List.set_cons_zero, List.set_cons_succ]
      refine hK _ ?_; clear hK K
      refine wpMix_pure (by kernel_rfl) (fun K hK => ?_); go_big_quiet_op; refine hK _ ?_; clear hK K
      refine wpMix_pure (by kernel_rfl) (fun K hK => ?_); go_big_quiet_op; refine hK _ ?_; clear hK K
      refine wpMix_skip (by kernel_rfl) (fun K hK => ?_)
      simp only [Act.put, List.setIfInBounds_toArray, List.set_cons_zero, List.set_cons_succ]
      refine hK _ ?_; clear hK K
      refine wpMix_skip (by kernel_rfl) (fun K hK => ?_)
      simp only [Act.put, List.setIfInBounds_toArray, List.set_cons_zero, List.set_cons_succ]
      refine hK _ ?_; clear hK K
      refine wpMix_skip (by kernel_rfl) (fun K hK => ?_)
      simp only [Act.put, List.setIfInBounds_toArray, List.set_cons_zero, List.set_cons_succ]
      refine hK _ ?_; clear hK K
      refine wpMix_skip (by kernel_rfl) (fun K hK => ?_)
      simp only [Act.put, List.setIfInBounds_toArray, List.set_cons_zero, List.set_cons_succ]
      refine hK _ ?_; clear hK K
      refine wpMix_skip (by kernel_rfl) (fun K hK => ?_)
      simp only [Act.put, List.setIfInBounds_toArray, List.set_cons_zero, List.set_cons_succ]
      refine hK _ ?_; clear hK K
      refine wpMix_skip (by kernel_rfl) (fun K hK => ?_)
      simp only [Act.put, List.setIfInBounds_toArray, List.set_cons_zero, List.set_cons_succ]
      refine hK _ ?_; clear hK K
      refine wpMix_skip (by kernel_rfl) (fun K hK => ?_)
      simp only [Act.put, List.setIfInBounds_toArray, List.set_cons_zero, List.set_cons_succ]
      refine hK _ ?_; clear hK K
      refine wpMix_skip (by kernel_rfl) (fun K hK => ?_)
      simp only [Act.put, List.setIfInBounds_toArray, List.set_cons_zero, List.set_cons_succ]
      refine hK _ ?_; clear hK K
      refine wpMix_skip (by kernel_rfl) (fun K hK => ?_)
      simp only [Act.put, List.setIfInBounds_toArray, List.set_cons_zero, List.set_cons_succ]
      refine hK _ ?_; clear hK K
      refine wpMix_pure (by kernel_rfl) (fun K hK => ?_); go_big_quiet_op; refine hK _ ?_; clear hK K
      refine wpMix_pure (by kernel_rfl) (fun K hK => ?_); go_big_quiet_op; refine hK _ ?_; clear hK K
      refine wpMix_nil ?_
      go_wp2
      go_ret
      exact ⟨ret_bool (by simp [incB, *]), hS0⟩
    · skip
      refine wpMix_pure (by kernel_rfl) (fun K hK => ?_); go_big_quiet_op; refine hK _ ?_; clear hK K
      refine wpMix_pure (by kernel_rfl) (fun K hK => ?_); go_big_quiet_op; refine hK _ ?_; clear hK K
      refine wpMix_pure (by kernel_rfl) (fun K hK => ?_); go_big_quiet_op; refine hK _ ?_; clear hK K
      refine wpMix_pure (by kernel_rfl) (fun K hK => ?_); go_big_quiet_op; refine hK _ ?_; clear hK K
      refine wpMix_pure (by kernel_rfl) (fun K hK => ?_); go_big_quiet_op; refine hK _ ?_; clear hK K
      refine wpMix_pure (by kernel_rfl) (fun K hK => ?_); go_big_quiet_op; refine hK _ ?_; clear hK K
      refine wpMix_act (by kernel_rfl) (fun K hK => ?_)
      go_big_op
      refine (l01Name_any _ _ k2').mono ?_
      rintro e w' ⟨rfl, rfl⟩
      refine hK _ _ (regrown_of_below hS0) ?_
      clear hK K
      cases hq17 : nameB x.cause
      · skip
        refine wpMix_pure (by kernel_rfl) (fun K hK => ?_); go_big_quiet_op; refine hK _ ?_; clear hK K
        refine wpMix_pure (by kernel_rfl) (fun K hK => ?_); go_big_quiet_op; refine hK _ ?_; clear hK K
        refine wpMix_skip (by kernel_rfl) (fun K hK => ?_)
        simp only [Act.put, List.setIfInBounds_toArray, List.set_cons_zero, List.set_cons_succ]
        refine hK _ ?_; clear hK K
        refine wpMix_skip (by kernel_rfl) (fun K hK => ?_)
        simp only [Act.put, List.setIfInBounds_toArray, List.set_cons_zero, List.set_cons_succ]
        refine hK _ ?_; clear hK K
        refine wpMix_skip (by kernel_rfl) (fun K hK => ?_)
        simp only [Act.put, List.setIfInBounds_toArray, List.set_cons_zero, List.set_cons_succ]
        refine hK _ ?_; clear hK K
        refine wpMix_skip (by kernel_rfl) (fun K hK => ?_)
        simp only [Act.put, List.setIfInBounds_toArray, List.set_cons_zero, List.set_cons_succ]
        refine hK _ ?_; clear hK K
        refine wpMix_skip (by kernel_rfl) (fun K hK => ?_)
        simp only [Act.put, List.setIfInBounds_toArray, List.set_cons_zero, List.set_cons_succ]
        refine hK _ ?_; clear hK K
        refine wpMix_pure (by kernel_rfl) (fun K hK => ?_); go_big_quiet_op; refine hK _ ?_; clear hK K
        refine wpMix_pure (by kernel_rfl) (fun K hK => ?_); go_big_quiet_op; refine hK _ ?_; clear hK K
        refine wpMix_skip (by kernel_rfl) (fun K hK => ?_)
        simp only [Act.put, List.setIfInBounds_toArray, List.set_cons_zero, List.set_cons_succ]
        refine hK _ ?_; clear hK K
        refine wpMix_skip (by kernel_rfl) (fun K hK => ?_)
        simp only [Act.put, List.setIfInBounds_toArray, List.set_cons_zero, List.set_cons_succ]
        refine hK _ ?_; clear hK K
        refine wpMix_skip (by kernel_rfl) (fun K hK => ?_)
        simp only [Act.put, List.setIfInBounds_toArray, List.set_cons_zero, List.set_cons_succ]
        refine hK _ ?_; clear hK K
        refine wpMix_skip (by kernel_rfl) (fun K hK => ?_)
        simp only [Act.put, List.setIfInBounds_toArray, List.set_cons_zero, List.set_cons_succ]
        refine hK _ ?_; clear hK K
        refine wpMix_skip (by kernel_rfl) (fun K hK => ?_)
        simp only [Act.put, List.setIfInBounds_toArray, List.set_cons_zero, List.set_cons_succ]
        refine hK _ ?_; clear hK K
        refine wpMix_pure (by kernel_rfl) (fun K hK => ?_); go_big_quiet_op; refine hK _ ?_; clear hK K
        refine wpMix_pure (by kernel_rfl) (fun K hK => ?_); go_big_quiet_op; refine hK _ ?_; clear hK K
        refine wpMix_skip (by kernel_rfl) (fun K hK => ?_)
        simp only [Act.put, List.setIfInBounds_toArray, List.set_cons_zero, List.set_cons_succ]
        refine hK _ ?_; clear hK K
        refine wpMix_skip (by kernel_rfl) (fun K hK => ?_)
        simp only [Act.put, List.setIfInBounds_toArray, List.set_cons_zero, List.set_cons_succ]
        refine hK _ ?_; clear hK K
        refine wpMix_skip (by kernel_rfl) (fun K hK => ?_)
        simp only [Act.put, List.setIfInBounds_toArray, List.set_cons_zero, List.set_cons_succ]
        refine hK _ ?_; clear hK K
        refine wpMix_skip (by kernel_rfl) (fun K hK => ?_)
        simp only [Act.put, List.setIfInBounds_toArray, List.set_cons_zero, List.set_cons_succ]
        refine hK _ ?_; clear hK K
        refine wpMix_skip (by kernel_rfl) (fun K hK => ?_)
        simp only [Act.put, List.setIfInBounds_toArray, List.set_cons_zero, List.set_cons_succ]
        refine hK _ ?_; clear hK K
        refine wpMix_skip (by kernel_rfl) (fun K hK => ?_)
        simp only [Act.put, List.setIfInBounds_toArray, List.set_cons_zero, List.set_cons_succ]
        refine hK _ ?_; clear hK K
        refine wpMix_skip (by kernel_rfl) (fun K hK => ?_)
        simp only [Act.put, List.setIfInBounds_toArray, List.set_cons_zero, List.set_cons_succ]
        refine hK _ ?_; clear hK K
        refine wpMix_skip (by kernel_rfl) (fun K hK => ?_)
        simp only [Act.put, List.setIfInBounds_toArray, List.set_cons_zero, List.set_cons_succ]
        refine hK _ ?_; clear hK K
        refine wpMix_skip (by kernel_rfl) (fun K hK => ?_)
        simp only [Act.put, List.setIfInBounds_toArray, List.set_cons_zero, List.set_cons_succ]
        refine hK _ ?_; clear hK K
        refine wpMix_pure (by kernel_rfl) (fun K hK => ?_); go_big_quiet_op; refine hK _ ?_; clear hK K
        refine wpMix_pure (by kernel_rfl) (fun K hK => ?_); go_big_quiet_op; refine hK _ ?_; clear hK K
        refine wpMix_nil ?_
        go_wp2
        go_ret
        exact ⟨ret_bool (by simp [incB, *]), hS0⟩
      · skip
        refine wpMix_pure (by kernel_rfl) (fun K hK => ?_); go_big_quiet_op; refine hK _ ?_; clear hK K
        refine wpMix_pure (by kernel_rfl) (fun K hK => ?_); go_big_quiet_op; refine hK _ ?_; clear hK K
        refine wpMix_pure (by kernel_rfl) (fun K hK => ?_); go_big_quiet_op; refine hK _ ?_; clear hK K
        refine wpMix_pure (by kernel_rfl) (fun K hK => ?_); go_big_quiet_op; refine hK _ ?_; clear hK K
        refine wpMix_pure (by kernel_rfl) (fun K hK => ?_); go_big_quiet_op; refine hK _ ?_; clear hK K
        refine wpMix_pure (by kernel_rfl) (fun K hK => ?_); go_big_quiet_op; refine hK _ ?_; clear hK K
        refine wpMix_act (by kernel_rfl) (fun K hK => ?_)
        go_big_op
        refine (l17IsV_any _ _).mono ?_
        rintro e w' ⟨rfl, rfl⟩
        refine hK _ _ (regrown_of_below hS0) ?_
        clear hK K
        cases hq24 : inB x.level 1 5
        · skip
          refine wpMix_pure (by kernel_rfl) (fun K hK => ?_); go_big_quiet_op; refine hK _ ?_; clear hK K
          refine wpMix_pure (by kernel_rfl) (fun K hK => ?_); go_big_quiet_op; refine hK _ ?_; clear hK K
          refine wpMix_skip (by kernel_rfl) (fun K hK => ?_)
          simp only [Act.put, List.setIfInBounds_toArray, List.set_cons_zero, List.set_cons_succ]
          refine hK _ ?_; clear hK K
          refine wpMix_skip (by kernel_rfl) (fun K hK => ?_)
          simp only [Act.put, List.setIfInBounds_toArray, List.set_cons_zero, List.set_cons_succ]
          refine hK _ ?_; clear hK K
          refine wpMix_skip (by kernel_rfl) (fun K hK => ?_)
          simp only [Act.put, List.setIfInBounds_toArray, List.set_cons_zero, List.set_cons_succ]
          refine hK _ ?_; clear hK K
          refine wpMix_skip (by kernel_rfl) (fun K hK => ?_)
          simp only [Act.put, List.setIfInBounds_toArray, List.set_cons_zero, List.set_cons_succ]
          refine hK _ ?_; clear hK K
          refine wpMix_skip (by kernel_rfl) (fun K hK => ?_)
          simp only [Act.put, List.setIfInBounds_toArray, List.set_cons_zero, List.set_cons_succ]
          refine hK _ ?_; clear hK K
          refine wpMix_pure (by kernel_rfl) (fun K hK => ?_); go_big_quiet_op; refine hK _ ?_; clear hK K
          refine wpMix_pure (by kernel_rfl) (fun K hK => ?_); go_big_quiet_op; refine hK _ ?_; clear hK K
          refine wpMix_skip (by kernel_rfl) (fun K hK => ?_)
          simp only [Act.put, List.setIfInBounds_toArray, List.set_cons_zero, List.set_cons_succ]
          refine hK _ ?_; clear hK K
          refine wpMix_skip (by kernel_rfl) (fun K hK => ?_)
          simp only [Act.put, List.setIfInBounds_toArray, List.set_cons_zero, List.set_cons_succ]
          refine hK _ ?_; clear hK K
          refine wpMix_skip (by kernel_rfl) (fun K hK => ?_)
          simp only [Act.put, List.setIfInBounds_toArray, List.set_cons_zero, List.set_cons_succ]
          refine hK _ ?_; clear hK K
          refine wpMix_skip (by kernel_rfl) (fun K hK => ?_)
          simp only [Act.put, List.setIfInBounds_toArray, List.set_cons_zero, List.set_cons_succ]
          refine hK _ ?_; clear hK K
          refine wpMix_skip (by kernel_rfl) (fun K hK => ?_)
          simp only [Act.put, List.setIfInBounds_toArray, List.set_cons_zero, List.set_cons_succ]
          refine hK _ ?_; clear hK K
          refine wpMix_skip (by kernel_rfl) (fun K hK => ?_)
          simp only [Act.put, List.setIfInBounds_toArray, List.set_cons_zero, List.set_cons_succ]
          refine hK _ ?_; clear hK K
          refine wpMix_skip (by kernel_rfl) (fun K hK => ?_)
          simp only [Act.put, List.setIfInBounds_toArray, List.set_cons_zero, List.set_cons_succ]
          refine hK _ ?_; clear hK K
          refine wpMix_skip (by kernel_rfl) (fun K hK => ?_)
          simp only [Act.put, List.setIfInBounds_toArray, List.set_cons_zero, List.set_cons_succ]
          refine hK _ ?_; clear hK K
          refine wpMix_skip (by kernel_rfl) (fun K hK => ?_)
          simp only [Act.put, List.setIfInBounds_toArray, List.set_cons_zero, List.set_cons_succ]
          refine hK _ ?_; clear hK K
          refine wpMix_pure (by kernel_rfl) (fun K hK => ?_); go_big_quiet_op; refine hK _ ?_; clear hK K
          refine wpMix_pure (by kernel_rfl) (fun K hK => ?_); go_big_quiet_op; refine hK _ ?_; clear hK K
          refine wpMix_nil ?_
          go_wp2
          go_ret
          exact ⟨ret_bool (by simp [incB, *]), hS0⟩
        · skip
          refine wpMix_pure (by kernel_rfl) (fun K hK => ?_); go_big_quiet_op; refine hK _ ?_; clear hK K
          refine wpMix_pure (by kernel_rfl) (fun K hK => ?_); go_big_quiet_op; refine hK _ ?_; clear hK K
          refine wpMix_pure (by kernel_rfl) (fun K hK => ?_); go_big_quiet_op; refine hK _ ?_; clear hK K
          refine wpMix_pure (by kernel_rfl) (fun K hK => ?_); go_big_quiet_op; refine hK _ ?_; clear hK K
          refine wpMix_pure (by kernel_rfl) (fun K hK => ?_); go_big_quiet_op; refine hK _ ?_; clear hK K
          refine wpMix_pure (by kernel_rfl) (fun K hK => ?_); go_big_quiet_op; refine hK _ ?_; clear hK K
          refine wpMix_act (by kernel_rfl) (fun K hK => ?_)
          go_big_op
          refine (l00InB_any _ _ _ _).mono ?_
          rintro e w' ⟨rfl, rfl⟩
          refine hK _ _ (regrown_of_below hS0) ?_
          clear hK K
          cases hq31 : inB x.caught 0 20
          · skip
            refine wpMix_pure (by kernel_rfl) (fun K hK => ?_); go_big_quiet_op; refine hK _ ?_; clear hK K
            refine wpMix_pure (by kernel_rfl) (fun K hK => ?_); go_big_quiet_op; refine hK _ ?_; clear hK K
            refine wpMix_skip (by kernel_rfl) (fun K hK => ?_)
            simp only [Act.put, List.setIfInBounds_toArray, List.set_cons_zero, List.set_cons_succ]
            refine hK _ ?_; clear hK K
            refine wpMix_skip (by kernel_rfl) (fun K hK => ?_)
            simp only [Act.put, List.setIfInBounds_toArray, List.set_cons_zero, List.set_cons_succ]
            refine hK _ ?_; clear hK K
            refine wpMix_skip (by kernel_rfl) (fun K hK => ?_)
            simp only [Act.put, List.setIfInBounds_toArray, List.set_cons_zero, List.set_cons_succ]
            refine hK _ ?_; clear hK K
            refine wpMix_skip (by kernel_rfl) (fun K hK => ?_)
            simp only [Act.put, List.setIfInBounds_toArray, List.set_cons_zero, List.set_cons_succ]
            refine hK _ ?_; clear hK K
            refine wpMix_skip (by kernel_rfl) (fun K hK => ?_)
            simp only [Act.put, List.setIfInBounds_toArray, List.set_cons_zero, List.set_cons_succ]
            refine hK _ ?_; clear hK K
            refine wpMix_skip (by kernel_rfl) (fun K hK => ?_)
            simp only [Act.put, List.setIfInBounds_toArray, List.set_cons_zero, List.set_cons_succ]
            refine hK _ ?_; clear hK K
            refine wpMix_skip (by kernel_rfl) (fun K hK => ?_)
            simp only [Act.put, List.setIfInBounds_toArray, List.set_cons_zero, List.set_cons_succ]
            refine hK _ ?_; clear hK K
            refine wpMix_skip (by kernel_rfl) (fun K hK => ?_)
            simp only [Act.put, List.setIfInBounds_toArray, List.set_cons_zero, List.set_cons_succ]
            refine hK _ ?_; clear hK K
            refine wpMix_skip (by kernel_rfl) (fun K hK => ?_)
            simp only [Act.put, List.setIfInBounds_toArray, List.set_cons_zero, List.set_cons_succ]
            refine hK _ ?_; clear hK K
            refine wpMix_pure (by kernel_rfl) (fun K hK => ?_); go_big_quiet_op; refine hK _ ?_; clear hK K
            refine wpMix_pure (by kernel_rfl) (fun K hK => ?_); go_big_quiet_op; refine hK _ ?_; clear hK K
            refine wpMix_nil ?_
            go_wp2
            go_ret
            exact ⟨ret_bool (by simp [incB, *]), hS0⟩
          · skip
            refine wpMix_pure (by kernel_rfl) (fun K hK => ?_); go_big_quiet_op; refine hK _ ?_; clear hK K
            refine wpMix_pure (by kernel_rfl) (fun K hK => ?_); go_big_quiet_op; refine hK _ ?_; clear hK K
            refine wpMix_pure (by kernel_rfl) (fun K hK => ?_); go_big_quiet_op; refine hK _ ?_; clear hK K
            refine wpMix_pure (by kernel_rfl) (fun K hK => ?_); go_big_quiet_op; refine hK _ ?_; clear hK K
            refine wpMix_pure (by kernel_rfl) (fun K hK => ?_); go_big_quiet_op; refine hK _ ?_; clear hK K
            refine wpMix_pure (by kernel_rfl) (fun K hK => ?_); go_big_quiet_op; refine hK _ ?_; clear hK K
            refine wpMix_pure (by kernel_rfl) (fun K hK => ?_); go_big_quiet_op; refine hK _ ?_; clear hK K
            refine wpMix_pure (by kernel_rfl) (fun K hK => ?_); go_big_quiet_op; refine hK _ ?_; clear hK K
            refine wpMix_pure (by kernel_rfl) (fun K hK => ?_); go_big_quiet_op; refine hK _ ?_; clear hK K
            refine wpMix_pure (by kernel_rfl) (fun K hK => ?_); go_big_quiet_op; refine hK _ ?_; clear hK K
            refine wpMix_act (by kernel_rfl) (fun K hK => ?_)
            go_big_op
            refine (l00InB_any _ _ _ _).mono ?_
            rintro e w' ⟨rfl, rfl⟩
            refine hK _ _ (regrown_of_below hS0) ?_
            clear hK K
            cases hq42 : inB x.buried 0 x.caught
            · skip
              refine wpMix_pure (by kernel_rfl) (fun K hK => ?_); go_big_quiet_op; refine hK _ ?_; clear hK K
              refine wpMix_pure (by kernel_rfl) (fun K hK => ?_); go_big_quiet_op; refine hK _ ?_; clear hK K
              refine wpMix_nil ?_
              go_wp2
              go_ret
              exact ⟨ret_bool (by simp [incB, *]), hS0⟩
            · skip
              refine wpMix_pure (by kernel_rfl) (fun K hK => ?_); go_big_quiet_op; refine hK _ ?_; clear hK K
              refine wpMix_pure (by kernel_rfl) (fun K hK => ?_); go_big_quiet_op; refine hK _ ?_; clear hK K
              refine wpMix_nil ?_
              go_wp2
              go_ret
              exact ⟨ret_bool (by simp [incB, *]), hS0⟩
set_option maxRecDepth 100000 in
set_option maxHeartbeats 4000000 in
theorem incValid_any (x : DIncident) (w : World) (hok : fIncident.ok x) :
    Calls Tryz.prog 80 #[.agg #[.int .i64 x.day, .string x.place, .string x.cause, .int .i64 x.level, .int .i64 x.caught, .int .i64 x.buried]] w fun e w' => e = .returned (.bool (incB x)) ∧ Below w.heap.size w w' := by
  obtain ⟨_, k1, k2, _⟩ := id hok
  have k1' : x.place.size ≤ 9223372036854775807 := k1
  have k2' : x.cause.size ≤ 9223372036854775807 := k2
  clear k1 k2 hok
  have HV := Lib.hid (incV x)
  go_enter Tryz.func80, Tryz.ntmps80
  go_wp2_with fail
  refine (dayValid_any _ _).mono ?_
  rintro e w' ⟨rfl, rfl⟩
  cases hq0 : inB x.day 0 36524
  · have HX : Hid (incB x = false) := by show _ = _; rw [HV.out, hq0]; rfl
    go_wp2
    go_ret
    exact ⟨ret_bool HX.out.symm, (Below.refl _ _).alloc (Nat.le_refl _) _⟩
  · have HX : Hid (incB x = (nameB x.place && (nameB x.cause && (inB x.level 1 5 && (inB x.caught 0 20 && (inB x.buried 0 x.caught)))))) := by show _ = _; rw [HV.out, hq0]; rfl
    go_wp2_with fail
    refine (implIsName_any _ _ k1').mono ?_
    rintro e w' ⟨rfl, rfl⟩
    cases hq1 : nameB x.place
    · have HX : Hid (incB x = false) := by show _ = _; rw [HV.out, hq0, hq1]; rfl
      go_wp2
      go_ret
      exact ⟨ret_bool HX.out.symm, (Below.refl _ _).alloc (Nat.le_refl _) _⟩
    · have HX : Hid (incB x = (nameB x.cause && (inB x.level 1 5 && (inB x.caught 0 20 && (inB x.buried 0 x.caught))))) := by show _ = _; rw [HV.out, hq0, hq1]; rfl
      go_wp2_with fail
      refine (implIsName_any _ _ k2').mono ?_
      rintro e w' ⟨rfl, rfl⟩
      cases hq2 : nameB x.cause
      · have HX : Hid (incB x = false) := by show _ = _; rw [HV.out, hq0, hq1, hq2]; rfl
        go_wp2
        go_ret
        exact ⟨ret_bool HX.out.symm, (Below.refl _ _).alloc (Nat.le_refl _) _⟩
      · have HX : Hid (incB x = (inB x.level 1 5 && (inB x.caught 0 20 && (inB x.buried 0 x.caught)))) := by show _ = _; rw [HV.out, hq0, hq1, hq2]; rfl
        go_wp2_with fail
        refine (levelOkV_any _ _).mono ?_
        rintro e w' ⟨rfl, rfl⟩
        cases hq3 : inB x.level 1 5
        · have HX : Hid (incB x = false) := by show _ = _; rw [HV.out, hq0, hq1, hq2, hq3]; rfl
          go_wp2
          go_ret
          exact ⟨ret_bool HX.out.symm, (Below.refl _ _).alloc (Nat.le_refl _) _⟩
        · have HX : Hid (incB x = (inB x.caught 0 20 && (inB x.buried 0 x.caught))) := by show _ = _; rw [HV.out, hq0, hq1, hq2, hq3]; rfl
          go_wp2_with fail
          refine (withinB_any _ _ _ _).mono ?_
          rintro e w' ⟨rfl, rfl⟩
          cases hq4 : inB x.caught 0 20
          · have HX : Hid (incB x = false) := by show _ = _; rw [HV.out, hq0, hq1, hq2, hq3, hq4]; rfl
            go_wp2
            go_ret
            exact ⟨ret_bool HX.out.symm, (Below.refl _ _).alloc (Nat.le_refl _) _⟩
          · have HX : Hid (incB x = (inB x.buried 0 x.caught)) := by show _ = _; rw [HV.out, hq0, hq1, hq2, hq3, hq4]; rfl
            go_wp2_with fail
            refine (withinB_any _ _ _ _).mono ?_
            rintro e w' ⟨rfl, rfl⟩
            rw [← HX.out]
            go_wp2
            go_ret
            exact ⟨rfl, (Below.refl _ _).alloc (Nat.le_refl _) _⟩
end Go.Proofs.YtgnbhcgagdfaiaaGreatDoor

namespace Go.Proofs.YtgnbhcgagdfaiaaGreatDoor
open Go.RowKit
set_option linter.unusedVariables false

def cmT (a b : ByteArray) : Int := if ltS a b then -1 else if ltS b a then 1 else 0
theorem cmT_zero {a b : ByteArray} : cmT a b = 0 ↔ a = b := by
  unfold cmT
  constructor
  · intro h
    cases h1 : ltS a b with
    | true => rw [h1] at h; simp at h
    | false =>
      cases h2 : ltS b a with
      | true => rw [h1, h2] at h; simp at h
      | false => exact ltS_tri h1 h2
  · rintro rfl; simp [ltS_irrefl]
theorem cmT_lt {a b : ByteArray} : cmT a b < 0 ↔ ltS a b = true := by
  unfold cmT
  cases h1 : ltS a b with
  | true => simp
  | false => cases h2 : ltS b a <;> simp
theorem cmT_bounds (a b : ByteArray) : -1 ≤ cmT a b ∧ cmT a b ≤ 1 := by
  unfold cmT
  cases ltS a b <;> cases ltS b a <;> simp
def cmI (a b : Int) : Int := if a < b then -1 else if b < a then 1 else 0
theorem cmI_zero {a b : Int} : cmI a b = 0 ↔ a = b := by
  unfold cmI
  split
  · constructor
    · intro h; cases h
    · intro h; omega
  · split
    · constructor
      · intro h; cases h
      · intro h; omega
    · constructor
      · intro _; omega
      · intro _; rfl
theorem cmI_lt {a b : Int} : cmI a b < 0 ↔ a < b := by
  unfold cmI
  split
  · rename_i h; simp [h]
  · rename_i h
    split <;> simp <;> omega
theorem cmI_bounds (a b : Int) : -1 ≤ cmI a b ∧ cmI a b ≤ 1 := by
  unfold cmI
  (repeat' split) <;> simp
set_option maxRecDepth 100000 in
set_option maxHeartbeats 400000 in
theorem isNaNT_any (a : ByteArray) (w : World) : Calls Tryz.prog 157 #[.string a] w fun e w' => e = .returned (.bool false) ∧ w = w' := by
  have e1 : (a.toList == a.toList) = true := by simp
  go_enter Tryz.func157, Tryz.ntmps157
  go_wp2
  go_ret
  exact ⟨rfl, rfl⟩
set_option maxRecDepth 100000 in
set_option maxHeartbeats 1000000 in
theorem compareT_any (a b : ByteArray) (w : World) : Calls Tryz.prog 123 #[.string a, .string b] w fun e w' => e = .returned (.int .i64 (cmT a b)) ∧ w = w' := by
  cases h1 : ltS a b
  · have e1 : Op.bytesLess a.toList b.toList = false := h1
    cases h2 : ltS b a
    · have e2 : (Op.bytesLess a.toList b.toList || a.toList == b.toList) = true := by rw [leS_eq, h2]; rfl
      have e3 : (a.toList == b.toList) = true := eqS_true.2 (ltS_tri h1 h2)
      go_enter Tryz.func123, Tryz.ntmps123
      go_wp2_with (go_at_call 157; refine (isNaNT_any _ _).mono ?_; rintro e w' ⟨rfl, rfl⟩)
      go_ret
      exact ⟨ret_int (by unfold cmT; rw [h1, h2]; rfl), rfl⟩
    · have e2 : (Op.bytesLess a.toList b.toList || a.toList == b.toList) = false := by rw [leS_eq, h2]; rfl
      have e3 : (a.toList == b.toList) = false := bytes_beq_false (fun e => by subst e; rw [ltS_irrefl] at h2; cases h2)
      go_enter Tryz.func123, Tryz.ntmps123
      go_wp2_with (go_at_call 157; refine (isNaNT_any _ _).mono ?_; rintro e w' ⟨rfl, rfl⟩)
      go_ret
      exact ⟨ret_int (by unfold cmT; rw [h1, h2]; rfl), rfl⟩
  · have e1 : Op.bytesLess a.toList b.toList = true := h1
    go_enter Tryz.func123, Tryz.ntmps123
    go_wp2_with (go_at_call 157; refine (isNaNT_any _ _).mono ?_; rintro e w' ⟨rfl, rfl⟩)
    go_ret
    exact ⟨ret_int (by unfold cmT; rw [h1]; rfl), rfl⟩
set_option maxRecDepth 100000 in
set_option maxHeartbeats 400000 in
theorem isNaNI_any (a : Int) (w : World) : Calls Tryz.prog 156 #[.int .i64 a] w fun e w' => e = .returned (.bool false) ∧ w = w' := by
  go_enter Tryz.func156, Tryz.ntmps156
  go_wp2
  go_ret
  exact ⟨rfl, rfl⟩
set_option maxRecDepth 100000 in
set_option maxHeartbeats 1000000 in
theorem compareI_any (a b : Int) (w : World) : Calls Tryz.prog 122 #[.int .i64 a, .int .i64 b] w fun e w' => e = .returned (.int .i64 (cmI a b)) ∧ w = w' := by
  by_cases h1 : a < b
  · go_enter Tryz.func122, Tryz.ntmps122
    go_wp2_with (go_at_call 156; refine (isNaNI_any _ _).mono ?_; rintro e w' ⟨rfl, rfl⟩)
    go_ret
    exact ⟨ret_int (by unfold cmI; rw [if_pos h1]), rfl⟩
  · by_cases h2 : b < a
    · go_enter Tryz.func122, Tryz.ntmps122
      go_wp2_with (go_at_call 156; refine (isNaNI_any _ _).mono ?_; rintro e w' ⟨rfl, rfl⟩)
      go_ret
      exact ⟨ret_int (by unfold cmI; rw [if_neg (Int.not_lt.2 h1), if_pos h2]), rfl⟩
    · go_enter Tryz.func122, Tryz.ntmps122
      go_wp2_with (go_at_call 156; refine (isNaNI_any _ _).mono ?_; rintro e w' ⟨rfl, rfl⟩)
      go_ret
      exact ⟨ret_int (by unfold cmI; rw [if_neg (Int.not_lt.2 h1), if_neg (Int.not_lt.2 h2)]), rfl⟩
def orI : List Int → Int
  | [] => 0
  | x :: xs => if x = 0 then orI xs else x
theorem orI_cons (x : Int) (xs : List Int) : orI (x :: xs) = if x = 0 then orI xs else x := rfl
theorem orI_two (a b : Int) : orI [a, b] = if a = 0 then b else a := by
  unfold orI; split
  · unfold orI orI; split <;> simp_all
  · rfl
set_option maxRecDepth 100000 in
set_option maxHeartbeats 1000000 in
theorem orJ_any (v : Value) (xs : List Int) (fp : List Nat) (w : World) (hx : Sl fInt.cod w v xs fp) :
    Calls Tryz.prog 121 #[v] w fun e w' => e = .returned (.int .i64 (orI xs)) ∧ w = w' := by
  obtain ⟨A, cap, rfl, hlen, hcap⟩ := hx.form
  go_enter Tryz.func121, Tryz.ntmps121
  go_wp2
  go_loop [8] (fun i => ∃ k : Nat, k ≤ xs.length ∧ i = .int .i64 k ∧ Hid (orI xs = orI (xs.drop k))) (fun i => xs.length - (intOf i).toNat)
  case atStart => exact ⟨0, Nat.zero_le _, rfl, rfl⟩
  case round =>
    obtain ⟨k, hk, rfl, H0⟩ := hrel
    by_cases hlt : k < xs.length
    · obtain ⟨b, off, rfl, _, hok, hc, _⟩ := hx.cell1 rfl hlt rfl
      have hd : xs.drop k = xs[k] :: xs.drop (k + 1) := List.drop_eq_getElem_cons hlt
      by_cases hz : xs[k] = 0
      · have HN : Hid (orI xs = orI (xs.drop (k + 1))) := by show _ = _; rw [H0.out, hd, orI_cons, if_pos hz]
        have e1 : (xs[k] == 0) = true := by simpa using hz
        have e2 : (xs[k] != 0) = false := by simpa using hz
        clear hd hz H0
        go_wp2
        go_round
        case rel => exact ⟨k + 1, by omega, by go_num, HN⟩
        case measure => simp [intOf]; omega
      · have HN : Hid (orI xs = xs[k]) := by show _ = _; rw [H0.out, hd, orI_cons, if_neg hz]
        have e1 : (xs[k] == 0) = false := by simpa using hz
        have e2 : (xs[k] != 0) = true := by simpa using hz
        clear hd hz H0
        go_wp2
        go_ret
        exact ⟨ret_int HN.out.symm, rfl⟩
    · have HN : Hid (orI xs = 0) := by show _ = _; rw [H0.out, List.drop_of_length_le (by omega)]; rfl
      clear H0
      go_wp2
      go_ret
      exact ⟨ret_int HN.out.symm, rfl⟩
theorem orI_three (a b c : Int) : orI [a, b, c] = if a = 0 then (if b = 0 then c else b) else a := by
  rw [orI_cons]
  split
  · exact orI_two b c
  · rfl
theorem cmT_ok (a b : ByteArray) : fInt.ok (cmT a b) := by
  have := cmT_bounds a b
  show _ ∧ _
  omega
theorem cmI_ok (a b : Int) : fInt.ok (cmI a b) := by
  have := cmI_bounds a b
  show _ ∧ _
  omega
end Go.Proofs.YtgnbhcgagdfaiaaGreatDoor

namespace Go.Proofs.YtgnbhcgagdfaiaaGreatDoor
open Go.RowKit
set_option linter.unusedVariables false

def befI (a b : DIncident) : Bool := if a.day = b.day then (if a.place = b.place then ltS a.cause b.cause else ltS a.place b.place) else decide (a.day < b.day)
def cmpInc (a b : DIncident) : Int := orI [cmI a.day b.day, cmT a.place b.place, cmT a.cause b.cause]
theorem cmpInc_lt (a b : DIncident) : decide (cmpInc a b < 0) = befI a b := by
  unfold cmpInc befI
  rw [orI_three]
  by_cases h : a.day = b.day
  · rw [if_pos (cmI_zero.2 h), if_pos h]
    by_cases h2 : a.place = b.place
    · rw [if_pos (cmT_zero.2 h2), if_pos h2]
      rw [Bool.eq_iff_iff]; simp [cmT_lt]
    · rw [if_neg (fun e => h2 (cmT_zero.1 e)), if_neg h2]
      rw [Bool.eq_iff_iff]; simp [cmT_lt]
  · rw [if_neg (fun e => h (cmI_zero.1 e)), if_neg h]
    rw [Bool.eq_iff_iff]; simp [cmI_lt]

def incOk (xs : List DIncident) (i : Nat) : Bool := incB (xs.getD i n00) && (decide (i = 0) || befI (xs.getD (i - 1) n00) (xs.getD i n00))
def incsB (xs : List DIncident) : Bool := allIdx (incOk xs) xs.length && decide (xs.length ≤ 48)
theorem incOk_zero {xs : List DIncident} (h : 0 < xs.length) : incOk xs 0 = incB xs[0] := by simp [incOk, h]
theorem incOk_succ {xs : List DIncident} {m : Nat} (h : m + 1 < xs.length) : incOk xs (m + 1) = (incB xs[m + 1] && befI xs[m] xs[m + 1]) := by
  have h1 : m < xs.length := by omega
  simp [incOk, h, h1]
theorem incsB_bad {xs : List DIncident} {k : Nat} (h : k < xs.length) (h1 : incOk xs k = false) : incsB xs = false := by
  unfold incsB; rw [allIdx_bad h h1]; rfl
theorem incsB_len {xs : List DIncident} (h : incsB xs = true) : xs.length ≤ 48 := by
  unfold incsB at h; simp at h; exact h.2
theorem incsB_one {xs : List DIncident} (h : incsB xs = true) {k : Nat} (hk : k < xs.length) : incB xs[k] = true := by
  unfold incsB at h
  rw [Bool.and_eq_true] at h
  have := allIdx_true.1 h.1 k hk
  unfold incOk at this
  rw [Bool.and_eq_true] at this
  simpa [hk] using this.1
theorem incsB_two {xs : List DIncident} (h : incsB xs = true) {m : Nat} (hm : m + 1 < xs.length) : befI xs[m] xs[m + 1] = true := by
  unfold incsB at h
  rw [Bool.and_eq_true] at h
  have := allIdx_true.1 h.1 (m + 1) hm
  rw [incOk_succ hm, Bool.and_eq_true] at this
  exact this.2

set_option maxRecDepth 100000 in
set_option maxHeartbeats 4000000 in
theorem l28Before_any (pa oa pb ob : Nat) (a b : DIncident) (w : World) (hpa : PIncident w pa oa a) (hpb : PIncident w pb ob b) :
    Calls Tryz.prog 119 #[.pointer (some ⟨pa, oa, none⟩), .pointer (some ⟨pb, ob, none⟩)] w fun e w' => e = .returned (.bool (befI a b)) ∧ Below w.heap.size w w' := by
  obtain ⟨c0, c1, c2, c3, c4, c5⟩ := id hpa
  obtain ⟨d0, d1, d2, d3, d4, d5⟩ := id hpb
  by_cases hd : a.day = b.day
  · have e1 : (a.day == b.day) = true := by rw [beq_iff_eq]; exact hd
    have e2 : (a.day != b.day) = false := by unfold bne; rw [e1]; rfl
    by_cases hp : a.place = b.place
    · have e3 : (a.place.toList == b.place.toList) = true := eqS_true.2 hp
      have e4 : (a.place.toList != b.place.toList) = false := by unfold bne; rw [e3]; rfl
      have HX : Hid (befI a b = Op.bytesLess a.cause.toList b.cause.toList) := by show _ = _; unfold befI; rw [if_pos hd, if_pos hp]; rfl
      clear hd hp
      go_enter Tryz.func119, Tryz.ntmps119
      go_wp2
      go_quiet (fail)
      go_wp2
      go_quiet (fail)
      go_wp2
      go_quiet (fail)
      go_wp2
      go_ret
      exact ⟨ret_bool HX.out.symm, (by repeat (first | exact Below.refl _ _ | assumption | refine Below.alloc ?_ (by first | omega | (simp <;> omega)) _ | refine Below.setCell ?_ (by first | (show _ ≤ _; omega) | (simp <;> omega)) _ | refine Below.drew ?_ | refine below_drewN ?_ _))⟩
    · have e3 : (a.place.toList == b.place.toList) = false := bytes_beq_false hp
      have e4 : (a.place.toList != b.place.toList) = true := by unfold bne; rw [e3]; rfl
      have HX : Hid (befI a b = Op.bytesLess a.place.toList b.place.toList) := by show _ = _; unfold befI; rw [if_pos hd, if_neg hp]; rfl
      clear hd hp
      go_enter Tryz.func119, Tryz.ntmps119
      go_wp2
      go_quiet (fail)
      go_wp2
      go_quiet (fail)
      go_wp2
      go_quiet (fail)
      go_wp2
      go_ret
      exact ⟨ret_bool HX.out.symm, (by repeat (first | exact Below.refl _ _ | assumption | refine Below.alloc ?_ (by first | omega | (simp <;> omega)) _ | refine Below.setCell ?_ (by first | (show _ ≤ _; omega) | (simp <;> omega)) _ | refine Below.drew ?_ | refine below_drewN ?_ _))⟩
  · have e1 : (a.day == b.day) = false := by rw [beq_eq_false_iff_ne]; exact hd
    have e2 : (a.day != b.day) = true := by unfold bne; rw [e1]; rfl
    have HX : Hid (befI a b = decide (a.day < b.day)) := by show _ = _; unfold befI; rw [if_neg hd]
    clear hd
    go_enter Tryz.func119, Tryz.ntmps119
    go_wp2
    go_quiet (fail)
    go_wp2
    go_quiet (fail)
    go_wp2
    go_ret
    exact ⟨ret_bool HX.out.symm, (by repeat (first | exact Below.refl _ _ | assumption | refine Below.alloc ?_ (by first | omega | (simp <;> omega)) _ | refine Below.setCell ?_ (by first | (show _ ≤ _; omega) | (simp <;> omega)) _ | refine Below.drew ?_ | refine below_drewN ?_ _))⟩
set_option maxRecDepth 100000 in
set_option maxHeartbeats 4000000 in
theorem compareIncidents_any (a b : DIncident) (w : World) :
    Calls Tryz.prog 81 #[.agg #[.int .i64 a.day, .string a.place, .string a.cause, .int .i64 a.level, .int .i64 a.caught, .int .i64 a.buried], .agg #[.int .i64 b.day, .string b.place, .string b.cause, .int .i64 b.level, .int .i64 b.caught, .int .i64 b.buried]] w fun e w' => e = .returned (.int .i64 (cmpInc a b)) ∧ Below w.heap.size w w' := by
  have hpa := PIncident.box w a 42
  have hpb := PIncident.box (w.alloc (.cells #[.int .i64 a.day, .string a.place, .string a.cause, .int .i64 a.level, .int .i64 a.caught, .int .i64 a.buried] 42)) b 42
  rw [World.size_alloc] at hpb
  have hpa2 := hpa.below' ((Below.refl _ _).alloc (Nat.le_refl _) (.cells #[.int .i64 b.day, .string b.place, .string b.cause, .int .i64 b.level, .int .i64 b.caught, .int .i64 b.buried] 42))
  go_enter Tryz.func81, Tryz.ntmps81
  go_wp2
  refine at_world (fun W => Below w.heap.size w W ∧ PIncident W w.heap.size 0 a ∧ PIncident W (w.heap.size + 1) 0 b) ⟨(by repeat (first | exact Below.refl _ _ | assumption | refine Below.alloc ?_ (by first | omega | (simp <;> omega)) _ | refine Below.setCell ?_ (by first | (show _ ≤ _; omega) | (simp <;> omega)) _ | refine Below.drew ?_ | refine below_drewN ?_ _)), hpa2, hpb⟩ ?_
  clear hpa hpb hpa2
  rintro W ⟨hW, ⟨c0, c1, c2, c3, c4, c5⟩, ⟨d0, d1, d2, d3, d4, d5⟩⟩
  have gc0 := cell_regrown c0
  have gc1 := cell_regrown c1
  have gc2 := cell_regrown c2
  have gd0 := cell_regrown d0
  have gd1 := cell_regrown d1
  have gd2 := cell_regrown d2
  refine wp_region_mixed [0, 1, 2, 3, 5, 6, 7, 8, 10, 11, 12, 13, 4, 9, 14, 15, 16, 17] (C := fun w' => ∃ p : Regrown, w' = Go.Sort.grow (redrawn W p.d) p.os) [true, true, true, true, true, true, true, true, true, true, true, true, false, false, false, false, false, true] (by kernel_rfl) (by kernel_rfl) (by kernel_rfl) (fun _ _ d _ _ h => by cases d <;> exact h) (regrown_of_below (Below.drew (Below.refl _ _))) ?_
  simp only [List.map_cons, List.map_nil, List.getD_cons_zero, List.getD_cons_succ]
  have hS0 : Below (W.heap.size) W W.drew := Below.drew (Below.refl _ _)
  refine wpMix_pure (by kernel_rfl) (fun K hK => ?_); go_big_quiet_op; refine hK _ ?_; clear hK K
  refine wpMix_pure (by kernel_rfl) (fun K hK => ?_); go_big_quiet_op; refine hK _ ?_; clear hK K
  refine wpMix_pure (by kernel_rfl) (fun K hK => ?_); go_big_quiet_op; refine hK _ ?_; clear hK K
  refine wpMix_pure (by kernel_rfl) (fun K hK => ?_); go_big_quiet_op; refine hK _ ?_; clear hK K
  refine wpMix_pure (by kernel_rfl) (fun K hK => ?_); go_big_quiet_op; refine hK _ ?_; clear hK K
  refine wpMix_pure (by kernel_rfl) (fun K hK => ?_); go_big_quiet_op; refine hK _ ?_; clear hK K
  refine wpMix_pure (by kernel_rfl) (fun K hK => ?_); go_big_quiet_op; refine hK _ ?_; clear hK K
  refine wpMix_pure (by kernel_rfl) (fun K hK => ?_); go_big_quiet_op; refine hK _ ?_; clear hK K
  refine wpMix_pure (by kernel_rfl) (fun K hK => ?_); go_big_quiet_op; refine hK _ ?_; clear hK K
  refine wpMix_pure (by kernel_rfl) (fun K hK => ?_); go_big_quiet_op; refine hK _ ?_; clear hK K
  refine wpMix_pure (by kernel_rfl) (fun K hK => ?_); go_big_quiet_op; refine hK _ ?_; clear hK K
  refine wpMix_pure (by kernel_rfl) (fun K hK => ?_); go_big_quiet_op; refine hK _ ?_; clear hK K
  refine wpMix_act (by kernel_rfl) (fun K hK => ?_)
  go_big_op
  refine (compareI_any _ _ _).mono ?_
  rintro e w' ⟨rfl, rfl⟩
  refine hK _ _ (regrown_of_below hS0) ?_
  clear hK K
  refine wpMix_act (by kernel_rfl) (fun K hK => ?_)
  go_big_op
  refine (compareT_any _ _ _).mono ?_
  rintro e w' ⟨rfl, rfl⟩
  refine hK _ _ (regrown_of_below hS0) ?_
  clear hK K
  refine wpMix_act (by kernel_rfl) (fun K hK => ?_)
  go_big_op
  refine (compareT_any _ _ _).mono ?_
  rintro e w' ⟨rfl, rfl⟩
  refine hK _ _ (regrown_of_below hS0) ?_
  clear hK K
  refine wpMix_act (by kernel_rfl) (fun K hK => ?_)
  go_big_op
  refine hK _ _ (regrown_of_below (hS0.alloc hS0.size _)) ?_
  clear hK K
  refine mix_world (fun N => Below (W.heap.size) W N ∧ Sl fInt.cod N (.slice (some ⟨W.drew.heap.size, 0, none⟩) 3 3) [cmI a.day b.day, cmT a.place b.place, cmT a.cause b.cause] [W.drew.heap.size]) ⟨hS0.alloc hS0.size _, Sl.lit2 (E := fInt) W.drew [cmI a.day b.day, cmT a.place b.place, cmT a.cause b.cause] _ _ rfl (by intro x hx; simp at hx; rcases hx with rfl | rfl | rfl; exact cmI_ok _ _; exact cmT_ok _ _; exact cmT_ok _ _) (by simp) (by simp)⟩ ?_
  rintro wr4 ⟨hbr4S, hbr4F⟩
  refine wpMix_act (by kernel_rfl) (fun K hK => ?_)
  go_big_op
  refine (orJ_any _ _ _ _ hbr4F).mono ?_
  rintro e w' ⟨rfl, rfl⟩
  refine hK _ _ (regrown_of_below hbr4S) ?_
  clear hK K
  refine wpMix_pure (by kernel_rfl) (fun K hK => ?_); go_big_quiet_op; refine hK _ ?_; clear hK K
  refine wpMix_nil ?_
  go_wp2
  go_ret
  exact ⟨rfl, hW.trans (hbr4S.mono hW.size)⟩
set_option maxRecDepth 100000 in
set_option maxHeartbeats 4000000 in
theorem l28Ok_any (v : Value) (xs : List DIncident) (fp : List Nat) (w : World) (hx : Sl fIncident.cod w v xs fp) :
    Calls Tryz.prog 117 #[v] w fun e w' => e = .returned (.bool (incsB xs)) ∧ Below w.heap.size w w' := by
  obtain ⟨A, cap, rfl, hlen, hcap⟩ := hx.form
  go_enter Tryz.func117, Tryz.ntmps117
  go_wp2
  go_loopw [3] (fun i wr => ∃ k : Nat, k ≤ xs.length ∧ i = .int .i64 k ∧ Hid (allIdx (incOk xs) k = true) ∧ Below w.heap.size w wr) (fun i _ => xs.length - (intOf i).toNat)
  case atStart => exact ⟨0, Nat.zero_le _, rfl, rfl, Below.refl _ _⟩
  case round =>
    obtain ⟨k, hk, rfl, H0, hb⟩ := hrel
    by_cases hlt : k < xs.length
    · rcases Nat.eq_zero_or_pos k with rfl | hpos
      · obtain ⟨b, off, rfl, _, hok, hp⟩ := PIncident.elem (hx.below' hb) hlt
        have hplt := hp.lt
        go_wp2
        refine wp_region_mix (C := fun w' => ∃ p : Regrown, w' = Go.Sort.grow (redrawn wr p.d) p.os) [true, true, true, false, true, true, true, true, true, true, true, true, true, true, true, true, false, true, true, true] (by kernel_rfl) (by kernel_rfl) (by kernel_rfl) (fun _ _ d _ _ h => by cases d <;> exact h) (regrown_of_below (Below.drew (Below.refl _ _))) ?_
        have hS0 : Below (wr.heap.size) wr wr.drew := Below.drew (Below.refl _ _)
        refine wpMix_pure (by kernel_rfl) (fun K hK => ?_); go_big_quiet_op; refine hK _ ?_; clear hK K
        refine wpMix_pure (by kernel_rfl) (fun K hK => ?_); go_big_quiet_op; refine hK _ ?_; clear hK K
        refine wpMix_pure (by kernel_rfl) (fun K hK => ?_); go_big_quiet_op; refine hK _ ?_; clear hK K
        refine wpMix_act (by kernel_rfl) (fun K hK => ?_)
        go_big_op
        refine (l28One_any _ _ _ _ (hp.below hS0 hplt) hok).mono ?_
        rintro e wr1 ⟨rfl, hbr1⟩
        have hbr1S : Below (wr.heap.size) wr wr1 := hS0.trans (hbr1.mono hS0.size)
        refine hK _ _ (regrown_of_below hbr1S) ?_
        clear hK K
        cases hq3 : incB xs[0]
        · skip
          refine wpMix_pure (by kernel_rfl) (fun K hK => ?_); go_big_quiet_op; refine hK _ ?_; clear hK K
          refine wpMix_pure (by kernel_rfl) (fun K hK => ?_); go_big_quiet_op; refine hK _ ?_; clear hK K
          refine wpMix_skip (by kernel_rfl) (fun K hK => ?_)
          simp only [Act.put, List.setIfInBounds_toArray, List.set_cons_zero, List.set_cons_succ]
          refine hK _ ?_; clear hK K
          refine wpMix_skip (by kernel_rfl) (fun K hK => ?_)
          simp only [Act.put, List.setIfInBounds_toArray, List.set_cons_zero, List.set_cons_succ]
          refine hK _ ?_; clear hK K
          refine wpMix_skip (by kernel_rfl) (fun K hK => ?_)
          simp only [Act.put, List.setIfInBounds_toArray, List.set_cons_zero, List.set_cons_succ]
          refine hK _ ?_; clear hK K
          refine wpMix_skip (by kernel_rfl) (fun K hK => ?_)
          simp only [Act.put, List.setIfInBounds_toArray, List.set_cons_zero, List.set_cons_succ]
          refine hK _ ?_; clear hK K
          refine wpMix_skip (by kernel_rfl) (fun K hK => ?_)
          simp only [Act.put, List.setIfInBounds_toArray, List.set_cons_zero, List.set_cons_succ]
          refine hK _ ?_; clear hK K
          refine wpMix_skip (by kernel_rfl) (fun K hK => ?_)
          simp only [Act.put, List.setIfInBounds_toArray, List.set_cons_zero, List.set_cons_succ]
          refine hK _ ?_; clear hK K
          refine wpMix_skip (by kernel_rfl) (fun K hK => ?_)
          simp only [Act.put, List.setIfInBounds_toArray, List.set_cons_zero, List.set_cons_succ]
          refine hK _ ?_; clear hK K
          refine wpMix_skip (by kernel_rfl) (fun K hK => ?_)
          simp only [Act.put, List.setIfInBounds_toArray, List.set_cons_zero, List.set_cons_succ]
          refine hK _ ?_; clear hK K
          refine wpMix_skip (by kernel_rfl) (fun K hK => ?_)
          simp only [Act.put, List.setIfInBounds_toArray, List.set_cons_zero, List.set_cons_succ]
          refine hK _ ?_; clear hK K
          refine wpMix_skip (by kernel_rfl) (fun K hK => ?_)
          simp only [Act.put, List.setIfInBounds_toArray, List.set_cons_zero, List.set_cons_succ]
          refine hK _ ?_; clear hK K
          refine wpMix_skip (by kernel_rfl) (fun K hK => ?_)
          simp only [Act.put, List.setIfInBounds_toArray, List.set_cons_zero, List.set_cons_succ]
          refine hK _ ?_; clear hK K
          refine wpMix_skip (by kernel_rfl) (fun K hK => ?_)
          simp only [Act.put, List.setIfInBounds_toArray, List.set_cons_zero, List.set_cons_succ]
          refine hK _ ?_; clear hK K
          refine wpMix_skip (by kernel_rfl) (fun K hK => ?_)
          simp only [Act.put, List.setIfInBounds_toArray, List.set_cons_zero, List.set_cons_succ]
          refine hK _ ?_; clear hK K
          refine wpMix_pure (by kernel_rfl) (fun K hK => ?_); go_big_quiet_op; refine hK _ ?_; clear hK K
          refine wpMix_nil ?_
          go_wp2
          go_ret
          exact ⟨ret_bool (by rw [incsB_bad hlt (by rw [incOk_zero hlt]; simp [*])]), hb.trans (hbr1S.mono hb.size)⟩
        · skip
          refine wpMix_pure (by kernel_rfl) (fun K hK => ?_); go_big_quiet_op; refine hK _ ?_; clear hK K
          refine wpMix_pure (by kernel_rfl) (fun K hK => ?_); go_big_quiet_op; refine hK _ ?_; clear hK K
          refine wpMix_pure (by kernel_rfl) (fun K hK => ?_); go_big_quiet_op; refine hK _ ?_; clear hK K
          refine wpMix_pure (by kernel_rfl) (fun K hK => ?_); go_big_quiet_op; refine hK _ ?_; clear hK K
          refine wpMix_pure (by kernel_rfl) (fun K hK => ?_); go_big_quiet_op; refine hK _ ?_; clear hK K
          refine wpMix_skip (by kernel_rfl) (fun K hK => ?_)
          simp only [Act.put, List.setIfInBounds_toArray, List.set_cons_zero, List.set_cons_succ]
          refine hK _ ?_; clear hK K
          refine wpMix_skip (by kernel_rfl) (fun K hK => ?_)
          simp only [Act.put, List.setIfInBounds_toArray, List.set_cons_zero, List.set_cons_succ]
          refine hK _ ?_; clear hK K
          refine wpMix_skip (by kernel_rfl) (fun K hK => ?_)
          simp only [Act.put, List.setIfInBounds_toArray, List.set_cons_zero, List.set_cons_succ]
          refine hK _ ?_; clear hK K
          refine wpMix_skip (by kernel_rfl) (fun K hK => ?_)
          simp only [Act.put, List.setIfInBounds_toArray, List.set_cons_zero, List.set_cons_succ]
          refine hK _ ?_; clear hK K
          refine wpMix_skip (by kernel_rfl) (fun K hK => ?_)
          simp only [Act.put, List.setIfInBounds_toArray, List.set_cons_zero, List.set_cons_succ]
          refine hK _ ?_; clear hK K
          refine wpMix_skip (by kernel_rfl) (fun K hK => ?_)
          simp only [Act.put, List.setIfInBounds_toArray, List.set_cons_zero, List.set_cons_succ]
          refine hK _ ?_; clear hK K
          refine wpMix_skip (by kernel_rfl) (fun K hK => ?_)
          simp only [Act.put, List.setIfInBounds_toArray, List.set_cons_zero, List.set_cons_succ]
          refine hK _ ?_; clear hK K
          refine wpMix_skip (by kernel_rfl) (fun K hK => ?_)
          simp only [Act.put, List.setIfInBounds_toArray, List.set_cons_zero, List.set_cons_succ]
          refine hK _ ?_; clear hK K
          refine wpMix_skip (by kernel_rfl) (fun K hK => ?_)
          simp only [Act.put, List.setIfInBounds_toArray, List.set_cons_zero, List.set_cons_succ]
          refine hK _ ?_; clear hK K
          refine wpMix_pure (by kernel_rfl) (fun K hK => ?_); go_big_quiet_op; refine hK _ ?_; clear hK K
          refine wpMix_pure (by kernel_rfl) (fun K hK => ?_); go_big_quiet_op; refine hK _ ?_; clear hK K
          refine wpMix_nil ?_
          go_wp2
          go_roundw
          case rel => exact ⟨0 + 1, by omega, by go_num, allIdx_step H0.out (by rw [incOk_zero hlt]; simp [*]), hb.trans (hbr1S.mono hb.size)⟩
          case measure => simp [intOf]; omega
      · obtain ⟨m, rfl⟩ : ∃ m, k = m + 1 := ⟨k - 1, by omega⟩
        have hm : m < xs.length := by omega
        obtain ⟨b, off, rfl, _, hok, hp⟩ := PIncident.elem (hx.below' hb) hlt
        have hplt := hp.lt
        obtain ⟨b1, off1, hA1, _, hokm, hpm⟩ := PIncident.elem (hx.below' hb) hm
        injection hA1 with hA1
        injection hA1 with hA1 hA2 _
        subst hA1 hA2
        go_wp2
        refine wp_region_mix (C := fun w' => ∃ p : Regrown, w' = Go.Sort.grow (redrawn wr p.d) p.os) [true, true, true, false, true, true, true, true, true, true, true, true, true, true, true, true, false, true, true, true] (by kernel_rfl) (by kernel_rfl) (by kernel_rfl) (fun _ _ d _ _ h => by cases d <;> exact h) (regrown_of_below (Below.drew (Below.refl _ _))) ?_
        have hS0 : Below (wr.heap.size) wr wr.drew := Below.drew (Below.refl _ _)
        refine wpMix_pure (by kernel_rfl) (fun K hK => ?_); go_big_quiet_op; refine hK _ ?_; clear hK K
        refine wpMix_pure (by kernel_rfl) (fun K hK => ?_); go_big_quiet_op; refine hK _ ?_; clear hK K
        refine wpMix_pure (by kernel_rfl) (fun K hK => ?_); go_big_quiet_op; refine hK _ ?_; clear hK K
        refine wpMix_act (by kernel_rfl) (fun K hK => ?_)
        go_big_op
        refine (l28One_any _ _ _ _ (hp.below hS0 hplt) hok).mono ?_
        rintro e wr1 ⟨rfl, hbr1⟩
        have hbr1S : Below (wr.heap.size) wr wr1 := hS0.trans (hbr1.mono hS0.size)
        refine hK _ _ (regrown_of_below hbr1S) ?_
        clear hK K
        cases hq3 : incB xs[m + 1]
        · skip
          refine wpMix_pure (by kernel_rfl) (fun K hK => ?_); go_big_quiet_op; refine hK _ ?_; clear hK K
          refine wpMix_pure (by kernel_rfl) (fun K hK => ?_); go_big_quiet_op; refine hK _ ?_; clear hK K
          refine wpMix_skip (by kernel_rfl) (fun K hK => ?_)
          simp only [Act.put, List.setIfInBounds_toArray, List.set_cons_zero, List.set_cons_succ]
          refine hK _ ?_; clear hK K
          refine wpMix_skip (by kernel_rfl) (fun K hK => ?_)
          simp only [Act.put, List.setIfInBounds_toArray, List.set_cons_zero, List.set_cons_succ]
          refine hK _ ?_; clear hK K
          refine wpMix_skip (by kernel_rfl) (fun K hK => ?_)
          simp only [Act.put, List.setIfInBounds_toArray, List.set_cons_zero, List.set_cons_succ]
          refine hK _ ?_; clear hK K
          refine wpMix_skip (by kernel_rfl) (fun K hK => ?_)
          simp only [Act.put, List.setIfInBounds_toArray, List.set_cons_zero, List.set_cons_succ]
          refine hK _ ?_; clear hK K
          refine wpMix_skip (by kernel_rfl) (fun K hK => ?_)
          simp only [Act.put, List.setIfInBounds_toArray, List.set_cons_zero, List.set_cons_succ]
          refine hK _ ?_; clear hK K
          refine wpMix_skip (by kernel_rfl) (fun K hK => ?_)
          simp only [Act.put, List.setIfInBounds_toArray, List.set_cons_zero, List.set_cons_succ]
          refine hK _ ?_; clear hK K
          refine wpMix_skip (by kernel_rfl) (fun K hK => ?_)
          simp only [Act.put, List.setIfInBounds_toArray, List.set_cons_zero, List.set_cons_succ]
          refine hK _ ?_; clear hK K
          refine wpMix_skip (by kernel_rfl) (fun K hK => ?_)
          simp only [Act.put, List.setIfInBounds_toArray, List.set_cons_zero, List.set_cons_succ]
          refine hK _ ?_; clear hK K
          refine wpMix_skip (by kernel_rfl) (fun K hK => ?_)
          simp only [Act.put, List.setIfInBounds_toArray, List.set_cons_zero, List.set_cons_succ]
          refine hK _ ?_; clear hK K
          refine wpMix_skip (by kernel_rfl) (fun K hK => ?_)
          simp only [Act.put, List.setIfInBounds_toArray, List.set_cons_zero, List.set_cons_succ]
          refine hK _ ?_; clear hK K
          refine wpMix_skip (by kernel_rfl) (fun K hK => ?_)
          simp only [Act.put, List.setIfInBounds_toArray, List.set_cons_zero, List.set_cons_succ]
          refine hK _ ?_; clear hK K
          refine wpMix_skip (by kernel_rfl) (fun K hK => ?_)
          simp only [Act.put, List.setIfInBounds_toArray, List.set_cons_zero, List.set_cons_succ]
          refine hK _ ?_; clear hK K
          refine wpMix_skip (by kernel_rfl) (fun K hK => ?_)
          simp only [Act.put, List.setIfInBounds_toArray, List.set_cons_zero, List.set_cons_succ]
          refine hK _ ?_; clear hK K
          refine wpMix_pure (by kernel_rfl) (fun K hK => ?_); go_big_quiet_op; refine hK _ ?_; clear hK K
          refine wpMix_nil ?_
          go_wp2
          go_ret
          exact ⟨ret_bool (by rw [incsB_bad hlt (by rw [incOk_succ hlt]; simp [*])]), hb.trans (hbr1S.mono hb.size)⟩
        · skip
          refine wpMix_pure (by kernel_rfl) (fun K hK => ?_); go_big_quiet_op; refine hK _ ?_; clear hK K
          refine wpMix_pure (by kernel_rfl) (fun K hK => ?_); go_big_quiet_op; refine hK _ ?_; clear hK K
          refine wpMix_pure (by kernel_rfl) (fun K hK => ?_); go_big_quiet_op; refine hK _ ?_; clear hK K
          refine wpMix_pure (by kernel_rfl) (fun K hK => ?_); go_big_quiet_op; refine hK _ ?_; clear hK K
          refine wpMix_pure (by kernel_rfl) (fun K hK => ?_); go_big_quiet_op; refine hK _ ?_; clear hK K
          refine wpMix_pure (by kernel_rfl) (fun K hK => ?_); go_big_quiet_op; refine hK _ ?_; clear hK K
          refine wpMix_pure (by kernel_rfl) (fun K hK => ?_); go_big_quiet_op; refine hK _ ?_; clear hK K
          refine wpMix_pure (by kernel_rfl) (fun K hK => ?_); go_big_quiet_op; refine hK _ ?_; clear hK K
          refine wpMix_pure (by kernel_rfl) (fun K hK => ?_); go_big_quiet_op; refine hK _ ?_; clear hK K
          refine wpMix_pure (by kernel_rfl) (fun K hK => ?_); go_big_quiet_op; refine hK _ ?_; clear hK K
          refine wpMix_pure (by kernel_rfl) (fun K hK => ?_); go_big_quiet_op; refine hK _ ?_; clear hK K
          refine wpMix_pure (by kernel_rfl) (fun K hK => ?_); go_big_quiet_op; refine hK _ ?_; clear hK K
          refine wpMix_act (by kernel_rfl) (fun K hK => ?_)
          go_big_op
          refine (l28Before_any _ _ _ _ _ _ _ (hpm.below hbr1S hplt) (hp.below hbr1S hplt)).mono ?_
          rintro e wr2 ⟨rfl, hbr2⟩
          have hbr2S : Below (wr.heap.size) wr wr2 := hbr1S.trans (hbr2.mono hbr1S.size)
          refine hK _ _ (regrown_of_below hbr2S) ?_
          clear hK K
          cases hq16 : befI xs[m] xs[m + 1]
          · skip
            refine wpMix_pure (by kernel_rfl) (fun K hK => ?_); go_big_quiet_op; refine hK _ ?_; clear hK K
            refine wpMix_pure (by kernel_rfl) (fun K hK => ?_); go_big_quiet_op; refine hK _ ?_; clear hK K
            refine wpMix_pure (by kernel_rfl) (fun K hK => ?_); go_big_quiet_op; refine hK _ ?_; clear hK K
            refine wpMix_nil ?_
            go_wp2
            go_ret
            exact ⟨ret_bool (by rw [incsB_bad hlt (by rw [incOk_succ hlt]; simp [*])]), hb.trans (hbr2S.mono hb.size)⟩
          · skip
            refine wpMix_pure (by kernel_rfl) (fun K hK => ?_); go_big_quiet_op; refine hK _ ?_; clear hK K
            refine wpMix_pure (by kernel_rfl) (fun K hK => ?_); go_big_quiet_op; refine hK _ ?_; clear hK K
            refine wpMix_pure (by kernel_rfl) (fun K hK => ?_); go_big_quiet_op; refine hK _ ?_; clear hK K
            refine wpMix_nil ?_
            go_wp2
            go_roundw
            case rel => exact ⟨m + 1 + 1, by omega, by go_num, allIdx_step H0.out (by rw [incOk_succ hlt]; simp [*]), hb.trans (hbr2S.mono hb.size)⟩
            case measure => simp [intOf]; omega
    · have HF := Lib.hid (allIdx_full (by omega) hk H0.out)
      by_cases hle : xs.length ≤ 48
      all_goals
        go_wp2
        go_ret
        exact ⟨ret_bool (by unfold incsB; rw [HF.out]; simp [hle] <;> omega), hb⟩
set_option maxRecDepth 100000 in
set_option maxHeartbeats 4000000 in
theorem ValidIncidents_any (v : Value) (xs : List DIncident) (fp : List Nat) (w : World) (hx : Sl fIncident.cod w v xs fp) :
    Calls Tryz.prog 43 #[v] w fun e w' => e = .returned (.bool (incsB xs)) ∧ Below w.heap.size w w' := by
  obtain ⟨A, cap, rfl, hlen, hcap⟩ := hx.form
  by_cases hle : xs.length ≤ 48
  · go_enter Tryz.func43, Tryz.ntmps43
    go_wp2
    go_loopw [10] (fun i wr => ∃ k : Nat, k ≤ xs.length ∧ i = .int .i64 k ∧ Hid (allIdx (incOk xs) k = true) ∧ Below w.heap.size w wr) (fun i _ => xs.length - (intOf i).toNat)
    case atStart => exact ⟨0, Nat.zero_le _, rfl, rfl, Below.refl _ _⟩
    case round =>
      obtain ⟨k, hk, rfl, H0, hb⟩ := hrel
      by_cases hlt : k < xs.length
      · rcases Nat.eq_zero_or_pos k with rfl | hpos
        · skip
          obtain ⟨b, off, rfl, _, hok, hp⟩ := PIncident.elem (hx.below' hb) hlt
          rw [Nat.zero_mul, Nat.add_zero] at hp
          obtain ⟨c0, c1, c2, c3, c4, c5⟩ := id hp
          go_wp2
          refine at_world (fun W => Below wr.heap.size wr W ∧ PIncident W wr.heap.size 0 xs[0]) ⟨(Below.refl _ _).alloc (Nat.le_refl _) _, PIncident.box wr xs[0] _⟩ ?_
          clear c0 c1 c2 c3 c4 c5
          rintro W ⟨hW, hpW⟩
          obtain ⟨c0, c1, c2, c3, c4, c5⟩ := id hpW
          have gc0 := cell_regrown c0
          have gc1 := cell_regrown c1
          have gc2 := cell_regrown c2
          have gc3 := cell_regrown c3
          have gc4 := cell_regrown c4
          have gc5 := cell_regrown c5
          refine wp_region_mix (C := fun w' => ∃ p : Regrown, w' = Go.Sort.grow (redrawn W p.d) p.os) [true, false, true, true, true, true, true, true, true, true, true, true, true, false, true, true, true] (by kernel_rfl) (by kernel_rfl) (by kernel_rfl) (fun _ _ d _ _ h => by cases d <;> exact h) (regrown_of_below (Below.drew (Below.refl _ _))) ?_
          have hS0 : Below (W.heap.size) W W.drew := Below.drew (Below.refl _ _)
          refine wpMix_pure (by kernel_rfl) (fun K hK => ?_); go_big_quiet_op; refine hK _ ?_; clear hK K
          refine wpMix_act (by kernel_rfl) (fun K hK => ?_)
          go_big_op
          refine (incValid_any xs[0] _ hok).mono ?_
          rintro e wr1 ⟨rfl, hbr1⟩
          have hbr1S : Below (W.heap.size) W wr1 := hS0.trans (hbr1.mono hS0.size)
          refine hK _ _ (regrown_of_below hbr1S) ?_
          clear hK K
          cases hq1 : incB xs[0]
          · skip
            refine wpMix_pure (by kernel_rfl) (fun K hK => ?_); go_big_quiet_op; refine hK _ ?_; clear hK K
            refine wpMix_pure (by kernel_rfl) (fun K hK => ?_); go_big_quiet_op; refine hK _ ?_; clear hK K
            refine wpMix_skip (by kernel_rfl) (fun K hK => ?_)
            simp only [Act.put, List.setIfInBounds_toArray, List.set_cons_zero, List.set_cons_succ]
            refine hK _ ?_; clear hK K
            refine wpMix_skip (by kernel_rfl) (fun K hK => ?_)
            simp only [Act.put, List.setIfInBounds_toArray, List.set_cons_zero, List.set_cons_succ]
            refine hK _ ?_; clear hK K
            refine wpMix_skip (by kernel_rfl) (fun K hK => ?_)
            simp only [Act.put, List.setIfInBounds_toArray, List.set_cons_zero, List.set_cons_succ]
            refine hK _ ?_; clear hK K
            refine wpMix_skip (by kernel_rfl) (fun K hK => ?_)
            simp only [Act.put, List.setIfInBounds_toArray, List.set_cons_zero, List.set_cons_succ]
            refine hK _ ?_; clear hK K
            refine wpMix_skip (by kernel_rfl) (fun K hK => ?_)
            simp only [Act.put, List.setIfInBounds_toArray, List.set_cons_zero, List.set_cons_succ]
            refine hK _ ?_; clear hK K
            refine wpMix_skip (by kernel_rfl) (fun K hK => ?_)
            simp only [Act.put, List.setIfInBounds_toArray, List.set_cons_zero, List.set_cons_succ]
            refine hK _ ?_; clear hK K
            refine wpMix_skip (by kernel_rfl) (fun K hK => ?_)
            simp only [Act.put, List.setIfInBounds_toArray, List.set_cons_zero, List.set_cons_succ]
            refine hK _ ?_; clear hK K
            refine wpMix_skip (by kernel_rfl) (fun K hK => ?_)
            simp only [Act.put, List.setIfInBounds_toArray, List.set_cons_zero, List.set_cons_succ]
            refine hK _ ?_; clear hK K
            refine wpMix_skip (by kernel_rfl) (fun K hK => ?_)
            simp only [Act.put, List.setIfInBounds_toArray, List.set_cons_zero, List.set_cons_succ]
            refine hK _ ?_; clear hK K
            refine wpMix_skip (by kernel_rfl) (fun K hK => ?_)
            simp only [Act.put, List.setIfInBounds_toArray, List.set_cons_zero, List.set_cons_succ]
            refine hK _ ?_; clear hK K
            refine wpMix_skip (by kernel_rfl) (fun K hK => ?_)
            simp only [Act.put, List.setIfInBounds_toArray, List.set_cons_zero, List.set_cons_succ]
            refine hK _ ?_; clear hK K
            refine wpMix_skip (by kernel_rfl) (fun K hK => ?_)
            simp only [Act.put, List.setIfInBounds_toArray, List.set_cons_zero, List.set_cons_succ]
            refine hK _ ?_; clear hK K
            refine wpMix_pure (by kernel_rfl) (fun K hK => ?_); go_big_quiet_op; refine hK _ ?_; clear hK K
            refine wpMix_nil ?_
            go_wp2
            go_ret
            exact ⟨ret_bool (by rw [incsB_bad hlt (by rw [incOk_zero hlt]; simp [*])]), hb.trans (hW.trans (hbr1S.mono hW.size) |>.mono hb.size)⟩
          · skip
            refine wpMix_pure (by kernel_rfl) (fun K hK => ?_); go_big_quiet_op; refine hK _ ?_; clear hK K
            refine wpMix_pure (by kernel_rfl) (fun K hK => ?_); go_big_quiet_op; refine hK _ ?_; clear hK K
            refine wpMix_pure (by kernel_rfl) (fun K hK => ?_); go_big_quiet_op; refine hK _ ?_; clear hK K
            refine wpMix_pure (by kernel_rfl) (fun K hK => ?_); go_big_quiet_op; refine hK _ ?_; clear hK K
            refine wpMix_pure (by kernel_rfl) (fun K hK => ?_); go_big_quiet_op; refine hK _ ?_; clear hK K
            refine wpMix_skip (by kernel_rfl) (fun K hK => ?_)
            simp only [Act.put, List.setIfInBounds_toArray, List.set_cons_zero, List.set_cons_succ]
            refine hK _ ?_; clear hK K
            refine wpMix_skip (by kernel_rfl) (fun K hK => ?_)
            simp only [Act.put, List.setIfInBounds_toArray, List.set_cons_zero, List.set_cons_succ]
            refine hK _ ?_; clear hK K
            refine wpMix_skip (by kernel_rfl) (fun K hK => ?_)
            simp only [Act.put, List.setIfInBounds_toArray, List.set_cons_zero, List.set_cons_succ]
            refine hK _ ?_; clear hK K
            refine wpMix_skip (by kernel_rfl) (fun K hK => ?_)
            simp only [Act.put, List.setIfInBounds_toArray, List.set_cons_zero, List.set_cons_succ]
            refine hK _ ?_; clear hK K
            refine wpMix_skip (by kernel_rfl) (fun K hK => ?_)
            simp only [Act.put, List.setIfInBounds_toArray, List.set_cons_zero, List.set_cons_succ]
            refine hK _ ?_; clear hK K
            refine wpMix_skip (by kernel_rfl) (fun K hK => ?_)
            simp only [Act.put, List.setIfInBounds_toArray, List.set_cons_zero, List.set_cons_succ]
            refine hK _ ?_; clear hK K
            refine wpMix_skip (by kernel_rfl) (fun K hK => ?_)
            simp only [Act.put, List.setIfInBounds_toArray, List.set_cons_zero, List.set_cons_succ]
            refine hK _ ?_; clear hK K
            refine wpMix_skip (by kernel_rfl) (fun K hK => ?_)
            simp only [Act.put, List.setIfInBounds_toArray, List.set_cons_zero, List.set_cons_succ]
            refine hK _ ?_; clear hK K
            refine wpMix_pure (by kernel_rfl) (fun K hK => ?_); go_big_quiet_op; refine hK _ ?_; clear hK K
            refine wpMix_pure (by kernel_rfl) (fun K hK => ?_); go_big_quiet_op; refine hK _ ?_; clear hK K
            refine wpMix_nil ?_
            go_wp2
            go_roundw
            case rel => exact ⟨0 + 1, by omega, by go_num, allIdx_step H0.out (by rw [incOk_zero hlt]; simp [*]), hb.trans (hW.trans (hbr1S.mono hW.size) |>.mono hb.size)⟩
            case measure => simp [intOf]; omega
        · obtain ⟨m, rfl⟩ : ∃ m, k = m + 1 := ⟨k - 1, by omega⟩
          have hm : m < xs.length := by omega
          obtain ⟨b, off, rfl, _, hok, hp⟩ := PIncident.elem (hx.below' hb) hlt
          skip
          obtain ⟨c0, c1, c2, c3, c4, c5⟩ := id hp
          obtain ⟨b1, off1, hA1, _, hokm, hpm⟩ := PIncident.elem (hx.below' hb) hm
          injection hA1 with hA1
          injection hA1 with hA1 hA2 _
          subst hA1 hA2
          go_wp2
          refine at_world (fun W => Below wr.heap.size wr W ∧ PIncident W wr.heap.size 0 xs[m + 1] ∧ PIncident W b (off + m * 6) xs[m]) ⟨(Below.refl _ _).alloc (Nat.le_refl _) _, PIncident.box wr xs[m + 1] _, hpm.below' ((Below.refl _ _).alloc (Nat.le_refl _) _)⟩ ?_
          clear c0 c1 c2 c3 c4 c5 hpm
          rintro W ⟨hW, hpW, hpm⟩
          obtain ⟨c0, c1, c2, c3, c4, c5⟩ := id hpW
          obtain ⟨d0, d1, d2, d3, d4, d5⟩ := id hpm
          have gc0 := cell_regrown c0
          have gc1 := cell_regrown c1
          have gc2 := cell_regrown c2
          have gc3 := cell_regrown c3
          have gc4 := cell_regrown c4
          have gc5 := cell_regrown c5
          have gd0 := cell_regrown d0
          have gd1 := cell_regrown d1
          have gd2 := cell_regrown d2
          have gd3 := cell_regrown d3
          have gd4 := cell_regrown d4
          have gd5 := cell_regrown d5
          refine wp_region_mix (C := fun w' => ∃ p : Regrown, w' = Go.Sort.grow (redrawn W p.d) p.os) [true, false, true, true, true, true, true, true, true, true, true, true, true, false, true, true, true] (by kernel_rfl) (by kernel_rfl) (by kernel_rfl) (fun _ _ d _ _ h => by cases d <;> exact h) (regrown_of_below (Below.drew (Below.refl _ _))) ?_
          have hS0 : Below (W.heap.size) W W.drew := Below.drew (Below.refl _ _)
          refine wpMix_pure (by kernel_rfl) (fun K hK => ?_); go_big_quiet_op; refine hK _ ?_; clear hK K
          refine wpMix_act (by kernel_rfl) (fun K hK => ?_)
          go_big_op
          refine (incValid_any xs[m + 1] _ hok).mono ?_
          rintro e wr1 ⟨rfl, hbr1⟩
          have hbr1S : Below (W.heap.size) W wr1 := hS0.trans (hbr1.mono hS0.size)
          refine hK _ _ (regrown_of_below hbr1S) ?_
          clear hK K
          cases hq1 : incB xs[m + 1]
          · skip
            refine wpMix_pure (by kernel_rfl) (fun K hK => ?_); go_big_quiet_op; refine hK _ ?_; clear hK K
            refine wpMix_pure (by kernel_rfl) (fun K hK => ?_); go_big_quiet_op; refine hK _ ?_; clear hK K
            refine wpMix_skip (by kernel_rfl) (fun K hK => ?_)
            simp only [Act.put, List.setIfInBounds_toArray, List.set_cons_zero, List.set_cons_succ]
            refine hK _ ?_; clear hK K
            refine wpMix_skip (by kernel_rfl) (fun K hK => ?_)
            simp only [Act.put, List.setIfInBounds_toArray, List.set_cons_zero, List.set_cons_succ]
            refine hK _ ?_; clear hK K
            refine wpMix_skip (by kernel_rfl) (fun K hK => ?_)
            simp only [Act.put, List.setIfInBounds_toArray, List.set_cons_zero, List.set_cons_succ]
            refine hK _ ?_; clear hK K
            refine wpMix_skip (by kernel_rfl) (fun K hK => ?_)
            simp only [Act.put, List.setIfInBounds_toArray, List.set_cons_zero, List.set_cons_succ]
            refine hK _ ?_; clear hK K
            refine wpMix_skip (by kernel_rfl) (fun K hK => ?_)
            simp only [Act.put, List.setIfInBounds_toArray, List.set_cons_zero, List.set_cons_succ]
            refine hK _ ?_; clear hK K
            refine wpMix_skip (by kernel_rfl) (fun K hK => ?_)
            simp only [Act.put, List.setIfInBounds_toArray, List.set_cons_zero, List.set_cons_succ]
            refine hK _ ?_; clear hK K
            refine wpMix_skip (by kernel_rfl) (fun K hK => ?_)
            simp only [Act.put, List.setIfInBounds_toArray, List.set_cons_zero, List.set_cons_succ]
            refine hK _ ?_; clear hK K
            refine wpMix_skip (by kernel_rfl) (fun K hK => ?_)
            simp only [Act.put, List.setIfInBounds_toArray, List.set_cons_zero, List.set_cons_succ]
            refine hK _ ?_; clear hK K
            refine wpMix_skip (by kernel_rfl) (fun K hK => ?_)
            simp only [Act.put, List.setIfInBounds_toArray, List.set_cons_zero, List.set_cons_succ]
            refine hK _ ?_; clear hK K
            refine wpMix_skip (by kernel_rfl) (fun K hK => ?_)
            simp only [Act.put, List.setIfInBounds_toArray, List.set_cons_zero, List.set_cons_succ]
            refine hK _ ?_; clear hK K
            refine wpMix_skip (by kernel_rfl) (fun K hK => ?_)
            simp only [Act.put, List.setIfInBounds_toArray, List.set_cons_zero, List.set_cons_succ]
            refine hK _ ?_; clear hK K
            refine wpMix_skip (by kernel_rfl) (fun K hK => ?_)
            simp only [Act.put, List.setIfInBounds_toArray, List.set_cons_zero, List.set_cons_succ]
            refine hK _ ?_; clear hK K
            refine wpMix_pure (by kernel_rfl) (fun K hK => ?_); go_big_quiet_op; refine hK _ ?_; clear hK K
            refine wpMix_nil ?_
            go_wp2
            go_ret
            exact ⟨ret_bool (by rw [incsB_bad hlt (by rw [incOk_succ hlt]; simp [*])]), hb.trans (hW.trans (hbr1S.mono hW.size) |>.mono hb.size)⟩
          · skip
            refine wpMix_pure (by kernel_rfl) (fun K hK => ?_); go_big_quiet_op; refine hK _ ?_; clear hK K
            refine wpMix_pure (by kernel_rfl) (fun K hK => ?_); go_big_quiet_op; refine hK _ ?_; clear hK K
            refine wpMix_pure (by kernel_rfl) (fun K hK => ?_); go_big_quiet_op; refine hK _ ?_; clear hK K
            refine wpMix_pure (by kernel_rfl) (fun K hK => ?_); go_big_quiet_op; refine hK _ ?_; clear hK K
            refine wpMix_pure (by kernel_rfl) (fun K hK => ?_); go_big_quiet_op; refine hK _ ?_; clear hK K
            refine wpMix_pure (by kernel_rfl) (fun K hK => ?_); go_big_quiet_op; refine hK _ ?_; clear hK K
            refine wpMix_pure (by kernel_rfl) (fun K hK => ?_); go_big_quiet_op; refine hK _ ?_; clear hK K
            refine wpMix_pure (by kernel_rfl) (fun K hK => ?_); go_big_quiet_op; refine hK _ ?_; clear hK K
            refine wpMix_pure (by kernel_rfl) (fun K hK => ?_); go_big_quiet_op; refine hK _ ?_; clear hK K
            refine wpMix_pure (by kernel_rfl) (fun K hK => ?_); go_big_quiet_op; refine hK _ ?_; clear hK K
            refine wpMix_pure (by kernel_rfl) (fun K hK => ?_); go_big_quiet_op; refine hK _ ?_; clear hK K
            refine wpMix_act (by kernel_rfl) (fun K hK => ?_)
            go_big_op
            refine (compareIncidents_any _ _ _).mono ?_
            rintro e wr2 ⟨rfl, hbr2⟩
            have hbr2S : Below (W.heap.size) W wr2 := hbr1S.trans (hbr2.mono hbr1S.size)
            refine hK _ _ (regrown_of_below hbr2S) ?_
            clear hK K
            by_cases hq14 : befI xs[m] xs[m + 1] = true
            · skip
              have hcm : cmpInc xs[m] xs[m + 1] < 0 := by have := cmpInc_lt xs[m] xs[m + 1]; rw [hq14] at this; simpa using this
              have e14 : decide (0 ≤ cmpInc xs[m] xs[m + 1]) = false := by simp; omega
              refine wpMix_pure (by kernel_rfl) (fun K hK => ?_); go_big_quiet_op; refine hK _ ?_; clear hK K
              refine wpMix_pure (by kernel_rfl) (fun K hK => ?_); go_big_quiet_op; refine hK _ ?_; clear hK K
              refine wpMix_pure (by kernel_rfl) (fun K hK => ?_); go_big_quiet_op; refine hK _ ?_; clear hK K
              refine wpMix_nil ?_
              go_wp2
              go_roundw
              case rel => exact ⟨m + 1 + 1, by omega, by go_num, allIdx_step H0.out (by rw [incOk_succ hlt]; simp [*]), hb.trans (hW.trans (hbr2S.mono hW.size) |>.mono hb.size)⟩
              case measure => simp [intOf]; omega
            · skip
              have hbf : befI xs[m] xs[m + 1] = false := by simpa using hq14
              have hcm : 0 ≤ cmpInc xs[m] xs[m + 1] := by have := cmpInc_lt xs[m] xs[m + 1]; rw [hbf] at this; simpa using this
              have e14 : decide (0 ≤ cmpInc xs[m] xs[m + 1]) = true := by simpa using hcm
              refine wpMix_pure (by kernel_rfl) (fun K hK => ?_); go_big_quiet_op; refine hK _ ?_; clear hK K
              refine wpMix_pure (by kernel_rfl) (fun K hK => ?_); go_big_quiet_op; refine hK _ ?_; clear hK K
              refine wpMix_pure (by kernel_rfl) (fun K hK => ?_); go_big_quiet_op; refine hK _ ?_; clear hK K
              refine wpMix_nil ?_
              go_wp2
              go_ret
              exact ⟨ret_bool (by rw [incsB_bad hlt (by rw [incOk_succ hlt]; simp [*])]), hb.trans (hW.trans (hbr2S.mono hW.size) |>.mono hb.size)⟩
      · have HF := Lib.hid (allIdx_full (by omega) hk H0.out)
        go_wp2
        go_ret
        exact ⟨ret_bool (by unfold incsB; rw [HF.out]; simp [hle]), hb⟩
  · go_enter Tryz.func43, Tryz.ntmps43
    go_wp2
    go_ret
    exact ⟨ret_bool (by unfold incsB; simp <;> omega), Below.refl _ _⟩

end Go.Proofs.YtgnbhcgagdfaiaaGreatDoor

namespace Go.Proofs.YtgnbhcgagdfaiaaGreatDoor
open Go.RowKit
set_option linter.unusedVariables false

/-- The one loop over months: it goes on exactly before the month of the day. -/
theorem one_go {y m d t u r : Int} (h : dateOk y m d) (ht0 : 2000 ≤ t) (ht : t ≤ y) (hu0 : 1 ≤ u) (hu1 : u ≤ 12) (hum : t = y → u ≤ m) (hr : r = numD y m d - yB t - cumM t u) : 0 ≤ r ∧ (lenM t u ≤ r ↔ (t < y ∨ u < m)) := by
  have hb := cumM_bounds t hu0 hu1
  have hlz := lenM_zero t
  rcases Int.lt_or_eq_of_le ht with hlt | rfl
  · have h1 := yB_mono hlt
    have h2 := cumM_bounds y h.2.1.1 h.2.1.2
    have e : numD y m d = yB y + cumM y m + d - 1 := rfl
    have h3 := h.2.2.1
    have h4 := lenM_pos t hu0 hu1
    constructor
    · omega
    · constructor
      · intro _; exact .inl hlt
      · intro _; omega
  · have e : numD t m d = yB t + cumM t m + d - 1 := rfl
    have := month_go (t := u) (r := r) h hu0 (hum rfl) (by omega)
    constructor
    · exact this.1
    · rw [this.2]
      constructor
      · intro h; exact .inr h
      · rintro (h | h)
        · omega
        · exact h
theorem two_itoa : ∀ k : Fin 100, (if (k.1 : Int) < 10 then [(48 : UInt8)] else []) ++ Lib.itoa (k.1 : Int) = two (k.1 : Int) := by decide +kernel
theorem two_dec {n : Int} (h0 : 0 ≤ n) (h1 : n < 100) : (if n < 10 then [(48 : UInt8)] else []) ++ Lib.itoa n = two n := by
  have := two_itoa ⟨n.toNat, by omega⟩
  simp only [Int.toNat_of_nonneg h0] at this
  exact this
set_option maxRecDepth 100000 in
set_option maxHeartbeats 4000000 in
theorem l02Date_any (y m d n : Int) (w : World) (h : dateOk y m d) (hn : n = numD y m d) :
    Calls Tryz.prog 86 #[.int .i64 n] w fun e w' => e = .returned (.tuple #[.int .i64 y, .int .i64 m, .int .i64 d]) ∧ Below w.heap.size w w' := by
  have hb0 := numD_bounds h
  have HG := Lib.hid (fun (t u r : Int) h1 h2 h3 h4 h5 h6 => one_go (t := t) (u := u) (r := r) h h1 h2 h3 h4 h5 h6)
  have hyb : Hid (∀ t : Int, yB (t + 1) = yB t + lenM t 0) := yB_step
  have hc12 : Hid (∀ t : Int, cumM t 12 + lenM t 12 = lenM t 0) := fun t => by
    have := leapI_01 t
    simp [cumM, lenM]; omega
  have hcs : Hid (∀ t u : Int, 1 ≤ u → u ≤ 12 → cumM t (u + 1) = cumM t u + lenM t u) := fun t u h1 h2 => cumM_step t h1 h2
  have hlb : Hid (∀ t u : Int, 1 ≤ u → u ≤ 12 → 28 ≤ lenM t u ∧ lenM t u ≤ 31) := fun t u h1 h2 => lenM_pos t h1 h2
  have HD := Lib.hid (show numD y m d = yB y + cumM y m + d - 1 from rfl)
  have HC1 : Hid (∀ t : Int, cumM t 1 = 0) := cumM_one
  have HY0 : Hid (yB 2000 = 0) := rfl
  obtain ⟨⟨hy0, hy1⟩, ⟨hm0, hm1⟩, hd0, hd1⟩ := h
  have hlen := lenM_pos y hm0 hm1
  have HN := Lib.hid hn
  rw [← hn] at hb0
  clear hn
  go_enter Tryz.func86, Tryz.ntmps86
  go_wp2
  go_loopw [0, 5, 6] (fun a b c wr => ∃ r t u : Int, a = .int .i64 r ∧ b = .int .i64 t ∧ c = .int .i64 u ∧ 2000 ≤ t ∧ t ≤ y ∧ 1 ≤ u ∧ u ≤ 12 ∧ (t = y → u ≤ m) ∧ 0 ≤ r ∧ r ≤ 40000 ∧ Hid (r = numD y m d - yB t - cumM t u) ∧ Below w.heap.size w wr) (fun _ b c _ => (12 * (y - intOf b) + (12 - intOf c)).toNat)
  case atStart => exact ⟨n, 2000, 1, rfl, rfl, rfl, by omega, by omega, by omega, by omega, by omega, by omega, by omega, by have := HN.out; have := HC1.out 2000; have := HY0.out; show _ = _; omega, Below.refl _ _⟩
  case round =>
    obtain ⟨r, t, u, rfl, rfl, rfl, ht0, ht1, hu0, hu1, hum, hr0, hr1, HQ, hb⟩ := hrel
    have hg := (HG.out t u r ht0 ht1 hu0 hu1 hum HQ.out).2
    have hl := hlb.out t u hu0 hu1
    by_cases hlt : t < y ∨ u < m
    · have hge : lenM t u ≤ r := hg.2 hlt
      clear hg
      go_wp2_with fail
      refine (l02Length_any t u _ (by omega) hu0 hu1).mono ?_
      rintro e w1 ⟨rfl, hb1⟩
      have hB1 := hb.trans (hb1.mono hb.size)
      go_wp2_with fail
      refine (l02Length_any t u _ (by omega) hu0 hu1).mono ?_
      rintro e w2 ⟨rfl, hb2⟩
      have hB2 := hB1.trans (hb2.mono hB1.size)
      clear hb1 hb2
      by_cases h12 : u = 12
      · subst h12
        have htl : t < y := by omega
        go_wp2
        go_roundw
        case rel => exact ⟨r - lenM t 12, t + 1, 1, by go_num, by go_num, rfl, by omega, by omega, by omega, by omega, by omega, by omega, by omega, by have := HQ.out; have := hyb.out t; have := hc12.out t; have := HC1.out (t + 1); show _ = _; omega, hB2⟩
        case measure => simp [intOf]; omega
      · go_wp2
        go_roundw
        case rel => exact ⟨r - lenM t u, t, u + 1, by go_num, rfl, by go_num, by omega, by omega, by omega, by omega, by omega, by omega, by omega, by have := HQ.out; have := hcs.out t u hu0 hu1; show _ = _; omega, hB2⟩
        case measure => simp [intOf]; omega
    · have hge : ¬ lenM t u ≤ r := fun e => hlt (hg.1 e)
      clear hg
      obtain rfl : t = y := by omega
      obtain rfl : u = m := by have := hum rfl; omega
      obtain rfl : r = d - 1 := by have := HQ.out; have := HD.out; omega
      have e2 : d - 1 + 1 = d := by omega
      have e1 : wrap64 (d - 1 + 1) = d := by unfold wrap64; omega
      go_wp2_with fail
      refine (l02Length_any t u _ (by omega) hu0 hu1).mono ?_
      rintro e w1 ⟨rfl, hb1⟩
      have hB1 := hb.trans (hb1.mono hb.size)
      go_wp2
      go_ret3
      exact ⟨rfl, hB1⟩
set_option maxRecDepth 100000 in
set_option maxHeartbeats 2000000 in
theorem l02Two_any (n : Int) (w : World) (h0 : 0 ≤ n) (h1 : n < 100) :
    Calls Tryz.prog 87 #[.int .i64 n] w fun e w' => e = .returned (.string ⟨(two n).toArray⟩) ∧ Below w.heap.size w w' := by
  have h2 := two_dec h0 h1
  by_cases h : n < 10
  · rw [if_pos h] at h2
    have HX : Hid ((⟨#[48]⟩ : ByteArray) ++ decS n = ⟨(two n).toArray⟩) := by
      show _ = _
      rw [← h2]
      exact ByteArray.mk_append_mk [48] _
    have hsz : (decS n).size ≤ 30 := by rw [decS_size]; have := itoa_len20 (n := n) (by omega) (by omega); omega
    clear h2
    go_enter Tryz.func87, Tryz.ntmps87
    go_wp2_with fail
    refine (l01Dec_any n _ (by omega) (by omega)).mono ?_
    rintro e w1 ⟨rfl, hb⟩
    generalize decS n = t at *
    go_wp2
    go_ret
    exact ⟨ret_str HX.out, hb⟩
  · rw [if_neg h, List.nil_append] at h2
    have HX : Hid (decS n = ⟨(two n).toArray⟩) := by show _ = _; rw [← h2]; rfl
    clear h2
    go_enter Tryz.func87, Tryz.ntmps87
    go_wp2_with fail
    refine (l01Dec_any n _ (by omega) (by omega)).mono ?_
    rintro e w1 ⟨rfl, hb⟩
    generalize decS n = t at *
    go_wp2
    go_ret
    exact ⟨ret_str HX.out, hb⟩
set_option maxRecDepth 100000 in
set_option maxHeartbeats 2000000 in
theorem l02Text_any (y m d n : Int) (w : World) (h : dateOk y m d) (hn : n = numD y m d) :
    Calls Tryz.prog 47 #[.int .i64 n] w fun e w' => e = .returned (.string (dayS y m d)) ∧ Below w.heap.size w w' := by
  have HX := Lib.hid (dayS_cat y m d)
  have hD := fun w => l02Date_any y m d n w h hn
  obtain ⟨⟨hy0, hy1⟩, ⟨hm0, hm1⟩, hd0, hd1⟩ := id h
  have hlen := lenM_pos y hm0 hm1
  have hsz : (decS y).size ≤ 30 := by rw [decS_size]; have := itoa_len20 (n := y) (by omega) (by omega); omega
  clear hn h
  go_enter Tryz.func47, Tryz.ntmps47
  go_wp2_with fail
  refine (hD _).mono ?_
  rintro e w1 ⟨rfl, hb1⟩
  have k1 := two_size m
  have k2 := two_size d
  go_wp2_with fail
  refine (l01Dec_any y _ (by omega) (by omega)).mono ?_
  rintro e w2 ⟨rfl, hb2⟩
  have hB2 := hb1.trans (hb2.mono hb1.size)
  generalize decS y = a at *
  have s1 : (a ++ ⟨#[45]⟩).size ≤ 31 := by rw [ByteArray.size_append]; show _ + 1 ≤ _; omega
  go_wp2_with fail
  refine (l02Two_any m _ (by omega) (by omega)).mono ?_
  rintro e w3 ⟨rfl, hb3⟩
  have hB3 := hB2.trans (hb3.mono hB2.size)
  generalize (⟨(two m).toArray⟩ : ByteArray) = b at *
  have s2 : (a ++ ⟨#[45]⟩ ++ b).size ≤ 33 := by rw [ByteArray.size_append]; omega
  have s3 : (a ++ ⟨#[45]⟩ ++ b ++ ⟨#[45]⟩).size ≤ 34 := by rw [ByteArray.size_append]; show _ + 1 ≤ _; omega
  go_wp2_with fail
  refine (l02Two_any d _ (by omega) (by omega)).mono ?_
  rintro e w4 ⟨rfl, hb4⟩
  have hB4 := hB3.trans (hb4.mono hB3.size)
  generalize (⟨(two d).toArray⟩ : ByteArray) = c at *
  go_wp2
  go_ret
  exact ⟨ret_str HX.out, hB4⟩
end Go.Proofs.YtgnbhcgagdfaiaaGreatDoor
