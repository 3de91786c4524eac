
/- Numbers of bars, drawn. Written by wip/gen/pd.py. -/
import Derived.Test.YtibihiejpieadaaPd
namespace Go.Proofs.Ytibihiejpieadaa
open Go.RowKit
set_option linter.unusedVariables false

/-- Numbers that are drawn: the call's own and few. -/
def IntsD (w w' : World) (v : Value) (xs : List Int) : Prop := ∃ fp, Sl fInt.cod w' v xs fp ∧ (∀ b ∈ fp, w.heap.size ≤ b) ∧ fp.Nodup ∧ xs.length ≤ 201 ∧ (∀ x ∈ xs, -1 ≤ x ∧ x ≤ 1000000000001) ∧ Below w.heap.size w w'
theorem infoIntD : (Try.prog.info? 2).map (fun i => (i.zero, i.size, i.bytes)) = some (some (.int .i64 0), 1, 8) := by kernel_rfl
set_option maxRecDepth 100000 in
set_option maxHeartbeats 8000000 in
theorem DrawBarLines_any (v : Value) (xs : List UInt8) (fp : List Nat) (w : World) (hx : Sl fByte.cod w v xs fp) :
    Calls Try.prog 13 #[v] w fun e w' => ∃ (y : Value) (ys : List Int) (h : Int), e = .returned (.tuple #[y, .int .i64 h]) ∧ (0 ≤ h ∧ h ≤ 101) ∧ IntsD w w' y ys := by
  obtain ⟨i0, hi, hz0, hz1, hz2⟩ := info_parts infoIntD
  have hmk : ∀ (W : World) (k : Nat), k ≤ 1000 → (Instr.makeSlice 32 (.int .i64 (k : Int)) (.int .i64 (k : Int))).run Try.prog W = .ok (.slice (some ⟨W.heap.size, 0, none⟩) k k) (W.alloc (.cells (madeCells #[.int .i64 0] k) 2)) := fun W k hk => by
    have h := run_make_rowN (P := Try.prog) 32 2 i0 _ Try.underlying32 hi hz0 .i64 .i64 k k (Nat.le_refl _) (by rw [hz2]; omega) (by omega) W
    rw [hz1, Nat.mul_one] at h
    exact h
  go_enter Try.func13, Try.ntmps13
  go_wp2_with fail
  refine (l00From_any _ _ _ _ hx).mono ?_
  rintro e w1 ⟨rfl, hs1, hb1⟩
  have hsz := hb1.size
  have hg := hs1.lt
  obtain ⟨g, hG⟩ : ∃ g, g = w.heap.size := ⟨_, rfl⟩
  have hof : ∀ b ∈ [g], w.heap.size ≤ b := by simp [hG]
  simp only [← hG] at hs1 hg ⊢
  clear hG
  have hB0 : Below w1.heap.size w1 (w1.alloc (.cells #[] 2)) := (Below.refl _ _).alloc (Nat.le_refl _) _
  go_wp2_with fail
  refine (pick_any 0 g 8 _ (hs1.below hB0) (by omega) (by omega)).mono ?_
  rintro e w2 ⟨q, rfl, ⟨hq0, hq1, _⟩, hs2, ho2⟩
  have hq2 := hq1 (by omega)
  obtain ⟨m, rfl⟩ : ∃ m : Nat, q = m := ⟨q.toNat, by omega⟩
  have hO2 : Only [g] w1 w2 := Only.later hB0 ho2
  have hown0 : Own fInt w2 w1.heap.size 2 (.slice (some ⟨w1.heap.size, 0, none⟩) 0 0) [] := Own.only (Own.lit0 fInt w1 _) ho2 (fun b hb => by simp at hb; subst hb; exact hg)
  go_wp2
  go_loopw [5, 6] (fun v k wr => ∃ (j : Nat) (L : List Int), k = .int .i64 j ∧ j + L.length ≤ 7 ∧ Own fInt wr w1.heap.size 2 v L ∧ (∀ x ∈ L, -1 ≤ x ∧ x ≤ 1000000000001) ∧ SrcD (0 + 2 + 6 * L.length) g wr ∧ Only [g] w1 wr) (fun _ k _ => (intOf k).toNat)
  case atStart => exact ⟨m, [], rfl, by rw [List.length_nil]; omega, hown0, by simp, hs2, hO2⟩
  case round =>
    obtain ⟨j, L, rfl, hj, ho, hok, hsr, hor⟩ := hrel
    have hgw := hsr.lt
    cases j with
    | zero =>
      go_wp2_with fail
      refine (pick_any _ g 16 _ hsr (by omega) (by omega)).mono ?_
      rintro e w3 ⟨q2, rfl, ⟨hq20, hq21, _⟩, hs3, ho3⟩
      have hq22 := hq21 (by omega)
      have hor2 := hor.trans ho3
      have hsz2 := hor2.size
      have hoW : Own fInt w3 w1.heap.size 2 u5 L := Own.only ho ho3 (fun b hb => by simp at hb; subst hb; exact hg)
      by_cases h0 : q2 = 0
      · subst h0
        have hBL : Below w3.heap.size w3 (w3.alloc (.cells #[.int .i64 (-1), .int .i64 1000000000000, .int .i64 1000000000001] 2)) := (Below.refl _ _).alloc (Nat.le_refl _) _
        go_wp2_with fail
        refine (among_any _ g _ [(-1), 1000000000000, 1000000000001] [w3.heap.size] _ (hs3.below hBL) (by omega) (slLitI w3 2 [(-1), 1000000000000, 1000000000001] _ rfl (by decide) (by decide) (by decide) _ _ rfl rfl) (by have := hs3.lt; simp; omega) (by decide) (by decide)).mono ?_
        rintro e w4 ⟨t, ht, rfl, hs4, ho4⟩
        have hor3 := hor2.trans (Only.later hBL ho4)
        have hoW3 : w4.ownsRow w1.heap.size 2 1 u5 L.length (L.flatMap fInt.enc) := Own.only hoW (Only.later hBL ho4) (fun b hb => by simp at hb; subst hb; exact hg)
        have hsz3 := hor3.size
        have ht2 : -1 ≤ t ∧ t ≤ 1000000000001 := by simp at ht; omega
        clear hoW ho hBL ht
        go_wp2_with (at_builtin; refine wpList_append_one rfl _ _ 32 rfl w1.heap.size 2 i0 (.int .i64 0) 1 8 Try.underlying32 hi hz0 hz1 hz2 rfl (by decide) u5 L.length _ rfl hoW3 [.int .i64 t] rfl (by intro u hu; rw [List.mem_singleton] at hu; subst hu; rfl) rfl (by omega) (by decide) hsz3 ?_)
        intro v' u hown hbu _ _
        have hoD : Own fInt u w1.heap.size 2 v' (L ++ [t]) := Own.push t rfl hown
        clear hown
        have hor4 : Only [g] w1 u := hor3.then hbu
        have hs5 := hs4.belowB hbu hg
        obtain ⟨L2, hL2, hok2, hlen2⟩ : ∃ L2, L2 = L ++ [t] ∧ (∀ x ∈ L2, -1 ≤ x ∧ x ≤ 1000000000001) ∧ L2.length ≤ 201 := ⟨_, rfl, (fun x hx => by
          rcases List.mem_append.1 hx with hx | hx
          · exact hok x hx
          · rw [List.mem_singleton] at hx; subst hx; exact ht2), by rw [List.length_append, List.length_singleton]; omega⟩
        rw [← hL2] at hoD
        clear hL2
        obtain ⟨fq, hsl, hlo, hnd, _⟩ := own_fp hoD (fun x hx => by have := hok2 x hx; show _ ∧ _; omega)
        have hBL : Below u.heap.size u (u.alloc (.cells #[.int .i64 1, .int .i64 10, .int .i64 40, .int .i64 100, .int .i64 101, .int .i64 0] 2)) := (Below.refl _ _).alloc (Nat.le_refl _) _
        go_wp2_with fail
        refine (among_any _ g _ [1, 10, 40, 100, 101, 0] [u.heap.size] _ (hs5.below hBL) (by omega) (slLitI u 2 [1, 10, 40, 100, 101, 0] _ rfl (by decide) (by decide) (by decide) _ _ rfl rfl) (by have := hs5.lt; simp; omega) (by decide) (by decide)).mono ?_
        rintro e w9 ⟨wd, hwd, rfl, hs9, ho9⟩
        have ho9' := Only.later hBL ho9
        have hwd2 : 0 ≤ wd ∧ wd ≤ 101 := by simp at hwd; omega
        obtain ⟨A9, cap9, hA9, _, _⟩ := hsl.form
        subst hA9
        go_wp2
        go_ret2
        exact ⟨_, _, wd, rfl, hwd2, _, hsl.only ho9' (fun b hb => by have := hlo b hb; simp; omega), fun b hb => Nat.le_trans hsz (hlo b hb), hnd, hlen2, hok2, hb1.trans (hor4.trans ho9' |>.below hsz hof)⟩
      · by_cases h1 : q2 = 1
        · subst h1
          have hBL : Below w3.heap.size w3 (w3.alloc (.cells #[.int .i64 200, .int .i64 201] 2)) := (Below.refl _ _).alloc (Nat.le_refl _) _
          go_wp2_with fail
          refine (among_any _ g _ [200, 201] [w3.heap.size] _ (hs3.below hBL) (by omega) (slLitI w3 2 [200, 201] _ rfl (by decide) (by decide) (by decide) _ _ rfl rfl) (by have := hs3.lt; simp; omega) (by decide) (by decide)).mono ?_
          rintro e w4 ⟨t, ht, rfl, hs4, ho4⟩
          have hor3 := hor2.trans (Only.later hBL ho4)
          have hsz3 := hor3.size
          obtain ⟨k, rfl⟩ : ∃ k : Nat, t = k := ⟨t.toNat, by simp at ht; omega⟩
          have hk : 200 ≤ k ∧ k ≤ 201 := by simp at ht; omega
          clear ht hBL
          have hmk1 := hmk w4 k (by omega)
          have hBm : Below w4.heap.size w4 (w4.alloc (.cells (madeCells #[.int .i64 0] k) 2)) := (Below.refl _ _).alloc (Nat.le_refl _) _
          have hsl := sl_madeI w4 2 k (by omega) (by omega)
          obtain ⟨L2, hL2, hok2, hlen2⟩ : ∃ L2 : List Int, List.replicate k 0 = L2 ∧ (∀ x ∈ L2, -1 ≤ x ∧ x ≤ 1000000000001) ∧ L2.length = k := ⟨_, rfl, (fun x hx => by rw [List.eq_of_mem_replicate hx]; decide), List.length_replicate⟩
          rw [hL2] at hsl
          clear hL2
          have hs5 := hs4.below hBm
          have hor4 := hor3.then (hBm.mono hor3.size)
          have hlo : ∀ b ∈ [w4.heap.size], w1.heap.size ≤ b := by simp; exact hsz3
          have hBL : Below (w4.alloc (.cells (madeCells #[.int .i64 0] k) 2)).heap.size (w4.alloc (.cells (madeCells #[.int .i64 0] k) 2)) ((w4.alloc (.cells (madeCells #[.int .i64 0] k) 2)).alloc (.cells #[.int .i64 1, .int .i64 10, .int .i64 40, .int .i64 100, .int .i64 101, .int .i64 0] 2)) := (Below.refl _ _).alloc (Nat.le_refl _) _
          go_wp2_with fail
          refine (among_any _ g _ [1, 10, 40, 100, 101, 0] [w4.heap.size + 1] _ (hs5.below hBL) (by omega) (slLitI (w4.alloc (.cells (madeCells #[.int .i64 0] k) 2)) 2 [1, 10, 40, 100, 101, 0] _ rfl (by decide) (by decide) (by decide) (w4.heap.size + 1) _ (by simp) rfl) (by have := hs4.lt; simp; omega) (by decide) (by decide)).mono ?_
          rintro e w9 ⟨wd, hwd, rfl, hs9, ho9⟩
          have ho9' := Only.later hBL ho9
          have hwd2 : 0 ≤ wd ∧ wd ≤ 101 := by simp at hwd; omega
          subst hlen2
          go_wp2
          go_ret2
          exact ⟨_, _, wd, rfl, hwd2, _, hsl.only ho9' (fun b hb => by have := hlo b hb; simp; omega), fun b hb => Nat.le_trans hsz (hlo b hb), (by simp), (by omega), hok2, hb1.trans (hor4.trans ho9' |>.below hsz hof)⟩
        · have e0 : (q2 == 0) = false := by rw [beq_eq_false_iff_ne]; exact h0
          have e1 : (q2 == 1) = false := by rw [beq_eq_false_iff_ne]; exact h1
          obtain ⟨fq, hsl, hlo, hnd, _⟩ := own_fp hoW (fun x hx => by have := hok x hx; show _ ∧ _; omega)
          clear h0 h1 hoW ho
          have hBL : Below w3.heap.size w3 (w3.alloc (.cells #[.int .i64 1, .int .i64 10, .int .i64 40, .int .i64 100, .int .i64 101, .int .i64 0] 2)) := (Below.refl _ _).alloc (Nat.le_refl _) _
          go_wp2_with fail
          refine (among_any _ g _ [1, 10, 40, 100, 101, 0] [w3.heap.size] _ (hs3.below hBL) (by omega) (slLitI w3 2 [1, 10, 40, 100, 101, 0] _ rfl (by decide) (by decide) (by decide) _ _ rfl rfl) (by have := hs3.lt; simp; omega) (by decide) (by decide)).mono ?_
          rintro e w9 ⟨wd, hwd, rfl, hs9, ho9⟩
          have ho9' := Only.later hBL ho9
          have hwd2 : 0 ≤ wd ∧ wd ≤ 101 := by simp at hwd; omega
          obtain ⟨A9, cap9, hA9, _, _⟩ := hsl.form
          subst hA9
          go_wp2
          go_ret2
          exact ⟨_, _, wd, rfl, hwd2, _, hsl.only ho9' (fun b hb => by have := hlo b hb; simp; omega), fun b hb => Nat.le_trans hsz (hlo b hb), hnd, (by omega), hok, hb1.trans (hor2.trans ho9' |>.below hsz hof)⟩
    | succ j =>
      have hBL : Below wr.heap.size wr (wr.alloc (.cells #[.int .i64 0, .int .i64 1, .int .i64 5, .int .i64 20, .int .i64 77, .int .i64 1000] 2)) := (Below.refl _ _).alloc (Nat.le_refl _) _
      go_wp2_with fail
      refine (among_any _ g _ [0, 1, 5, 20, 77, 1000] [wr.heap.size] _ (hsr.below hBL) (by omega) (slLitI wr 2 [0, 1, 5, 20, 77, 1000] _ rfl (by decide) (by decide) (by decide) _ _ rfl rfl) (by have := hsr.lt; simp; omega) (by decide) (by decide)).mono ?_
      rintro e w3 ⟨t, ht, rfl, hs3, ho3⟩
      have hor3 := hor.trans (Only.later hBL ho3)
      have hsz2 := hor3.size
      have ht2 : -1 ≤ t ∧ t ≤ 1000000000001 := by simp at ht; omega
      have hoW : w3.ownsRow w1.heap.size 2 1 u5 L.length (L.flatMap fInt.enc) := Own.only ho (Only.later hBL ho3) (fun b hb => by simp at hb; subst hb; exact hg)
      clear ho hBL ht
      go_wp2_with (at_builtin; refine wpList_append_one rfl _ _ 32 rfl w1.heap.size 2 i0 (.int .i64 0) 1 8 Try.underlying32 hi hz0 hz1 hz2 rfl (by decide) u5 L.length _ rfl hoW [.int .i64 t] rfl (by intro u hu; rw [List.mem_singleton] at hu; subst hu; rfl) rfl (by omega) (by decide) hsz2 ?_)
      intro v' u hown hbu _ _
      have hoD : Own fInt u w1.heap.size 2 v' (L ++ [t]) := Own.push t rfl hown
      clear hown
      have hor5 : Only [g] w1 u := hor3.then hbu
      have hs5 := hs3.belowB hbu hg
      go_wp2
      go_roundw
      case rel => exact ⟨j, L ++ [t], by go_num, by rw [List.length_append, List.length_singleton]; omega, hoD, fun x hx => by
          rcases List.mem_append.1 hx with hx | hx
          · exact hok x hx
          · rw [List.mem_singleton] at hx; subst hx; exact ht2, hs5.mono (by rw [List.length_append, List.length_singleton]; omega), hor5⟩
      case measure => simp [intOf]

end Go.Proofs.Ytibihiejpieadaa
