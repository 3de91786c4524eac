/- Parts of the proof: Sj, Cq, Cv, Ci, Nest, Ra, Pg, Pgi, Ss, Sy, Sz, TGroup, PGroup. -/
import Derived.Test.YtphljobklilbdaaGreatDoorG02
import Derived.Test.YtphljobklilbdaaGreatDoorG01
import Derived.Deep.CutRange
import Derived.Deep.AppendLies
namespace Go.Proofs.YtphljobklilbdaaGreatDoor
open Go.RowKit
set_option linter.unusedVariables false
set_option linter.unusedSimpArgs false

def poC (x : DStand) (snow : Int) : Int := if standB x = false then 1 else if inB snow 0 2000 = false then 2 else 0
def poV (x : DStand) (snow : Int) : Int := if poC x snow = 0 then protF x snow else 0
theorem po_bad {x : DStand} {snow c : Int} (hc : poC x snow = c) (h0 : c ≠ 0) : Hid (poC x snow = c ∧ poV x snow = 0) := ⟨hc, by unfold poV; rw [if_neg (by rw [hc]; exact h0)]⟩
theorem po_ok {x : DStand} {snow : Int} (hv : standB x = true) (hs : inB snow 0 2000 = true) : poC x snow = 0 ∧ poV x snow = protF x snow := by
  have h : poC x snow = 0 := by unfold poC; rw [hv, hs]; rfl
  exact ⟨h, by unfold poV; rw [if_pos h]⟩
theorem po_zero {x : DStand} {snow : Int} (h : poC x snow = 0) : standB x = true ∧ inB snow 0 2000 = true := by
  unfold poC at h
  cases h1 : standB x <;> cases h2 : inB snow 0 2000 <;> simp [h1, h2] at h
  exact ⟨rfl, rfl⟩
set_option maxRecDepth 100000 in
set_option maxHeartbeats 2000000 in
theorem implProtectionOf_any (x : DStand) (snow : Int) (w : World) (hok : fStand.ok x) :
    Calls Tryz.prog 8 #[.agg #[.string x.id, .int .i64 x.trees, .int .i64 x.height, .int .i64 x.cover, .int .i64 x.gap], .int .i64 snow] w fun e w' => e = .returned (.tuple #[.int .i64 (poV x snow), .int .i64 (poC x snow)]) ∧ Below w.heap.size w w' := by
  have hB0 : Below w.heap.size w (w.alloc (.cells #[.string x.id, .int .i64 x.trees, .int .i64 x.height, .int .i64 x.cover, .int .i64 x.gap] 25)) := (Below.refl _ _).alloc (Nat.le_refl _) _
  have hp := PStand.box w x 25
  obtain ⟨c0, c1, c2, c3, c4⟩ := id hp
  go_enter Tryz.func8, Tryz.ntmps8
  go_wp2_with fail
  refine (validStand_any x _ hok).mono ?_
  rintro e w1 ⟨rfl, hbN⟩
  have hp1 := hp.below' hbN
  have hB1 := hB0.trans (hbN.mono hB0.size)
  clear hp hB0 hbN c0 c1 c2 c3 c4
  cases hv : standB x
  · have HE := po_bad (show poC x snow = 1 by unfold poC; rw [hv]; rfl) (by decide)
    go_wp2
    go_ret2
    exact ⟨by rw [HE.out.1, HE.out.2]; rfl, hB1⟩
  go_wp2_with fail
  refine (withinB_any _ _ _ _).mono ?_
  rintro e w' ⟨rfl, rfl⟩
  cases hr : inB snow 0 2000
  · have HE := po_bad (show poC x snow = 2 by unfold poC; rw [hv, hr]; rfl) (by decide)
    go_wp2
    go_ret2
    exact ⟨by rw [HE.out.1, HE.out.2]; rfl, hB1⟩
  have HE := Lib.hid (po_ok hv hr)
  have hsn := inB_true.1 hr
  obtain ⟨c0, c1, c2, c3, c4⟩ := id hp1
  go_wp2_with fail
  refine (protection_any x snow _ hv hsn).mono ?_
  rintro e w2 ⟨rfl, hbN⟩
  go_wp2
  go_ret2
  exact ⟨by rw [HE.out.1, HE.out.2]; rfl, hB1.trans (hbN.mono hB1.size)⟩
set_option maxRecDepth 100000 in
set_option maxHeartbeats 2000000 in
theorem specProtectionOf_any (x : DStand) (snow : Int) (w : World) (hok : fStand.ok x) :
    Calls Tryz.prog 15 #[.agg #[.string x.id, .int .i64 x.trees, .int .i64 x.height, .int .i64 x.cover, .int .i64 x.gap], .int .i64 snow] w fun e w' => e = .returned (.tuple #[.int .i64 (poV x snow), .int .i64 (poC x snow)]) ∧ Below w.heap.size w w' := by
  have hB0 : Below w.heap.size w (w.alloc (.cells #[.string x.id, .int .i64 x.trees, .int .i64 x.height, .int .i64 x.cover, .int .i64 x.gap] 25)) := (Below.refl _ _).alloc (Nat.le_refl _) _
  have hp := PStand.box w x 25
  go_enter Tryz.func15, Tryz.ntmps15
  go_wp2_with fail
  refine (l10One_any _ 0 x _ hp hok).mono ?_
  rintro e w1 ⟨rfl, hbN⟩
  have hp1 := hp.below' hbN
  have hB1 := hB0.trans (hbN.mono hB0.size)
  clear hp hB0 hbN
  cases hv : standB x
  · have HE := po_bad (show poC x snow = 1 by unfold poC; rw [hv]; rfl) (by decide)
    go_wp2
    go_ret2
    exact ⟨by rw [HE.out.1, HE.out.2]; rfl, hB1⟩
  go_wp2_with fail
  refine (l10Snow_any _ _).mono ?_
  rintro e w' ⟨rfl, rfl⟩
  cases hr : inB snow 0 2000
  · have HE := po_bad (show poC x snow = 2 by unfold poC; rw [hv, hr]; rfl) (by decide)
    go_wp2
    go_ret2
    exact ⟨by rw [HE.out.1, HE.out.2]; rfl, hB1⟩
  have HE := Lib.hid (po_ok hv hr)
  have hsn := inB_true.1 hr
  go_wp2_with fail
  refine (l10Protection_any _ 0 x snow _ hp1 hv hsn).mono ?_
  rintro e w2 ⟨rfl, hbN⟩
  go_wp2
  go_ret2
  exact ⟨by rw [HE.out.1, HE.out.2]; rfl, hB1.trans (hbN.mono hB1.size)⟩
def fellC (x : DStand) (n : Int) : Int := if standB x = false then 1 else if inB n 0 2000 = false then 2 else if x.trees < n then 6 else 0
def fellV (x : DStand) (n : Int) : DStand := if fellC x n = 0 then felledF x n else ⟨⟨#[]⟩, 0, 0, 0, 0⟩
theorem fell_bad {x : DStand} {n c : Int} (hc : fellC x n = c) (h0 : c ≠ 0) : Hid (fellC x n = c ∧ fellV x n = ⟨⟨#[]⟩, 0, 0, 0, 0⟩) := ⟨hc, by unfold fellV; rw [if_neg (by rw [hc]; exact h0)]⟩
theorem fell_zero {x : DStand} {n : Int} (h : fellC x n = 0) : standB x = true ∧ 0 ≤ n ∧ n ≤ x.trees := by
  unfold fellC at h
  cases h1 : standB x <;> cases h2 : inB n 0 2000 <;> simp [h1, h2] at h
  exact ⟨rfl, (inB_true.1 h2).1, h⟩
set_option maxRecDepth 100000 in
set_option maxHeartbeats 4000000 in
theorem FellTrees_any (x : DStand) (n : Int) (w : World) (hok : fStand.ok x) :
    Calls Tryz.prog 7 #[.agg #[.string x.id, .int .i64 x.trees, .int .i64 x.height, .int .i64 x.cover, .int .i64 x.gap], .int .i64 n] w fun e w' => e = .returned (.tuple #[agStand (fellV x n), .int .i64 (fellC x n)]) ∧ Below w.heap.size w w' := by
  have hB0 : Below w.heap.size w ((w.alloc (.cells #[.string x.id, .int .i64 x.trees, .int .i64 x.height, .int .i64 x.cover, .int .i64 x.gap] 25)).alloc (.cells #[.string ⟨#[]⟩, .int .i64 0, .int .i64 0, .int .i64 0, .int .i64 0] 25)) := ((Below.refl _ _).alloc (Nat.le_refl _) _).alloc (by simp) _
  have hp : PStand ((w.alloc (.cells #[.string x.id, .int .i64 x.trees, .int .i64 x.height, .int .i64 x.cover, .int .i64 x.gap] 25)).alloc (.cells #[.string ⟨#[]⟩, .int .i64 0, .int .i64 0, .int .i64 0, .int .i64 0] 25)) w.heap.size 0 x := (PStand.box w x 25).below ((Below.refl (w.heap.size + 1) _).alloc (by simp) _) (Nat.lt_succ_self _)
  have hbx : BxStand ((w.alloc (.cells #[.string x.id, .int .i64 x.trees, .int .i64 x.height, .int .i64 x.cover, .int .i64 x.gap] 25)).alloc (.cells #[.string ⟨#[]⟩, .int .i64 0, .int .i64 0, .int .i64 0, .int .i64 0] 25)) (w.heap.size + 1) := by
    have h := BxStand.new (w.alloc (.cells #[.string x.id, .int .i64 x.trees, .int .i64 x.height, .int .i64 x.cover, .int .i64 x.gap] 25)) 25
    rw [World.size_alloc] at h; exact h
  have hrr : w.heap.size ≤ w.heap.size + 1 := by omega
  obtain ⟨c0, c1, c2, c3, c4⟩ := id hp
  go_enter Tryz.func7, Tryz.ntmps7
  go_wp2_with fail
  refine (validStand_any x _ hok).mono ?_
  rintro e w1 ⟨rfl, hbN⟩
  have hp1 := hp.below' hbN
  replace hbx := hbx.belowB hbN hbx.lt
  have hB1 := hB0.trans (hbN.mono hB0.size)
  clear hp hB0 hbN c0 c1 c2 c3 c4
  cases hv : standB x
  · have HE := fell_bad (show fellC x n = 1 by unfold fellC; rw [hv]; rfl) (by decide)
    obtain ⟨d0, d1, d2, d3, d4, z0, z1, z2, z3, z4⟩ := hbx
    go_wp2
    exact bodyPost_ret (v := .tuple #[.agg #[.string ⟨#[]⟩, .int .i64 0, .int .i64 0, .int .i64 0, .int .i64 0], .int .i64 1]) (by simp [results, hit_cellX, d0, d1, d2, d3, d4, Tryz.results7, go_sem]) rfl ⟨by rw [HE.out.1, HE.out.2]; rfl, by (repeat (refine Below.setCell ?_ hrr _)); exact hB1⟩
  go_wp2_with fail
  refine (withinB_any _ _ _ _).mono ?_
  rintro e w' ⟨rfl, rfl⟩
  cases hr : inB n 0 2000
  · have HE := fell_bad (show fellC x n = 2 by unfold fellC; rw [hv, hr]; rfl) (by decide)
    obtain ⟨d0, d1, d2, d3, d4, z0, z1, z2, z3, z4⟩ := hbx
    go_wp2
    exact bodyPost_ret (v := .tuple #[.agg #[.string ⟨#[]⟩, .int .i64 0, .int .i64 0, .int .i64 0, .int .i64 0], .int .i64 2]) (by simp [results, hit_cellX, d0, d1, d2, d3, d4, Tryz.results7, go_sem]) rfl ⟨by rw [HE.out.1, HE.out.2]; rfl, by (repeat (refine Below.setCell ?_ hrr _)); exact hB1⟩
  obtain ⟨c0, c1, c2, c3, c4⟩ := id hp1
  by_cases hn : x.trees < n
  · have HE := fell_bad (show fellC x n = 6 by unfold fellC; rw [hv, hr, if_pos hn]; rfl) (by decide)
    clear hr hv
    obtain ⟨d0, d1, d2, d3, d4, z0, z1, z2, z3, z4⟩ := hbx
    go_wp2
    exact bodyPost_ret (v := .tuple #[.agg #[.string ⟨#[]⟩, .int .i64 0, .int .i64 0, .int .i64 0, .int .i64 0], .int .i64 6]) (by simp [results, hit_cellX, d0, d1, d2, d3, d4, Tryz.results7, go_sem]) rfl ⟨by rw [HE.out.1, HE.out.2]; rfl, by (repeat (refine Below.setCell ?_ hrr _)); exact hB1⟩
  have hC : fellC x n = 0 := by unfold fellC; rw [hv, hr, if_neg hn]; rfl
  have HE := Lib.hid (show fellC x n = 0 ∧ fellV x n = felledF x n from ⟨hC, by unfold fellV; rw [if_pos hC]⟩)
  have hn2 : 0 ≤ n ∧ n ≤ x.trees := by have := inB_true.1 hr; omega
  clear hC
  go_wp2_with fail
  refine (felled_any x n _ hv hn2).mono ?_
  rintro e w2 ⟨rfl, hbN⟩
  replace hbx := hbx.belowB hbN hbx.lt
  replace hB1 := hB1.trans (hbN.mono hB1.size)
  clear hbN hp1 hr hv c0 c1 c2 c3 c4
  generalize felledF x n = y at *
  unfold agStand
  obtain ⟨d0, d1, d2, d3, d4, z0, z1, z2, z3, z4⟩ := hbx
  go_wp2
  exact bodyPost_ret (v := .tuple #[.agg #[.string y.id, .int .i64 y.trees, .int .i64 y.height, .int .i64 y.cover, .int .i64 y.gap], .int .i64 0]) (by simp [results, hit_cellX, d0, d1, d2, d3, d4, Tryz.results7, go_sem]) rfl ⟨by rw [HE.out.1, HE.out.2]; rfl, by (repeat (refine Below.setCell ?_ hrr _)); exact hB1⟩
def mfC (x : DStand) (snow least : Int) : Int := if standB x = false then 1 else if protokB snow least = false then 2 else if protF x snow < least then 3 else 0
def mfV (x : DStand) (snow least : Int) : Int := if mfC x snow least = 0 then ((mostTo x snow least x.trees.toNat : Nat) : Int) else 0
theorem mf_bad {x : DStand} {snow least c : Int} (hc : mfC x snow least = c) (h0 : c ≠ 0) : Hid (mfC x snow least = c ∧ mfV x snow least = 0) := ⟨hc, by unfold mfV; rw [if_neg (by rw [hc]; exact h0)]⟩
theorem mf_zero {x : DStand} {snow least : Int} (h : mfC x snow least = 0) : standB x = true ∧ inB snow 0 2000 = true ∧ inB least 0 1000 = true ∧ least ≤ protF x snow := by
  unfold mfC protokB at h
  cases h1 : standB x <;> cases h2 : inB snow 0 2000 <;> cases h3 : inB least 0 1000 <;> simp [h1, h2, h3] at h
  exact ⟨rfl, rfl, rfl, h⟩
set_option maxRecDepth 100000 in
set_option maxHeartbeats 4000000 in
theorem MostFelled_any (x : DStand) (snow least : Int) (w : World) (hok : fStand.ok x) :
    Calls Tryz.prog 6 #[.agg #[.string x.id, .int .i64 x.trees, .int .i64 x.height, .int .i64 x.cover, .int .i64 x.gap], .int .i64 snow, .int .i64 least] w fun e w' => e = .returned (.tuple #[.int .i64 (mfV x snow least), .int .i64 (mfC x snow least)]) ∧ Below w.heap.size w w' := by
  have hB0 : Below w.heap.size w (w.alloc (.cells #[.string x.id, .int .i64 x.trees, .int .i64 x.height, .int .i64 x.cover, .int .i64 x.gap] 25)) := (Below.refl _ _).alloc (Nat.le_refl _) _
  have hp := PStand.box w x 25
  obtain ⟨c0, c1, c2, c3, c4⟩ := id hp
  go_enter Tryz.func6, Tryz.ntmps6
  go_wp2_with fail
  refine (validStand_any x _ hok).mono ?_
  rintro e w1 ⟨rfl, hbN⟩
  have hp1 := hp.below' hbN
  have hB1 := hB0.trans (hbN.mono hB0.size)
  clear hp hB0 hbN c0 c1 c2 c3 c4
  cases hv : standB x
  · have HE := mf_bad (show mfC x snow least = 1 by unfold mfC; rw [hv]; rfl) (by decide)
    go_wp2
    go_ret2
    exact ⟨by rw [HE.out.1, HE.out.2]; rfl, hB1⟩
  go_wp2_with fail
  refine (protectOk_any _ _ _).mono ?_
  rintro e w' ⟨rfl, rfl⟩
  cases hr : protokB snow least
  · have HE := mf_bad (show mfC x snow least = 2 by unfold mfC; rw [hv, hr]; rfl) (by decide)
    go_wp2
    go_ret2
    exact ⟨by rw [HE.out.1, HE.out.2]; rfl, hB1⟩
  have hsn : 0 ≤ snow ∧ snow ≤ 2000 := by
    have h := hr
    unfold protokB at h
    rw [Bool.and_eq_true] at h
    exact inB_true.1 h.1
  obtain ⟨c0, c1, c2, c3, c4⟩ := id hp1
  go_wp2_with fail
  refine (protection_any x snow _ hv hsn).mono ?_
  rintro e w2 ⟨rfl, hbN⟩
  have hp2 := hp1.below' hbN
  have hB2 := hB1.trans (hbN.mono hB1.size)
  clear hp1 hbN hB1 c0 c1 c2 c3 c4
  by_cases hl : protF x snow < least
  · have HE := mf_bad (show mfC x snow least = 3 by unfold mfC; rw [hv, hr, if_pos hl]; rfl) (by decide)
    go_wp2
    go_ret2
    exact ⟨by rw [HE.out.1, HE.out.2]; rfl, hB2⟩
  have hC : mfC x snow least = 0 := by unfold mfC; rw [hv, hr, if_neg hl]; rfl
  have hl2 : least ≤ protF x snow := by omega
  have HE := Lib.hid (show mfC x snow least = 0 ∧ mfV x snow least = ((mostTo x snow least x.trees.toNat : Nat) : Int) from ⟨hC, by unfold mfV; rw [if_pos hC]⟩)
  obtain ⟨_, htr, _, _, _⟩ := standB_bounds hv
  obtain ⟨t, ht⟩ : ∃ t : Nat, x.trees = t := ⟨x.trees.toNat, by omega⟩
  have HT : Hid (mostTo x snow least x.trees.toNat = mostTo x snow least t) := by show _ = _; rw [ht]; rfl
  have HT2 := Lib.hid ht
  obtain ⟨c0, c1, c2, c3, c4⟩ := id hp2
  rw [ht] at c1
  generalize protF x snow = pf at *
  clear hC hr ht
  go_wp2
  clear c0 c1 c2 c3 c4
  go_loopw [8] (fun v wr => ∃ k : Nat, v = .int .i64 k ∧ k ≤ t ∧ Hid (mostTo x snow least t = mostTo x snow least k) ∧ Below w2.heap.size w2 wr) (fun v _ => (intOf v).toNat)
  case atStart => exact ⟨t, rfl, Nat.le_refl _, rfl, Below.refl _ _⟩
  case round =>
    obtain ⟨k, rfl, hk, HK, hb⟩ := hrel
    cases k with
    | zero =>
      have hB9 := hB2.trans (hb.mono hB2.size)
      have HZ : Hid (mostTo x snow least t = 0) := HK
      go_wp2
      go_ret2
      exact ⟨by rw [HE.out.1, HE.out.2, HT.out, HZ.out]; rfl, hB9⟩
    | succ k =>
      have hp3 := hp2.below' hb
      have hn : 0 ≤ ((k + 1 : Nat) : Int) ∧ ((k + 1 : Nat) : Int) ≤ x.trees := by have := HT2.out; omega
      have hfv := felled_ok hv hn
      obtain ⟨c0, c1, c2, c3, c4⟩ := id hp3
      have hk0 : (0 : Int) < ((k + 1 : Nat) : Int) := by omega
      have HS : Hid (mostTo x snow least (k + 1) = if least ≤ protF (felledF x ((k + 1 : Nat) : Int)) snow then k + 1 else mostTo x snow least k) := rfl
      generalize hq : ((k + 1 : Nat) : Int) = q at *
      go_wp2_with fail
      refine (felled_any x q _ hv hn).mono ?_
      rintro e w4 ⟨rfl, hb4⟩
      generalize felledF x q = y at *
      unfold agStand
      go_wp2_with fail
      refine (protection_any y snow _ hfv hsn).mono ?_
      rintro e w5 ⟨rfl, hb5⟩
      have hb9 := hb.trans ((hb4.trans (hb5.mono hb4.size)).mono hb.size)
      by_cases hl : protF y snow < least
      · have HK2 : Hid (mostTo x snow least t = mostTo x snow least k) := by
          show _ = _
          rw [HK.out, HS.out, if_neg (by omega)]
        have HQ := Lib.hid hq
        clear hq HS HK c0 c1 c2 c3 c4 hp3 hb hb4 hb5 hfv
        generalize protF y snow = pf2 at *
        go_wp2
        go_roundw
        case rel => exact ⟨k, by have h9 := HQ.out; rw [show q - 1 = (k : Int) by omega], by omega, HK2, hb9⟩
        case measure => simp [intOf]; omega
      · have HK2 : Hid (mostTo x snow least t = k + 1) := by
          show _ = _
          rw [HK.out, HS.out, if_pos (by omega)]
        have hB9 := hB2.trans (hb9.mono hB2.size)
        have HQ := Lib.hid hq
        clear hq HS HK c0 c1 c2 c3 c4 hp3 hb hb4 hb5 hfv
        generalize protF y snow = pf2 at *
        go_wp2
        go_ret2
        exact ⟨by rw [HE.out.1, HE.out.2, HT.out, HK2.out, HQ.out]; rfl, hB9⟩
theorem std_getD {xs : List DStand} {i : Nat} (h : i < xs.length) : xs.getD i ⟨⟨#[]⟩, 0, 0, 0, 0⟩ = xs[i] := by rw [List.getD_eq_getElem?_getD, List.getElem?_eq_getElem h]; rfl
def wkC (xs : List DStand) (snow : Int) : Int := if standsB xs = false then 1 else if protokB snow 0 = false then 2 else if xs.length = 0 then 3 else 0
def wkI (xs : List DStand) (snow : Int) : Nat := if wkC xs snow = 0 then weakS xs snow xs.length else 0
def wkV (xs : List DStand) (snow : Int) : Int := if wkC xs snow = 0 then protF (xs.getD (weakS xs snow xs.length) ⟨⟨#[]⟩, 0, 0, 0, 0⟩) snow else 0
theorem wk_bad {xs : List DStand} {snow c : Int} (hc : wkC xs snow = c) (h0 : c ≠ 0) : Hid (wkC xs snow = c ∧ wkI xs snow = 0 ∧ wkV xs snow = 0) := ⟨hc, by unfold wkI; rw [if_neg (by rw [hc]; exact h0)], by unfold wkV; rw [if_neg (by rw [hc]; exact h0)]⟩
theorem wk_zero {xs : List DStand} {snow : Int} (h : wkC xs snow = 0) : standsB xs = true ∧ inB snow 0 2000 = true ∧ 0 < xs.length := by
  unfold wkC protokB at h
  cases h1 : standsB xs <;> cases h2 : inB snow 0 2000 <;> simp [h1, h2] at h
  refine ⟨rfl, rfl, ?_⟩
  rcases Nat.eq_zero_or_pos xs.length with h3 | h3
  · rw [List.length_eq_zero_iff] at h3; subst h3; exfalso; revert h; simp; split <;> simp
  · exact h3
set_option maxRecDepth 100000 in
set_option maxHeartbeats 8000000 in
theorem WeakestStand_any (v : Value) (xs : List DStand) (fp : List Nat) (snow : Int) (w : World) (hx : Sl fStand.cod w v xs fp) :
    Calls Tryz.prog 14 #[v, .int .i64 snow] w fun e w' => e = .returned (.tuple #[.int .i64 (wkI xs snow : Nat), .int .i64 (wkV xs snow), .int .i64 (wkC xs snow)]) ∧ Below w.heap.size w w' := by
  obtain ⟨A, cap, rfl, hlen, hcap⟩ := hx.form
  go_enter Tryz.func14, Tryz.ntmps14
  go_wp2_with fail
  refine (ValidStands_any _ xs fp _ hx).mono ?_
  rintro e w1 ⟨rfl, hb1⟩
  have hx1 := hx.below' hb1
  have hB1 := hb1.size
  clear hx
  cases hv : standsB xs
  · have HE := wk_bad (show wkC xs snow = 1 by unfold wkC; rw [hv]; rfl) (by decide)
    go_wp2
    go_ret3
    exact ⟨by rw [HE.out.1, HE.out.2.1, HE.out.2.2]; rfl, hb1⟩
  have hl := standsB_len hv
  go_wp2_with fail
  refine (protectOk_any _ _ _).mono ?_
  rintro e w' ⟨rfl, rfl⟩
  cases hr : protokB snow 0
  · have HE := wk_bad (show wkC xs snow = 2 by unfold wkC; rw [hv, hr]; rfl) (by decide)
    go_wp2
    go_ret3
    exact ⟨by rw [HE.out.1, HE.out.2.1, HE.out.2.2]; rfl, hb1⟩
  have hsn : 0 ≤ snow ∧ snow ≤ 2000 := by
    have h := hr
    unfold protokB at h
    rw [Bool.and_eq_true] at h
    exact inB_true.1 h.1
  rcases Nat.eq_zero_or_pos xs.length with h0 | h0
  · have HE := wk_bad (show wkC xs snow = 3 by unfold wkC; rw [hv, hr, if_pos h0]; rfl) (by decide)
    have e0 : ((xs.length : Int) == 0) = true := by rw [beq_iff_eq]; omega
    clear h0 hr hv
    go_wp2
    go_ret3
    exact ⟨by rw [HE.out.1, HE.out.2.1, HE.out.2.2]; rfl, hb1⟩
  have e0 : ((xs.length : Int) == 0) = false := by rw [beq_eq_false_iff_ne]; omega
  have hC : wkC xs snow = 0 := by unfold wkC; rw [if_neg (by rw [hv]; decide), if_neg (by rw [hr]; decide), if_neg (by omega)]
  have HE := Lib.hid (show wkC xs snow = 0 ∧ wkI xs snow = weakS xs snow xs.length ∧ wkV xs snow = protF (xs.getD (weakS xs snow xs.length) ⟨⟨#[]⟩, 0, 0, 0, 0⟩) snow from ⟨hC, by unfold wkI; rw [if_pos hC], by unfold wkV; rw [if_pos hC]⟩)
  clear hC hr
  go_wp2
  go_loopw [7, 24] (fun a b wr => ∃ k : Nat, a = .int .i64 (weakS xs snow k : Nat) ∧ b = .int .i64 k ∧ k ≤ xs.length ∧ Below w1.heap.size w1 wr) (fun _ b _ => xs.length - (intOf b).toNat)
  case atStart => exact ⟨0, rfl, rfl, Nat.zero_le _, Below.refl _ _⟩
  case round =>
    obtain ⟨k, rfl, rfl, hk, hb⟩ := hrel
    rename World => wr
    have hwl : weakS xs snow k < xs.length := by have := weakS_lt xs snow k; omega
    by_cases hlt : k < xs.length
    · have hlt9 : (k : Int) < (xs.length : Int) := by omega
      have hwl9 : ((weakS xs snow k : Nat) : Int) < (xs.length : Int) := by omega
      have hvk := standsB_one hv hlt
      have hvw := standsB_one hv hwl
      have HW := Lib.hid (show weakS xs snow (k + 1) = if protF xs[k] snow < protF xs[weakS xs snow k] snow then k else weakS xs snow k by rw [weakS, std_getD hlt, std_getD hwl])
      have HWk0 : weakS xs snow k = weakS xs snow k := rfl
      obtain ⟨bb, off, rfl, _, _, hp⟩ := PStand.elem (hx1.below' hb) hlt
      generalize xs[k] = y at *
      obtain ⟨c0, c1, c2, c3, c4⟩ := id hp
      have hbox := PStand.box wr y 25
      have hbA : Below wr.heap.size wr (wr.alloc (.cells #[.string y.id, .int .i64 y.trees, .int .i64 y.height, .int .i64 y.cover, .int .i64 y.gap] 25)) := (Below.refl _ _).alloc (Nat.le_refl _) _
      go_upto_region 11 with fail
      refine at_world (fun W => PStand W wr.heap.size 0 y ∧ Below w1.heap.size w1 W) ⟨hbox, hb.trans (hbA.mono hb.size)⟩ ?_
      clear hbox hbA hp c0 c1 c2 c3 c4 hb
      rintro W ⟨hpy, hbo⟩
      generalize wr.heap.size = yb at *
      obtain ⟨b2, o2, hA2, _, _, hpz⟩ := PStand.elem (hx1.below' hbo) hwl
      injection hA2 with hA2
      injection hA2 with e1 e2 _
      subst e1 e2
      generalize hz : xs[weakS xs snow k] = z at *
      clear hz
      obtain ⟨m, hm⟩ : ∃ m, m = weakS xs snow k := ⟨_, rfl⟩
      have HWk := Lib.hid hm
      rw [← hm] at hwl hwl9 hpz ⊢
      clear hm HWk0
      obtain ⟨cc0, cc1, cc2, cc3, cc4⟩ := id hpy
      obtain ⟨cd0, cd1, cd2, cd3, cd4⟩ := id hpz
      clear hpy hpz
      have gcc0 := cell_regrown cc0
      have gcc1 := cell_regrown cc1
      have gcc2 := cell_regrown cc2
      have gcc3 := cell_regrown cc3
      have gcc4 := cell_regrown cc4
      have gcd0 := cell_regrown cd0
      have gcd1 := cell_regrown cd1
      have gcd2 := cell_regrown cd2
      have gcd3 := cell_regrown cd3
      have gcd4 := cell_regrown cd4
      refine wp_region_mixed [0, 1, 3, 4, 5, 6, 7, 2, 8, 9] (C := fun w' => ∃ p : Regrown, w' = Go.Sort.grow (redrawn W p.d) p.os) [true, true, true, true, true, true, true, false, false, true] (by kernel_rfl) (by kernel_rfl) (by kernel_rfl) (fun _ _ d _ _ h => by cases d <;> exact h) (regrown_of_below (Below.drew (Below.refl _ _))) ?_
      simp only [List.map_cons, List.map_nil, List.getD_cons_zero, List.getD_cons_succ]
      have hS0 : Below (W.heap.size) W W.drew := Below.drew (Below.refl _ _)
      refine wpMix_pure (by kernel_rfl) (fun K hK => ?_); go_big_quiet_op; refine hK _ ?_; clear hK K
      refine wpMix_pure (by kernel_rfl) (fun K hK => ?_); go_big_quiet_op; refine hK _ ?_; clear hK K
      refine wpMix_pure (by kernel_rfl) (fun K hK => ?_); go_big_quiet_op; refine hK _ ?_; clear hK K
      refine wpMix_pure (by kernel_rfl) (fun K hK => ?_); go_big_quiet_op; refine hK _ ?_; clear hK K
      refine wpMix_pure (by kernel_rfl) (fun K hK => ?_); go_big_quiet_op; refine hK _ ?_; clear hK K
      refine wpMix_pure (by kernel_rfl) (fun K hK => ?_); go_big_quiet_op; refine hK _ ?_; clear hK K
      refine wpMix_pure (by kernel_rfl) (fun K hK => ?_); go_big_quiet_op; refine hK _ ?_; clear hK K
      refine wpMix_act (by kernel_rfl) (fun K hK => ?_)
      go_big_op
      refine (protection_any y snow _ hvk hsn).mono ?_
      rintro e wr1 ⟨rfl, hbr1⟩
      have hbr1S : Below (W.heap.size) W wr1 := hS0.trans (hbr1.mono hS0.size)
      refine hK _ _ (regrown_of_below hbr1S) ?_
      clear hK K
      refine wpMix_act (by kernel_rfl) (fun K hK => ?_)
      go_big_op
      refine (protection_any z snow _ hvw hsn).mono ?_
      rintro e wr2 ⟨rfl, hbr2⟩
      have hbr2S : Below (W.heap.size) W wr2 := hbr1S.trans (hbr2.mono hbr1S.size)
      refine hK _ _ (regrown_of_below hbr2S) ?_
      clear hK K
      refine wpMix_pure (by kernel_rfl) (fun K hK => ?_); go_big_quiet_op; refine hK _ ?_; clear hK K
      refine wpMix_nil ?_
      have hS := hbr2S
      have hb9 := hbo.trans (hS.mono hbo.size)
      clear gcc0 gcc1 gcc2 gcc3 gcc4 gcd0 gcd1 gcd2 gcd3 gcd4 hS0 hS cc0 cc1 cc2 cc3 cc4 cd0 cd1 cd2 cd3 cd4
      by_cases hq : protF y snow < protF z snow
      · have HK := Lib.hid (HW.out.trans (if_pos hq))
        generalize protF y snow = p1 at *
        generalize protF z snow = p2 at *
        go_wp2
        go_roundw
        case rel => exact ⟨k + 1, by rw [HK.out], by go_num, by omega, hb9⟩
        case measure => simp [intOf]; omega
      · have HK := Lib.hid (HW.out.trans (if_neg hq))
        have hq2 : protF z snow ≤ protF y snow := by omega
        generalize protF y snow = p1 at *
        generalize protF z snow = p2 at *
        clear hq
        go_wp2
        go_roundw
        case rel => exact ⟨k + 1, by rw [HK.out, HWk.out], by go_num, by omega, hb9⟩
        case measure => simp [intOf]; omega
    · obtain rfl : k = xs.length := by omega
      have hvw := standsB_one hv hwl
      have HX := HE.out
      rw [std_getD hwl] at HX
      have HX2 := Lib.hid HX
      obtain ⟨b2, o2, rfl, _, _, hpz⟩ := PStand.elem (hx1.below' hb) hwl
      have hwl9 : ((weakS xs snow xs.length : Nat) : Int) < (xs.length : Int) := by omega
      generalize xs[weakS xs snow xs.length] = z at *
      generalize weakS xs snow xs.length = m at *
      obtain ⟨c0, c1, c2, c3, c4⟩ := id hpz
      clear HX HE
      go_wp2_with fail
      refine (protection_any z snow _ hvw hsn).mono ?_
      rintro e w4 ⟨rfl, hb4⟩
      have hb9 := hb1.trans ((hb.trans (hb4.mono hb.size)).mono hB1)
      go_wp2
      go_ret3
      exact ⟨by rw [HX2.out.1, HX2.out.2.1, HX2.out.2.2]; rfl, hb9⟩
def prL (xs : List DStand) (snow least : Int) : Nat → List Int
  | 0 => []
  | k + 1 => if least ≤ protF (xs.getD k ⟨⟨#[]⟩, 0, 0, 0, 0⟩) snow then prL xs snow least k ++ [(k : Int)] else prL xs snow least k
theorem prL_len (xs : List DStand) (snow least : Int) (k : Nat) : ((prL xs snow least k).length : Int) = protTo xs snow least k := by
  induction k with
  | zero => rfl
  | succ k ih =>
    rw [prL, protTo]
    show ((if least ≤ protF (xs.getD k ⟨⟨#[]⟩, 0, 0, 0, 0⟩) snow then prL xs snow least k ++ [(k : Int)] else prL xs snow least k).length : Int) = protTo xs snow least k + if least ≤ protF (xs.getD k ⟨⟨#[]⟩, 0, 0, 0, 0⟩) snow then 1 else 0
    split
    · rw [List.length_append, List.length_singleton]; omega
    · omega
theorem prL_le (xs : List DStand) (snow least : Int) (k : Nat) : (prL xs snow least k).length ≤ k := by have := prL_len xs snow least k; have := protTo_in xs snow least k; omega
def psC (xs : List DStand) (snow least : Int) : Int := if standsB xs = false then 1 else if protokB snow least = false then 2 else 0
def psL (xs : List DStand) (snow least : Int) : List Int := if psC xs snow least = 0 then prL xs snow least xs.length else []
theorem ps_bad {xs : List DStand} {snow least c : Int} (hc : psC xs snow least = c) (h0 : c ≠ 0) : Hid (psC xs snow least = c ∧ psL xs snow least = []) := ⟨hc, by unfold psL; rw [if_neg (by rw [hc]; exact h0)]⟩
theorem infoI64S : (Tryz.prog.info? 2).map (fun i => (i.zero, i.size, i.bytes)) = some (some (.int .i64 0), 1, 8) := by kernel_rfl
set_option maxRecDepth 100000 in
set_option maxHeartbeats 8000000 in
theorem specProtectedStands_any (v : Value) (xs : List DStand) (fp : List Nat) (snow least : Int) (w : World) (hx : Sl fStand.cod w v xs fp) :
    Calls Tryz.prog 12 #[v, .int .i64 snow, .int .i64 least] w fun e w' => ∃ r, e = .returned (.tuple #[r, .int .i64 (psC xs snow least)]) ∧ Own fInt w' w.heap.size 2 r (psL xs snow least) ∧ Below w.heap.size w w' := by
  obtain ⟨A, cap, rfl, hlen, hcap⟩ := hx.form
  obtain ⟨j0, hj, hy0, hy1, hy2⟩ := info_parts infoI64S
  go_enter Tryz.func12, Tryz.ntmps12
  go_wp2_with fail
  refine (l10Ok_any _ xs fp _ hx).mono ?_
  rintro e w1 ⟨rfl, hb1⟩
  have hx1 := hx.below' hb1
  have hB1 := hb1.size
  clear hx
  cases hv : standsB xs
  · have HE := ps_bad (show psC xs snow least = 1 by unfold psC; rw [hv]; rfl) (by decide)
    go_wp2
    go_ret2
    exact ⟨_, by rw [HE.out.1]; rfl, by rw [HE.out.2]; exact Own.nil _ _ _ _, hb1⟩
  have hl := standsB_len hv
  go_wp2_with fail
  refine (l10Snow_any _ _).mono ?_
  rintro e w' ⟨rfl, rfl⟩
  cases hr : inB snow 0 2000
  · have HE := ps_bad (show psC xs snow least = 2 by unfold psC protokB; rw [hv, hr]; rfl) (by decide)
    go_wp2
    go_ret2
    exact ⟨_, by rw [HE.out.1]; rfl, by rw [HE.out.2]; exact Own.nil _ _ _ _, hb1⟩
  go_wp2_with fail
  refine (l10Least_any _ _).mono ?_
  rintro e w' ⟨rfl, rfl⟩
  cases hq : inB least 0 1000
  · have HE := ps_bad (show psC xs snow least = 2 by unfold psC protokB; rw [hv, hr, hq]; rfl) (by decide)
    go_wp2
    go_ret2
    exact ⟨_, by rw [HE.out.1]; rfl, by rw [HE.out.2]; exact Own.nil _ _ _ _, hb1⟩
  have hC : psC xs snow least = 0 := by unfold psC protokB; rw [hv, hr, hq]; rfl
  have HE := Lib.hid (show psC xs snow least = 0 ∧ psL xs snow least = prL xs snow least xs.length from ⟨hC, by unfold psL; rw [if_pos hC]⟩)
  have hsn := inB_true.1 hr
  have hA0 : Below w1.heap.size w1 (w1.alloc (.cells #[] 2)) := (Below.refl _ _).alloc (Nat.le_refl _) _
  have hown := Own.lit0 fInt w1 2
  clear hC hr hq
  go_wp2
  go_loopw [8, 9] (fun r b wr => ∃ k : Nat, b = .int .i64 k ∧ k ≤ xs.length ∧ Own fInt wr w1.heap.size 2 r (prL xs snow least k) ∧ Below w1.heap.size w1 wr) (fun _ b _ => xs.length - (intOf b).toNat)
  case atStart => exact ⟨0, rfl, Nat.zero_le _, hown, hA0⟩
  case round =>
    clear hown hA0
    obtain ⟨k, rfl, hk, hown, hb⟩ := hrel
    rename World => wr
    by_cases hlt : k < xs.length
    · have hlt9 : (k : Int) < (xs.length : Int) := by omega
      have hvk := standsB_one hv hlt
      have HS := Lib.hid (show prL xs snow least (k + 1) = if least ≤ protF xs[k] snow then prL xs snow least k ++ [(k : Int)] else prL xs snow least k by rw [prL, std_getD hlt])
      have hle := prL_le xs snow least k
      obtain ⟨bb, off, rfl, _, _, hp⟩ := PStand.elem (hx1.below' hb) hlt
      generalize xs[k] = y at *
      generalize prL xs snow least k = PL at *
      go_wp2_with fail
      refine (l10Protection_any _ _ y snow _ hp hvk hsn).mono ?_
      rintro e w4 ⟨rfl, hb4⟩
      have hb5 := hb.trans (hb4.mono hb.size)
      have hsz := hb5.size
      have hoW : w4.ownsRow w1.heap.size 2 1 u8 PL.length (PL.flatMap fInt.enc) := hown.below hb4
      clear hown hb hb4 hp
      by_cases hc : least ≤ protF y snow
      · have HS2 := Lib.hid (HS.out.trans (if_pos hc))
        generalize protF y snow = pf at *
        go_wp2_with (at_builtin; refine wpList_append_one rfl _ _ 34 rfl w1.heap.size 2 j0 (.int .i64 0) 1 8 Tryz.underlying34 hj hy0 hy1 hy2 rfl (by decide) u8 PL.length _ rfl hoW [.int .i64 (k : Int)] rfl (by intro u hu; rw [List.mem_singleton] at hu; subst hu; rfl) rfl (by omega) (by decide) hsz ?_)
        intro v' u hownU hbu _ _
        have hoD : Own fInt u w1.heap.size 2 v' (PL ++ [(k : Int)]) := Own.push _ (by omega) hownU
        have hb9 := hb5.trans hbu
        clear hownU hoW hbu hb5
        go_wp2
        go_roundw
        case rel => exact ⟨k + 1, by go_num, by omega, by rw [HS2.out]; exact hoD, hb9⟩
        case measure => simp [intOf]; omega
      · have HS2 := Lib.hid (HS.out.trans (if_neg hc))
        have hc2 : protF y snow < least := by omega
        generalize protF y snow = pf at *
        go_wp2
        go_roundw
        case rel => exact ⟨k + 1, by go_num, by omega, by rw [HS2.out]; exact hoW, hb5⟩
        case measure => simp [intOf]; omega
    · obtain rfl : k = xs.length := by omega
      have hown9 : Own fInt wr w.heap.size 2 u8 (prL xs snow least xs.length) := ownM_ hown hB1
      have hb9 := hb1.trans (hb.mono hB1)
      go_wp2
      go_ret2
      exact ⟨_, by rw [HE.out.1]; rfl, by rw [HE.out.2]; exact hown9, hb9⟩

end Go.Proofs.YtphljobklilbdaaGreatDoor

namespace Go.Proofs.YtphljobklilbdaaGreatDoor
open Go.RowKit
set_option linter.unusedVariables false

def cmT (a b : ByteArray) : Int := if ltS a b then -1 else if ltS b a then 1 else 0
theorem cmT_zero {a b : ByteArray} : cmT a b = 0 ↔ a = b := by
  unfold cmT
  constructor
  · intro h
    cases h1 : ltS a b with
    | true => rw [h1] at h; simp at h
    | false =>
      cases h2 : ltS b a with
      | true => rw [h1, h2] at h; simp at h
      | false => exact ltS_tri h1 h2
  · rintro rfl; simp [ltS_irrefl]
theorem cmT_lt {a b : ByteArray} : cmT a b < 0 ↔ ltS a b = true := by
  unfold cmT
  cases h1 : ltS a b with
  | true => simp
  | false => cases h2 : ltS b a <;> simp
theorem cmT_bounds (a b : ByteArray) : -1 ≤ cmT a b ∧ cmT a b ≤ 1 := by
  unfold cmT
  cases ltS a b <;> cases ltS b a <;> simp
def cmI (a b : Int) : Int := if a < b then -1 else if b < a then 1 else 0
theorem cmI_zero {a b : Int} : cmI a b = 0 ↔ a = b := by
  unfold cmI
  split
  · constructor
    · intro h; cases h
    · intro h; omega
  · split
    · constructor
      · intro h; cases h
      · intro h; omega
    · constructor
      · intro _; omega
      · intro _; rfl
theorem cmI_lt {a b : Int} : cmI a b < 0 ↔ a < b := by
  unfold cmI
  split
  · rename_i h; simp [h]
  · rename_i h
    split <;> simp <;> omega
theorem cmI_bounds (a b : Int) : -1 ≤ cmI a b ∧ cmI a b ≤ 1 := by
  unfold cmI
  (repeat' split) <;> simp
set_option maxRecDepth 100000 in
set_option maxHeartbeats 400000 in
theorem isNaNI_any (a : Int) (w : World) : Calls Tryz.prog 71 #[.int .i64 a] w fun e w' => e = .returned (.bool false) ∧ w = w' := by
  go_enter Tryz.func71, Tryz.ntmps71
  go_wp2
  go_ret
  exact ⟨rfl, rfl⟩
set_option maxRecDepth 100000 in
set_option maxHeartbeats 1000000 in
theorem compareI_any (a b : Int) (w : World) : Calls Tryz.prog 63 #[.int .i64 a, .int .i64 b] w fun e w' => e = .returned (.int .i64 (cmI a b)) ∧ w = w' := by
  by_cases h1 : a < b
  · go_enter Tryz.func63, Tryz.ntmps63
    go_wp2_with (go_at_call 71; refine (isNaNI_any _ _).mono ?_; rintro e w' ⟨rfl, rfl⟩)
    go_ret
    exact ⟨ret_int (by unfold cmI; rw [if_pos h1]), rfl⟩
  · by_cases h2 : b < a
    · go_enter Tryz.func63, Tryz.ntmps63
      go_wp2_with (go_at_call 71; refine (isNaNI_any _ _).mono ?_; rintro e w' ⟨rfl, rfl⟩)
      go_ret
      exact ⟨ret_int (by unfold cmI; rw [if_neg (Int.not_lt.2 h1), if_pos h2]), rfl⟩
    · go_enter Tryz.func63, Tryz.ntmps63
      go_wp2_with (go_at_call 71; refine (isNaNI_any _ _).mono ?_; rintro e w' ⟨rfl, rfl⟩)
      go_ret
      exact ⟨ret_int (by unfold cmI; rw [if_neg (Int.not_lt.2 h1), if_neg (Int.not_lt.2 h2)]), rfl⟩
def orI : List Int → Int
  | [] => 0
  | x :: xs => if x = 0 then orI xs else x
theorem orI_cons (x : Int) (xs : List Int) : orI (x :: xs) = if x = 0 then orI xs else x := rfl
theorem orI_two (a b : Int) : orI [a, b] = if a = 0 then b else a := by
  unfold orI; split
  · unfold orI orI; split <;> simp_all
  · rfl
theorem orI_three (a b c : Int) : orI [a, b, c] = if a = 0 then (if b = 0 then c else b) else a := by
  rw [orI_cons]
  split
  · exact orI_two b c
  · rfl
theorem cmT_ok (a b : ByteArray) : fInt.ok (cmT a b) := by
  have := cmT_bounds a b
  show _ ∧ _
  omega
theorem cmI_ok (a b : Int) : fInt.ok (cmI a b) := by
  have := cmI_bounds a b
  show _ ∧ _
  omega
end Go.Proofs.YtphljobklilbdaaGreatDoor

namespace Go.Proofs.YtphljobklilbdaaGreatDoor
open Go.RowKit
set_option linter.unusedVariables false

/-- Lists in the order of a dictionary: what slices.Compare yields. -/
def cmpL : List Int → List Int → Int
  | [], [] => 0
  | [], _ :: _ => -1
  | _ :: _, [] => 1
  | a :: p, b :: q => if a = b then cmpL p q else cmI a b
theorem cmpL_bounds : ∀ p q : List Int, -1 ≤ cmpL p q ∧ cmpL p q ≤ 1
  | [], [] => by simp [cmpL]
  | [], _ :: _ => by simp [cmpL]
  | _ :: _, [] => by simp [cmpL]
  | a :: p, b :: q => by
    rw [cmpL]
    split
    · exact cmpL_bounds p q
    · exact cmI_bounds a b
theorem cmpL_end (xs ys : List Int) : cmpL (xs.drop xs.length) (ys.drop xs.length) = if xs.length < ys.length then -1 else 0 := by
  rw [List.drop_length]
  by_cases h : xs.length < ys.length
  · rw [if_pos h, List.drop_eq_getElem_cons h]; rfl
  · rw [if_neg h, List.drop_of_length_le (by omega)]; rfl
theorem cmpL_short {xs ys : List Int} {i : Nat} (h1 : i < xs.length) (h2 : i = ys.length) : cmpL (xs.drop i) (ys.drop i) = 1 := by
  subst h2
  rw [List.drop_length, List.drop_eq_getElem_cons h1]; rfl
theorem cmpL_step {xs ys : List Int} {i : Nat} (h1 : i < xs.length) (h2 : i < ys.length) : cmpL (xs.drop i) (ys.drop i) = if xs[i] = ys[i] then cmpL (xs.drop (i + 1)) (ys.drop (i + 1)) else cmI xs[i] ys[i] := by
  rw [List.drop_eq_getElem_cons h1, List.drop_eq_getElem_cons h2, cmpL]
set_option maxRecDepth 100000 in
set_option maxHeartbeats 4000000 in
theorem compareL_any (v u : Value) (xs ys : List Int) (fp fq : List Nat) (w : World) (hx : Sl fInt.cod w v xs fp) (hy : Sl fInt.cod w u ys fq) (hlx : xs.length ≤ 1000000) (hly : ys.length ≤ 1000000) :
    Calls Tryz.prog 48 #[v, u] w fun e w' => e = .returned (.int .i64 (cmpL xs ys)) ∧ w = w' := by
  obtain ⟨A, ca, rfl, _, _⟩ := hx.form
  obtain ⟨B, cb, rfl, _, _⟩ := hy.form
  go_enter Tryz.func48, Tryz.ntmps48
  go_wp2
  go_loop [11] (fun a => ∃ i : Nat, a = .int .i64 i ∧ i ≤ xs.length ∧ i ≤ ys.length ∧ Hid (cmpL xs ys = cmpL (xs.drop i) (ys.drop i))) (fun a => xs.length - (intOf a).toNat)
  case atStart => exact ⟨0, rfl, Nat.zero_le _, Nat.zero_le _, rfl⟩
  case round =>
    obtain ⟨i, rfl, hi, hj, HC⟩ := hrel
    by_cases hlt : i < xs.length
    · have hlt9 : (i : Int) < (xs.length : Int) := by omega
      obtain ⟨b1, o1, rfl, _, _, c1, _⟩ := hx.cell1 rfl hlt rfl
      by_cases hly2 : i < ys.length
      · have hly9 : (i : Int) < (ys.length : Int) := by omega
        obtain ⟨b2, o2, rfl, _, _, c2, _⟩ := hy.cell1 rfl hly2 rfl
        have HS := Lib.hid (HC.out.trans (cmpL_step hlt hly2))
        have hb := cmI_bounds xs[i] ys[i]
        by_cases he : xs[i] = ys[i]
        · have HT := Lib.hid (HS.out.trans (if_pos he))
          have hz : cmI xs[i] ys[i] = 0 := cmI_zero.2 he
          generalize xs[i] = p at *
          generalize ys[i] = q at *
          clear he HS
          go_wp2_with fail
          refine (compareI_any _ _ _).mono ?_
          rintro e w' ⟨rfl, rfl⟩
          rw [hz]
          go_wp2
          go_round
          case rel => exact ⟨i + 1, by go_num, by omega, by omega, HT⟩
          case measure => simp [intOf]; omega
        · have HT := Lib.hid (HS.out.trans (if_neg he))
          have hz : (cmI xs[i] ys[i] != 0) = true := by rw [bne_iff_ne]; exact fun h => he (cmI_zero.1 h)
          generalize xs[i] = p at *
          generalize ys[i] = q at *
          clear he HS
          go_wp2_with fail
          refine (compareI_any _ _ _).mono ?_
          rintro e w' ⟨rfl, rfl⟩
          generalize cmI p q = c at *
          go_wp2
          go_ret
          exact ⟨ret_int HT.out.symm, rfl⟩
      · have hye : (ys.length : Int) ≤ (i : Int) := by omega
        have HT := Lib.hid (HC.out.trans (cmpL_short hlt (by omega)))
        go_wp2
        go_ret
        exact ⟨ret_int HT.out.symm, rfl⟩
    · obtain rfl : i = xs.length := by omega
      have HT := Lib.hid (HC.out.trans (cmpL_end xs ys))
      by_cases h : xs.length < ys.length
      · have HU := Lib.hid (HT.out.trans (if_pos h))
        have h9 : (xs.length : Int) < (ys.length : Int) := by omega
        go_wp2
        go_ret
        exact ⟨ret_int HU.out.symm, rfl⟩
      · have HU := Lib.hid (HT.out.trans (if_neg h))
        have h9 : (ys.length : Int) ≤ (xs.length : Int) := by omega
        clear h
        go_wp2
        go_ret
        exact ⟨ret_int HU.out.symm, rfl⟩
end Go.Proofs.YtphljobklilbdaaGreatDoor

namespace Go.Proofs.YtphljobklilbdaaGreatDoor
open Go.RowKit
set_option linter.unusedVariables false

theorem infoIntC : (Tryz.prog.info? 2).map (fun i => (i.zero, i.size, i.bytes)) = some (some (.int .i64 0), 1, 8) := by kernel_rfl
/-- A row of the call's own that holds the list. -/
def OwnI (w : World) (xs : List Int) (e : Ending) (w' : World) : Prop := ∃ v, e = .returned v ∧ Own fInt w' w.heap.size 2 v xs ∧ Below w.heap.size w w'
set_option maxRecDepth 100000 in
set_option maxHeartbeats 1000000 in
theorem cloneI_any (v : Value) (xs : List Int) (fp : List Nat) (w : World) (hx : Sl fInt.cod w v xs fp) (hl : xs.length ≤ 1000000) :
    Calls Tryz.prog 49 #[v] w fun e w' => OwnI w xs e w' := by
  obtain ⟨A, cap, rfl, hlen, hcap⟩ := hx.form
  obtain ⟨i0, hi, hz0, hz1, hz2⟩ := info_parts infoIntC
  have hsrc := (hx.below' ((Below.refl _ _).alloc (Nat.le_refl _) (.cells #[] 2))).src
  have ho := Own.lit0 fInt w 2
  have hb0 : Below w.heap.size w (w.alloc (.cells #[] 2)) := (Below.refl _ _).alloc (Nat.le_refl _) _
  have hs2 := hb0.size
  have q22 : ∀ (w : World) (a : Option Addr) (n c n' c' : Nat), (binOp .eql 34 (.slice a n c) (.slice none n' c')).run Tryz.prog w = .ok (.bool a.isNone) w := fun w a n c n' c' => Lib.run_eql_slice_nil w _ _ a n c n' c' Tryz.underlying34
  cases A with
  | none =>
    have hnil : xs = [] := by
      rcases Nat.eq_zero_or_pos xs.length with h0 | h0
      · exact List.eq_nil_of_length_eq_zero h0
      · obtain ⟨b, off, hA, _⟩ := hx.cells h0
        cases hA
    subst hnil
    go_enter Tryz.func49, Tryz.ntmps49
    go_wp2
    go_ret
    exact ⟨_, rfl, Own.nil _ _ _ _, Below.refl _ _⟩
  | some ad =>
    go_enter Tryz.func49, Tryz.ntmps49
    go_wp2_with (at_builtin; refine wpList_append_src (E := fInt) rfl _ _ 34 rfl w.heap.size 2 i0 (.int .i64 0) 8 Tryz.underlying34 hi hz0 hz1 hz2 rfl (.slice (some ⟨w.heap.size, 0, none⟩) 0 0) [] rfl ho _ xs rfl hsrc (by simp; omega) (by decide) hs2 ?_)
    intro v' u hown hbu
    try rw [List.nil_append] at hown
    go_wp2
    go_ret
    exact ⟨_, rfl, hown, hb0.trans hbu⟩
end Go.Proofs.YtphljobklilbdaaGreatDoor

namespace Go.Proofs.YtphljobklilbdaaGreatDoor
open Go.RowKit
set_option linter.unusedVariables false

/-- The rows of a slice of slices, laid open. -/
structure NRows {α : Type} (E : Cod α) (w : World) (b off n : Nat) (V : Nat → Value) (cur : Nat → List α) (F : Nat → List Nat) : Prop where
  cell : ∀ i, i < n → w.cell? ⟨b, off + i, none⟩ = some (V i)
  frz : ∀ i, i < n → w.frozen? ⟨b, off + i, none⟩ = false
  rd : ∀ i, i < n → Sl E w (V i) (cur i) (F i)
section
variable {α : Type} {E : Cod α} {w w' : World} {b off n cap len : Nat} {A : Option Addr} {V : Nat → Value} {cur : Nat → List α} {F : Nat → List Nat} {xss : List (List α)} {fp : List Nat}
theorem Sl.rows (h : Sl E.slice w (.slice A len cap) xss fp) (h0 : 0 < xss.length) :
    ∃ b off V F, A = some ⟨b, off, none⟩ ∧ b < w.heap.size ∧ fp = b :: (List.range xss.length).flatMap F ∧ NRows E w b off xss.length V (fun i => xss.getD i []) F := by
  obtain ⟨A', cap', hv, hl, hc, hr⟩ := h
  injection hv with hA hn hcap
  subst hA
  rcases hr with ⟨h1, _⟩ | ⟨b, off, F, hA, hb, hfp, hi⟩
  · subst h1; simp at h0
  · have hex : ∀ i, ∃ u, ∀ h : i < xss.length, w.cell? ⟨b, off + i, none⟩ = some u ∧ w.frozen? ⟨b, off + i, none⟩ = false ∧ Sl E w u xss[i] (F i) := fun i => by
      by_cases hlt : i < xss.length
      · obtain ⟨cs, h1, h2, u, rfl, h3⟩ := hi i hlt
        refine ⟨u, fun _ => ⟨?_, ?_, h3⟩⟩
        · have := h1 0 (show 0 < 1 by omega); simpa [Cod.slice] using this
        · have := h2 0 (show 0 < 1 by omega); simpa [Cod.slice] using this
      · exact ⟨undef, fun h => absurd h hlt⟩
    refine ⟨b, off, fun i => Classical.choose (hex i), F, hA, hb, hfp, ⟨fun i h => ?_, fun i h => ?_, fun i h => ?_⟩⟩
    · exact (Classical.choose_spec (hex i) h).1
    · exact (Classical.choose_spec (hex i) h).2.1
    · have := (Classical.choose_spec (hex i) h).2.2
      simpa [List.getD_eq_getElem?_getD, h] using this
theorem NRows.sl (h : NRows E w b off n V cur F) (hb : b < w.heap.size) (hn : xss.length = n) (hx : ∀ i (hi : i < xss.length), xss[i] = cur i) (hc : n ≤ cap) (hm : cap ≤ maxLen) :
    Sl E.slice w (.slice (some ⟨b, off, none⟩) n cap) xss (b :: (List.range n).flatMap F) := by
  subst hn
  refine ⟨_, cap, rfl, hc, hm, .inr ⟨b, off, F, rfl, hb, rfl, fun i hi => ⟨[V i], fun j hj => ?_, fun j hj => ?_, V i, rfl, ?_⟩⟩⟩
  · have hj' : j = 0 := by have : j < 1 := hj; omega
    subst hj'
    have := h.cell i hi
    simpa [Cod.slice] using this
  · have hj' : j = 0 := by have : j < 1 := hj; omega
    subst hj'
    have := h.frz i hi
    simpa [Cod.slice] using this
  · rw [hx i hi]; exact h.rd i hi
theorem NRows.below (h : NRows E w b off n V cur F) (hb : b < w.heap.size) (hw : Below w.heap.size w w') : NRows E w' b off n V cur F :=
  ⟨fun i hi => (hw.cell (p := ⟨b, off + i, none⟩) hb).trans (h.cell i hi), fun i hi => (hw.frozen (p := ⟨b, off + i, none⟩) hb).trans (h.frz i hi), fun i hi => (h.rd i hi).below' hw⟩
theorem NRows.congr {cur' : Nat → List α} (h : NRows E w b off n V cur F) (hc : ∀ i, i < n → cur i = cur' i) : NRows E w b off n V cur' F :=
  ⟨h.cell, h.frz, fun i hi => by rw [← hc i hi]; exact h.rd i hi⟩
/-- No block twice. -/
theorem rows_apart (hnd : (b :: (List.range n).flatMap F).Nodup) : (∀ i, i < n → b ∉ F i) ∧ (∀ i j, i < n → j < n → i ≠ j → ∀ c ∈ F i, c ∉ F j) ∧ ∀ i, i < n → (F i).Nodup := by
  rw [List.nodup_cons] at hnd
  obtain ⟨h1, h2⟩ := hnd
  refine ⟨fun i hi hm => h1 (List.mem_flatMap.2 ⟨i, by simpa using hi, hm⟩), ?_, ?_⟩
  · have h3 : ∀ i j, i < j → j < n → ∀ c ∈ F i, c ∉ F j := by
      intro i j hij hj c hc hc'
      have e1 : List.range n = List.range j ++ (List.range (n - j)).map (j + ·) := by rw [← List.range_add]; congr 1; omega
      rw [e1, List.flatMap_append, List.nodup_append] at h2
      exact h2.2.2 c (List.mem_flatMap.2 ⟨i, by simpa using hij, hc⟩) c (List.mem_flatMap.2 ⟨j, by simp; omega, hc'⟩) rfl
    intro i j hi hj hne c hc hc'
    rcases Nat.lt_or_ge i j with h | h
    · exact h3 i j h hj c hc hc'
    · exact h3 j i (by omega) hi c hc' hc
  · intro i hi
    have e1 : List.range n = List.range i ++ (List.range (n - i)).map (i + ·) := by rw [← List.range_add]; congr 1; omega
    have e2 : List.range (n - i) = 0 :: (List.range (n - i - 1)).map Nat.succ := by
      rw [← List.range_succ_eq_map]; congr 1; omega
    rw [e1, e2, List.flatMap_append, List.nodup_append] at h2
    have h4 := h2.2.1
    rw [List.map_cons, List.flatMap_cons, List.nodup_append] at h4
    simpa using h4.1
/-- One row is written, through its own blocks alone. -/
theorem NRows.step {ys : List α} {k : Nat} (h : NRows E w b off n V cur F) (hnd : (b :: (List.range n).flatMap F).Nodup) (hb : b < w.heap.size) (hk : k < n) (hs : Sl E w' (V k) ys (F k)) (ho : Only (F k) w w') :
    NRows E w' b off n V (fun i => if i = k then ys else cur i) F := by
  obtain ⟨h1, h2, _⟩ := rows_apart hnd
  have hbk := ho.block b hb (h1 k hk)
  refine ⟨fun i hi => (World.cell?_of_block (a := ⟨b, off + i, none⟩) hbk).trans (h.cell i hi), fun i hi => (World.frozen?_of_block (a := ⟨b, off + i, none⟩) hbk).trans (h.frz i hi), fun i hi => ?_⟩
  by_cases e : i = k
  · subst e; rw [if_pos rfl]; exact hs
  · rw [if_neg e]; exact (h.rd i hi).only ho (h2 i k hi hk e)
theorem Only.sub {fp fp' : List Nat} (h : Only fp w w') (hs : ∀ c ∈ fp, c ∈ fp') : Only fp' w w' := ⟨h.os, h.tape, h.output, h.size, fun k hk hn => h.block k hk (fun hm => hn (hs k hm))⟩
theorem Sl.elem {k : Nat} (h : Sl E.slice w (.slice A len cap) xss fp) (hk : k < xss.length) :
    ∃ b off vk fk, A = some ⟨b, off, none⟩ ∧ w.cell? ⟨b, off + k, none⟩ = some vk ∧ Sl E w vk xss[k] fk ∧ b ∈ fp := by
  obtain ⟨b, off, V, F, hA, hb, hfp, hr⟩ := h.rows (by omega)
  have := hr.rd k hk
  simp [List.getD_eq_getElem?_getD, hk] at this
  exact ⟨b, off, V k, F k, hA, hr.cell k hk, this, by rw [hfp]; simp⟩
end
/-! ### A slice of slices that the call fills row by row -/
/-- The block g holds n slices, of which the first k are made: they read as the first k rows. -/
def SSt {α : Type} (E : Cod α) (w : World) (g : Nat) (T : TypeId) (xss : List (List α)) (k : Nat) : Prop :=
  ∃ (V : Nat → Value) (F : Nat → List Nat), Fill w g g T 1 xss.length ((List.range k).map V) ∧ (∀ i, i < k → w.cell? ⟨g, i, none⟩ = some (V i)) ∧ (∀ i, i < k → Sl E w (V i) (xss.getD i []) (F i)) ∧ ((List.range k).flatMap F).Nodup ∧ (∀ c ∈ (List.range k).flatMap F, g < c ∧ c < w.heap.size)
theorem SSt.start {α : Type} {E : Cod α} (w : World) (T : TypeId) (z : Value) (xss : List (List α)) (hn : xss.length ≤ 9223372036854775807) : SSt E (w.alloc (.cells (madeCells #[z] xss.length) T)) w.heap.size T xss 0 :=
  ⟨fun _ => undef, fun _ => [], by simpa using Fill.start1 w T xss.length #[z] hn, fun _ h => absurd h (Nat.not_lt_zero _), fun _ h => absurd h (Nat.not_lt_zero _), by simp, by simp⟩
section
variable {α : Type} {E : Cod α} {w w' : World} {g : Nat} {T : TypeId} {xss : List (List α)} {k : Nat}
theorem SSt.below (h : SSt E w g T xss k) (hb : Below w.heap.size w w') : SSt E w' g T xss k := by
  obtain ⟨V, F, h1, h2, h3, h4, h5⟩ := h
  exact ⟨V, F, h1.below hb h1.lt, fun i hi => (hb.cell (p := ⟨g, i, none⟩) h1.lt).trans (h2 i hi), fun i hi => (h3 i hi).below' hb, h4, fun c hc => ⟨(h5 c hc).1, Nat.lt_of_lt_of_le (h5 c hc).2 hb.size⟩⟩
theorem SSt.cell (h : SSt E w g T xss k) {j : Nat} (hj : j < xss.length) : ∃ u, w.cell? ⟨g, j, none⟩ = some u := by
  obtain ⟨V, F, h1, _⟩ := h
  exact h1.cell (by omega)
theorem SSt.frozen (h : SSt E w g T xss k) (j : Nat) : w.frozen? ⟨g, j, none⟩ = false := by
  obtain ⟨V, F, h1, _⟩ := h
  exact h1.frozen j
theorem SSt.lt (h : SSt E w g T xss k) : g < w.heap.size := by
  obtain ⟨V, F, h1, _⟩ := h
  exact h1.lt
/-- The next row is made and laid in. -/
theorem SSt.next (h : SSt E w g T xss k) (hk : k < xss.length) {y : Value} (hn : New E w y xss[k] w') : SSt E (w'.setCell ⟨g, k, none⟩ y) g T xss (k + 1) := by
  have hg := h.lt
  obtain ⟨V, F, h1, h2, h3, h4, h5⟩ := h
  obtain ⟨⟨f, hs, hlo, hnd⟩, hb⟩ := hn
  have ho : Only [g] w' (w'.setCell ⟨g, k, none⟩ y) := (Only.refl _ _).set k y
  have hne : ∀ c, g < c → c ∉ [g] := fun c hc hm => by rw [List.mem_singleton] at hm; omega
  have e1 : ∀ i, i < k → (fun i => if i = k then y else V i) i = V i := fun i hi => if_neg (by omega)
  have e2 : ∀ i, i < k → (fun i => if i = k then f else F i) i = F i := fun i hi => if_neg (by omega)
  have em : (List.range (k + 1)).map (fun i => if i = k then y else V i) = (List.range k).map V ++ [y] := by
    rw [List.range_succ, List.map_append, List.map_cons, List.map_nil, if_pos rfl]
    congr 1
    exact List.map_congr_left (fun i hi => e1 i (by simpa using hi))
  have ef : (List.range (k + 1)).flatMap (fun i => if i = k then f else F i) = (List.range k).flatMap F ++ f := by
    rw [List.range_succ, List.flatMap_append, List.flatMap_cons, List.flatMap_nil, if_pos rfl, List.append_nil]
    congr 1
    rw [List.flatMap_def, List.flatMap_def]
    congr 1
    exact List.map_congr_left (fun i hi => e2 i (by simpa using hi))
  have hf2 : Fill w' g g T 1 xss.length ((List.range k).map V) := h1.below hb hg
  refine ⟨fun i => if i = k then y else V i, fun i => if i = k then f else F i, ?_, ?_, ?_, ?_, ?_⟩
  · rw [em]
    exact hf2.put_at (by simp) (by omega) y
  · intro i hi
    dsimp only
    by_cases e : i = k
    · subst e
      rw [if_pos rfl]
      obtain ⟨u, hu⟩ := hf2.cell (j := i) (by omega)
      exact World.cell?_setCell_same w' _ y hu
    · rw [if_neg e, World.cell?_setCell_other _ _ _ _ (by intro h; injection h with _ h _; exact e h.symm)]
      exact (hb.cell (p := ⟨g, i, none⟩) hg).trans (h2 i (by omega))
  · intro i hi
    dsimp only
    by_cases e : i = k
    · subst e
      rw [if_pos rfl, if_pos rfl, show xss.getD i [] = xss[i] from by simp [List.getD_eq_getElem?_getD, hk]]
      exact hs.only ho (fun b hb' => hne b (by have := hlo b hb'; omega))
    · rw [if_neg e, if_neg e]
      exact ((h3 i (by omega)).below' hb).only ho (fun b hb' => hne b (h5 b (List.mem_flatMap.2 ⟨i, by simp; omega, hb'⟩)).1)
  · rw [ef, List.nodup_append]
    exact ⟨h4, hnd, fun a ha b hb' e => by have := (h5 a ha).2; have := hlo b hb'; omega⟩
  · rw [ef]
    intro c hc
    have hsz : (w'.setCell ⟨g, k, none⟩ y).heap.size = w'.heap.size := by simp
    rcases List.mem_append.1 hc with hc | hc
    · exact ⟨(h5 c hc).1, by rw [hsz]; exact Nat.lt_of_lt_of_le (h5 c hc).2 hb.size⟩
    · exact ⟨by have := hlo c hc; omega, by rw [hsz]; exact hs.lt c hc⟩
theorem SSt.done (h : SSt E w g T xss xss.length) (hm : xss.length ≤ maxLen) : ∃ fp, Sl E.slice w (.slice (some ⟨g, 0, none⟩) xss.length xss.length) xss fp ∧ (∀ b ∈ fp, g ≤ b) ∧ fp.Nodup := by
  have hg := h.lt
  obtain ⟨V, F, h1, h2, h3, h4, h5⟩ := h
  have hr : NRows E w g 0 xss.length V (fun i => xss.getD i []) F := ⟨fun i hi => by simpa using h2 i hi, fun i _ => by simpa using h1.frozen i, h3⟩
  refine ⟨_, hr.sl hg rfl (fun i hi => by simp [List.getD_eq_getElem?_getD, hi]) (Nat.le_refl _) hm, ?_, ?_⟩
  · intro b hb
    rcases List.mem_cons.1 hb with rfl | hb
    · exact Nat.le_refl _
    · exact Nat.le_of_lt (h5 b hb).1
  · rw [List.nodup_cons]
    exact ⟨fun hm' => Nat.lt_irrefl _ (h5 _ hm').1, h4⟩
end
def preS (ns : List Nat) (i : Nat) : Nat := (ns.take i).sum
theorem preS_succ {ns : List Nat} {i : Nat} (h : i < ns.length) : preS ns (i + 1) = preS ns i + ns[i] := by
  unfold preS; rw [List.take_succ_eq_append_getElem h, List.sum_append]; simp
theorem preS_full {ns : List Nat} {i : Nat} (h : ns.length ≤ i) : preS ns i = ns.sum := by unfold preS; rw [List.take_of_length_le h]
theorem preS_le (ns : List Nat) (i : Nat) : preS ns i ≤ ns.sum := by
  have h := List.sum_append (l₁ := ns.take i) (l₂ := ns.drop i)
  rw [List.take_append_drop] at h
  unfold preS; omega
end Go.Proofs.YtphljobklilbdaaGreatDoor

namespace Go.Proofs.YtphljobklilbdaaGreatDoor
open Go.RowKit
set_option linter.unusedVariables false

theorem infoSliceR : (Tryz.prog.info? 79).map (fun i => (i.zero, i.size, i.bytes)) = some (some (.slice none 0 0), 1, 24) := by kernel_rfl
structure RowsV (w : World) (B : Nat) (v : Value) (R : List (List ByteArray)) (V : Nat → Value) (F : Nat → List Nat) : Prop where
  own : w.ownsRow B 79 1 v R.length ((List.range R.length).map V)
  rd : ∀ i, i < R.length → Sl fStr.cod w (V i) (R.getD i []) (F i)
  ap : ∀ i, i < R.length → ∀ b ∈ F i, B ≤ b ∧ v.ownBlock ≠ some b
section
variable {w w' u : World} {B : Nat} {v v' : Value} {R : List (List ByteArray)} {V : Nat → Value} {F : Nat → List Nat}
theorem ownsRow_belowR {e : TypeId} {n size : Nat} {xs : List Value} (h : w.ownsRow B e size v n xs) (hb : Below w.heap.size w w') : w'.ownsRow B e size v n xs := by
  obtain ⟨h1, h2⟩ := h
  refine ⟨h1, ?_⟩
  rcases h2 with h2 | ⟨g, cap, cur, hv, hg, hh, r⟩
  · exact .inl h2
  · have hgl : g < w.heap.size := by
      rcases Nat.lt_or_ge g w.heap.size with hlt | hge
      · exact hlt
      · rw [Array.getElem?_eq_none hge] at hh; cases hh
    exact .inr ⟨g, cap, cur, hv, hg, by rw [hb.block _ hgl]; exact hh, r⟩
theorem RowsV.below (h : RowsV w B v R V F) (hb : Below w.heap.size w w') : RowsV w' B v R V F :=
  ⟨ownsRow_belowR h.own hb, fun i hi => (h.rd i hi).below' hb, h.ap⟩
theorem RowsV.lt (h : RowsV w B v R V F) : ∀ k, v.ownBlock = some k → k < w.heap.size := fun k hk => (h.own.lt k hk).2
/-- One more row. -/
theorem RowsV.push {r : List ByteArray} {y : Value} {f : List Nat} (h : RowsV w B v R V F) (hs : Sl fStr.cod w y r f) (hf : ∀ b ∈ f, B ≤ b ∧ v.ownBlock ≠ some b)
    (hown : u.ownsRow B 79 1 v' (R.length + 1) ((List.range R.length).map V ++ [y])) (hg : w.grownBy u v.ownBlock) (hl : v'.ownBlock = v.ownBlock ∨ v'.ownBlock = some w.heap.size) :
    RowsV u B v' (R ++ [r]) (fun i => if i = R.length then y else V i) (fun i => if i = R.length then f else F i) := by
  have hlen : (R ++ [r]).length = R.length + 1 := by simp
  have keep : ∀ {x : Value} {q : List ByteArray} {ff : List Nat}, Sl fStr.cod w x q ff → (∀ b ∈ ff, v.ownBlock ≠ some b) → Sl fStr.cod u x q ff := fun hx hne =>
    hx.keep (fun b hb => hg.block b (hx.lt b hb) (fun e => hne b hb e.symm)) hg.size
  have apart : ∀ {b : Nat}, b < w.heap.size → v.ownBlock ≠ some b → v'.ownBlock ≠ some b := fun hb hne => by
    rcases hl with e | e
    · rw [e]; exact hne
    · rw [e]; intro h2; injection h2 with h2; omega
  refine ⟨?_, ?_, ?_⟩
  · rw [hlen]
    have em : (List.range (R.length + 1)).map (fun i => if i = R.length then y else V i) = (List.range R.length).map V ++ [y] := by
      rw [List.range_succ, List.map_append, List.map_cons, List.map_nil, if_pos rfl]
      congr 1
      exact List.map_congr_left (fun i hi => if_neg (by have : i < R.length := by simpa using hi
                                                        omega))
    rw [em]
    exact hown
  · intro i hi
    rw [hlen] at hi
    by_cases e : i = R.length
    · subst e
      rw [if_pos rfl, if_pos rfl, show (R ++ [r]).getD R.length [] = r from by simp]
      exact keep hs (fun b hb => (hf b hb).2)
    · have hi2 : i < R.length := by omega
      rw [if_neg e, if_neg e, show (R ++ [r]).getD i [] = R.getD i [] from by simp [List.getD_eq_getElem?_getD, List.getElem?_append_left hi2]]
      exact keep (h.rd i hi2) (fun b hb => (h.ap i hi2 b hb).2)
  · intro i hi
    rw [hlen] at hi
    by_cases e : i = R.length
    · rw [if_pos e]
      exact fun b hb => ⟨(hf b hb).1, apart (hs.lt b hb) (hf b hb).2⟩
    · have hi2 : i < R.length := by omega
      rw [if_neg e]
      exact fun b hb => ⟨(h.ap i hi2 b hb).1, apart ((h.rd i hi2).lt b hb) (h.ap i hi2 b hb).2⟩
/-- It reads as a slice of slices. -/
theorem RowsV.sl (h : RowsV w B v R V F) (h0 : 0 < R.length) : ∃ fp, Sl fStr.cod.slice w v R fp := by
  obtain ⟨h1, h2⟩ := h.own
  rcases h2 with ⟨hv, hz⟩ | ⟨g, cap, cur, hv, hg, hh, hnc, hcm, hsz, hxs⟩
  · omega
  · have hgl : g < w.heap.size := by
      rcases Nat.lt_or_ge g w.heap.size with hlt | hge
      · exact hlt
      · rw [Array.getElem?_eq_none hge] at hh; cases hh
    have hown : w.ownsRow B 79 1 (.slice (some ⟨g, 0, none⟩) R.length cap) R.length ((List.range R.length).map V) := by rw [← hv]; exact h.own
    have hr : NRows fStr.cod w g 0 R.length V (fun i => R.getD i []) F := ⟨fun i hi => by
      rw [Nat.zero_add, hown.cellAt i (by omega), List.getElem?_map, List.getElem?_range hi]; rfl, fun i _ => by rw [Nat.zero_add]; exact hown.frozenAt i, h.rd⟩
    rw [hv]
    exact ⟨_, hr.sl hgl rfl (fun i hi => by simp [List.getD_eq_getElem?_getD, hi]) hnc hcm⟩
/-- The first row. -/
theorem RowsV.first {r : List ByteArray} {y : Value} {f : List Nat} {w : World} {B : Nat} (hB : B ≤ w.heap.size) (hs : Sl fStr.cod w y r f) (hf : ∀ b ∈ f, B ≤ b) :
    RowsV (w.alloc (.cells #[y] 79)) B (.slice (some ⟨w.heap.size, 0, none⟩) 1 1) [r] (fun _ => y) (fun _ => f) := by
  refine ⟨?_, ?_, ?_⟩
  · exact World.ownsRow_lit (e := 79) (size := 1) w #[y] 1 hB (by decide) rfl
  · intro i hi
    have hi0 : i = 0 := by simpa using hi
    subst hi0
    exact hs.below' ((Below.refl _ _).alloc (Nat.le_refl _) _)
  · intro i hi b hb
    refine ⟨hf b hb, ?_⟩
    have := hs.lt b hb
    show some w.heap.size ≠ some b
    intro e; injection e with e; omega
end
end Go.Proofs.YtphljobklilbdaaGreatDoor

namespace Go.Proofs.YtphljobklilbdaaGreatDoor
open Go.RowKit
set_option linter.unusedVariables false

/-- The j-th of the pieces of m elements. -/
def pgAt {α : Type} (m : Nat) (xs : List α) (j : Nat) : List α := (xs.drop (j * m)).take m
def pgN (m k : Nat) : Nat := (k + m - 1) / m
def pgAll (m : Nat) (hd : ByteArray) (xs : List ByteArray) : List (List ByteArray) := (List.range (pgN m xs.length)).map fun j => hd :: pgAt m xs j
theorem pgN_zero {m : Nat} (hm : 0 < m) : pgN m 0 = 0 := by unfold pgN; exact Nat.div_eq_of_lt (by omega)
theorem pgN_full {m k q : Nat} (hm : 0 < m) (hk : k = q * m) : pgN m k = q ∧ pgN m (k + 1) = q + 1 := by
  subst hk
  unfold pgN
  constructor
  · rw [show q * m + m - 1 = (m - 1) + m * q by rw [Nat.mul_comm]; omega, Nat.add_mul_div_left _ _ hm, Nat.div_eq_of_lt (by omega)]; omega
  · rw [show q * m + 1 + m - 1 = 0 + m * (q + 1) by rw [Nat.mul_succ, Nat.mul_comm]; omega, Nat.add_mul_div_left _ _ hm]; simp
theorem pgN_part {m k q r : Nat} (hm : 0 < m) (hk : k = q * m + r) (hr0 : 0 < r) (hr : r ≤ m) : pgN m k = q + 1 := by
  subst hk
  unfold pgN
  rw [show q * m + r + m - 1 = (r - 1) + m * (q + 1) by rw [Nat.mul_succ, Nat.mul_comm]; omega, Nat.add_mul_div_left _ _ hm, Nat.div_eq_of_lt (by omega)]; omega
theorem pgAt_take_old {α : Type} {m k k' j : Nat} {xs : List α} (h1 : (j + 1) * m ≤ k) (h2 : (j + 1) * m ≤ k') : pgAt m (xs.take k) j = pgAt m (xs.take k') j := by
  unfold pgAt
  rw [Nat.succ_mul] at h1 h2
  rw [List.drop_take, List.drop_take, List.take_take, List.take_take, Nat.min_eq_left (by omega), Nat.min_eq_left (by omega)]
theorem pgAt_last {α : Type} {m k j r : Nat} {xs : List α} (hk : k = j * m + r) (hr : r ≤ m) (hl : k ≤ xs.length) : pgAt m (xs.take k) j = (xs.drop (j * m)).take r := by
  unfold pgAt
  rw [List.drop_take, List.take_take, hk, Nat.add_sub_cancel_left, Nat.min_eq_right hr]
theorem pgAt_len {α : Type} {m k j r : Nat} {xs : List α} (hk : k = j * m + r) (hr : r ≤ m) (hl : k ≤ xs.length) : (pgAt m (xs.take k) j).length = r := by
  rw [pgAt_last hk hr hl, List.length_take, List.length_drop]; omega
theorem pgAt_snoc {α : Type} {m k j r : Nat} {xs : List α} (hk : k = j * m + r) (hr : r < m) (hl : k < xs.length) : pgAt m (xs.take (k + 1)) j = pgAt m (xs.take k) j ++ [xs[k]] := by
  rw [pgAt_last (r := r + 1) (by omega) (by omega) (by omega), pgAt_last (r := r) hk (by omega) (by omega), List.take_add_one, List.getElem?_drop, ← hk, List.getElem?_eq_getElem hl]; rfl
theorem pgAt_first {α : Type} {m k j : Nat} {xs : List α} (hk : k = j * m) (hm : 0 < m) (hl : k < xs.length) : pgAt m (xs.take (k + 1)) j = [xs[k]] := by
  rw [pgAt_snoc (r := 0) (by omega) hm hl]
  have h0 := pgAt_len (m := m) (k := k) (j := j) (r := 0) (xs := xs) (by omega) (by omega) (by omega)
  rw [List.eq_nil_of_length_eq_zero h0]; rfl

theorem own_stays {α : Type} {E : Flat α} {w w' : World} {B : Nat} {e : TypeId} {v : Value} {L : List α} (h : Own E w B e v L) (hk : ∀ k, v.ownBlock = some k → k < w.heap.size → w'.heap[k]? = w.heap[k]?) : Own E w' B e v L := by
  obtain ⟨h1, h2⟩ := h
  refine ⟨h1, ?_⟩
  rcases h2 with h2 | ⟨g, cap, cur, hv, hg, hh, r⟩
  · exact .inl h2
  · have hgl : g < w.heap.size := by
      rcases Nat.lt_or_ge g w.heap.size with hlt | hge
      · exact hlt
      · rw [Array.getElem?_eq_none hge] at hh; cases hh
    exact .inr ⟨g, cap, cur, hv, hg, by rw [hk g (by rw [hv]; rfl) hgl]; exact hh, r⟩
theorem own_at {α : Type} {E : Flat α} {w : World} {B : Nat} {e : TypeId} {v : Value} {L : List α} (h : Own E w B e v L) {g : Nat} (hg : v.ownBlock = some g) : B ≤ g ∧ g < w.heap.size := by
  rcases h.2 with ⟨hv, _⟩ | ⟨g', cap, cur, hv, hg', hh, _⟩
  · rw [hv] at hg; cases hg
  · rw [hv] at hg
    injection hg with hg
    have hg : g' = g := hg
    subst hg
    refine ⟨hg', ?_⟩
    rcases Nat.lt_or_ge g' w.heap.size with hlt | hge
    · exact hlt
    · rw [Array.getElem?_eq_none hge] at hh; cases hh
theorem own_fp {α : Type} {E : Flat α} {w : World} {base : Nat} {e : TypeId} {v : Value} {L : List α} (h : Own E w base e v L) (hok : ∀ x ∈ L, E.ok x) :
    ∃ fp, Sl E.cod w v L fp ∧ (∀ b ∈ fp, base ≤ b) ∧ fp.Nodup ∧ ∀ b ∈ fp, v.ownBlock = some b := by
  obtain ⟨fp, h1, h2, h3⟩ := Sl.of_own (n := L.length) rfl h hok
  rcases Nat.eq_zero_or_pos L.length with h0 | h0
  · obtain rfl := List.eq_nil_of_length_eq_zero h0
    refine ⟨[], ?_, by simp, by simp, by simp⟩
    obtain ⟨A, cap, hv, hl, hc, _⟩ := h1
    exact ⟨A, cap, hv, hl, hc, .inl ⟨rfl, rfl⟩⟩
  · refine ⟨fp, h1, h2, h3, fun b hb => ?_⟩
    obtain ⟨A, cap, rfl, _, _⟩ := h1.form
    obtain ⟨b', off, hA, hfp, _⟩ := h1.cells h0
    subst hA
    rw [hfp] at hb
    rw [List.mem_singleton] at hb
    subst hb
    rfl
structure PgV (w : World) (B : Nat) (v : Value) (n : Nat) (V : Nat → Value) (X : Nat → List ByteArray) (G : Nat → Nat) : Prop where
  own : w.ownsRow B 79 1 v n ((List.range n).map V)
  row : ∀ i, i < n → Own fStr w B 9 (V i) (X i)
  blk : ∀ i, i < n → (V i).ownBlock = some (G i)
  inj : ∀ i j, i < n → j < n → G i = G j → i = j
  ap : ∀ i, i < n → v.ownBlock ≠ some (G i)
section
variable {w w' u : World} {B n : Nat} {v v' : Value} {V : Nat → Value} {X : Nat → List ByteArray} {G : Nat → Nat}
theorem PgV.gl (h : PgV w B v n V X G) {i : Nat} (hi : i < n) : B ≤ G i ∧ G i < w.heap.size := own_at (h.row i hi) (h.blk i hi)
theorem PgV.below (h : PgV w B v n V X G) (hb : Below w.heap.size w w') : PgV w' B v n V X G :=
  ⟨ownsRow_belowR h.own hb, fun i hi => (h.row i hi).below hb, h.blk, h.inj, h.ap⟩
theorem PgV.nil {c : Nat} (hw : w.ownsRow B 79 1 v 0 []) : PgV w B v 0 (fun _ => undef) (fun _ => []) (fun _ => 0) :=
  ⟨hw, fun i hi => absurd hi (Nat.not_lt_zero i), fun i hi => absurd hi (Nat.not_lt_zero i), fun i j hi => absurd hi (Nat.not_lt_zero i), fun i hi => absurd hi (Nat.not_lt_zero i)⟩
theorem PgV.congr {X' : Nat → List ByteArray} (h : PgV w B v n V X G) (hx : ∀ i, i < n → X i = X' i) : PgV w B v n V X' G :=
  ⟨h.own, fun i hi => by rw [← hx i hi]; exact h.row i hi, h.blk, h.inj, h.ap⟩
theorem PgV.form (h : PgV w B v n V X G) : ∃ A cap, v = .slice A n cap := by
  rcases h.own.2 with ⟨hv, h0⟩ | ⟨g, cap, cur, hv, _⟩
  · exact ⟨none, 0, by rw [hv, h0]⟩
  · exact ⟨_, cap, hv⟩
theorem PgV.addr (h : PgV w B v n V X G) (h0 : 0 < n) : ∃ g cap, v = .slice (some ⟨g, 0, none⟩) n cap ∧ B ≤ g ∧ g < w.heap.size := by
  rcases h.own.2 with ⟨hv, h1⟩ | ⟨g, cap, cur, hv, hg, hh, _⟩
  · omega
  · refine ⟨g, cap, hv, hg, ?_⟩
    rcases Nat.lt_or_ge g w.heap.size with hlt | hge
    · exact hlt
    · rw [Array.getElem?_eq_none hge] at hh; cases hh
theorem PgV.last (h : PgV w B v n V X G) {i : Nat} (hi : i < n) (h0 : 0 < (X i).length) : ∃ c, V i = .slice (some ⟨G i, 0, none⟩) (X i).length c := by
  have hb := h.blk i hi
  rcases (h.row i hi).2 with ⟨hv, h1⟩ | ⟨g, cap, cur, hv, _⟩
  · omega
  · rw [hv] at hb
    injection hb with hb
    have hb : g = G i := hb
    subst hb
    exact ⟨cap, hv⟩
/-- One page more. -/
theorem PgV.push {r : List ByteArray} {y : Value} {gy : Nat} (h : PgV w B v n V X G) (hy : Own fStr w B 9 y r) (hgy : y.ownBlock = some gy) (hne : ∀ i, i < n → G i ≠ gy) (hvy : v.ownBlock ≠ some gy)
    (hown : u.ownsRow B 79 1 v' (n + 1) ((List.range n).map V ++ [y])) (hg : w.grownBy u v.ownBlock) (hl : v'.ownBlock = v.ownBlock ∨ v'.ownBlock = some w.heap.size) :
    PgV u B v' (n + 1) (fun i => if i = n then y else V i) (fun i => if i = n then r else X i) (fun i => if i = n then gy else G i) := by
  have keep : ∀ {z : Value} {q : List ByteArray} {b : Nat}, Own fStr w B 9 z q → z.ownBlock = some b → v.ownBlock ≠ some b → Own fStr u B 9 z q := fun hz hb hne => own_stays hz fun k hk hkl => hg.block k hkl (fun e => hne (by rw [← e]; rw [hb] at hk; exact hk.symm))
  have apart : ∀ {b : Nat}, b < w.heap.size → v.ownBlock ≠ some b → v'.ownBlock ≠ some b := fun hb hne => by
    rcases hl with e | e
    · rw [e]; exact hne
    · rw [e]; intro h2; injection h2 with h2; omega
  have hyl := own_at hy hgy
  refine ⟨?_, fun i hi => ?_, fun i hi => ?_, fun i j hi hj e => ?_, fun i hi => ?_⟩
  · have em : (List.range (n + 1)).map (fun i => if i = n then y else V i) = (List.range n).map V ++ [y] := by
      rw [List.range_succ, List.map_append, List.map_cons, List.map_nil, if_pos rfl]
      congr 1
      exact List.map_congr_left (fun i hi => if_neg (by have : i < n := by simpa using hi
                                                        omega))
    rw [em]
    exact hown
  · by_cases e : i = n
    · rw [if_pos e, if_pos e]; exact keep hy hgy hvy
    · rw [if_neg e, if_neg e]; exact keep (h.row i (by omega)) (h.blk i (by omega)) (h.ap i (by omega))
  · by_cases e : i = n
    · rw [if_pos e, if_pos e]; exact hgy
    · rw [if_neg e, if_neg e]; exact h.blk i (by omega)
  · by_cases e1 : i = n <;> by_cases e2 : j = n
    · omega
    · rw [if_pos e1, if_neg e2] at e; exact absurd e.symm (hne j (by omega))
    · rw [if_neg e1, if_pos e2] at e; exact absurd e (hne i (by omega))
    · rw [if_neg e1, if_neg e2] at e; exact h.inj i j (by omega) (by omega) e
  · by_cases e : i = n
    · rw [if_pos e]; exact apart hyl.2 hvy
    · rw [if_neg e]; exact apart (h.gl (by omega)).2 (h.ap i (by omega))
/-- The last page grows: its row went to y, in the world u; its place is stored. -/
theorem PgV.grow {g cap : Nat} {r : List ByteArray} {y : Value} {gy : Nat} (h : PgV w B (.slice (some ⟨g, 0, none⟩) (n + 1) cap) (n + 1) V X G) (hy : Own fStr u B 9 y r) (hgy : y.ownBlock = some gy)
    (hg : w.grownBy u (V n).ownBlock) (hl : y.ownBlock = (V n).ownBlock ∨ y.ownBlock = some w.heap.size) :
    PgV (u.setCell ⟨g, n, none⟩ y) B (.slice (some ⟨g, 0, none⟩) (n + 1) cap) (n + 1) (fun i => if i = n then y else V i) (fun i => if i = n then r else X i) (fun i => if i = n then gy else G i) := by
  obtain ⟨g', cap', hv, hgB, hgl⟩ := h.addr (by omega)
  injection hv with hv1 _ hv2
  injection hv1 with hv1
  injection hv1 with hv1
  subst hv1 hv2
  have hbn := h.blk n (by omega)
  have hgn : g ≠ G n := fun e => h.ap n (by omega) (by rw [← e]; rfl)
  have hgu : u.heap[g]? = w.heap[g]? := hg.block g hgl (by rw [hbn]; intro e; injection e with e; exact hgn e)
  have hgGi : ∀ i, i < n + 1 → g ≠ G i := fun i hi e => h.ap i hi (by rw [← e]; rfl)
  have hgy' : gy = G n ∨ gy = w.heap.size := by
    rcases hl with e | e
    · rw [hgy, hbn] at e; injection e with e; exact .inl e
    · rw [hgy] at e; injection e with e; exact .inr e
  have hne : g ≠ gy := by
    rcases hgy' with e | e
    · rw [e]; exact hgn
    · omega
  have hset : ∀ k, k < u.heap.size → k ≠ g → (u.setCell ⟨g, n, none⟩ y).heap[k]? = u.heap[k]? := fun k hkl hk => ((Only.refl [g] u).set n y).block k hkl (by rw [List.mem_singleton]; exact hk)
  refine ⟨?_, fun i hi => ?_, fun i hi => ?_, fun i j hi hj e => ?_, fun i hi => ?_⟩
  · have hu : u.ownsRow B 79 1 (.slice (some ⟨g, 0, none⟩) (n + 1) cap) (n + 1) ((List.range (n + 1)).map V) := by
      obtain ⟨h1, h2⟩ := h.own
      refine ⟨h1, ?_⟩
      rcases h2 with ⟨hv, _⟩ | ⟨g2, c2, cur, hv, q1, q2, q3⟩
      · cases hv
      · injection hv with e1 _ e2
        injection e1 with e1
        injection e1 with e1
        subst e1 e2
        exact .inr ⟨g, cap, cur, rfl, q1, by rw [hgu]; exact q2, q3⟩
    have h2 := (hu.stored n y).1
    have em : ((List.range (n + 1)).map V).set n y = (List.range (n + 1)).map (fun i => if i = n then y else V i) := by
      refine List.ext_getElem (by simp) (fun i h1 h2 => ?_)
      rw [List.getElem_set]
      simp only [List.length_map, List.length_range] at h2
      by_cases e : n = i
      · subst e; simp
      · rw [if_neg e]; simp [Ne.symm e]
    rw [em] at h2
    exact h2
  · by_cases e : i = n
    · rw [if_pos e, if_pos e]
      exact own_stays hy (fun k hk hkl => hset k hkl (fun e2 => by rw [hgy] at hk; injection hk with hk; exact hne (by rw [← e2, ← hk])))
    · rw [if_neg e, if_neg e]
      have hGi : G i ≠ G n := fun e2 => e (h.inj i n (by omega) (by omega) e2)
      have h1 : Own fStr u B 9 (V i) (X i) := own_stays (h.row i (by omega)) (fun k hk hkl => hg.block k hkl (by
        rw [h.blk i (by omega)] at hk; injection hk with hk
        rw [hbn, ← hk]; intro e2; injection e2 with e2; exact hGi e2))
      exact own_stays h1 (fun k hk hkl => hset k hkl (fun e2 => by
        rw [h.blk i (by omega)] at hk; injection hk with hk
        exact hgGi i (by omega) (by rw [← e2, ← hk])))
  · by_cases e : i = n
    · rw [if_pos e, if_pos e]; exact hgy
    · rw [if_neg e, if_neg e]; exact h.blk i (by omega)
  · have hlt : ∀ k, k < n → G k ≠ gy := fun k hk e => by
      rcases hgy' with e2 | e2
      · have := h.inj k n (by omega) (by omega) (e.trans e2); omega
      · have := (h.gl (i := k) (by omega)).2; omega
    by_cases e1 : i = n <;> by_cases e2 : j = n
    · omega
    · rw [if_pos e1, if_neg e2] at e; exact absurd e.symm (hlt j (by omega))
    · rw [if_neg e1, if_pos e2] at e; exact absurd e (hlt i (by omega))
    · rw [if_neg e1, if_neg e2] at e; exact h.inj i j (by omega) (by omega) e
  · show some g ≠ _
    by_cases e : i = n
    · rw [if_pos e]; intro e3; injection e3 with e3; exact hne e3
    · rw [if_neg e]; intro e3; injection e3 with e3; exact hgGi i (by omega) e3
/-- It reads as a slice of slices. -/
theorem PgV.sl {xss : List (List ByteArray)} (h : PgV w B v n V X G) (hx : xss = (List.range n).map X) (hok : ∀ i, i < n → ∀ x ∈ X i, fStr.ok x) : ∃ fp, Sl fStr.cod.slice w v xss fp ∧ (∀ b ∈ fp, B ≤ b) ∧ fp.Nodup := by
  have hxl : xss.length = n := by rw [hx]; simp
  rcases Nat.eq_zero_or_pos n with h0 | h0
  · subst h0
    obtain ⟨A, cap, rfl⟩ := h.form
    have : xss = [] := List.eq_nil_of_length_eq_zero hxl
    subst this
    have hc : 0 ≤ cap ∧ cap ≤ maxLen := by
      rcases h.own.2 with ⟨hv, _⟩ | ⟨g, c, cur, hv, _, _, _, hcm, _⟩
      · injection hv with _ _ e; subst e; simp [maxLen]
      · injection hv with _ _ e; subst e; exact ⟨Nat.zero_le _, hcm⟩
    exact ⟨[], ⟨A, cap, rfl, hc.1, hc.2, .inl ⟨rfl, rfl⟩⟩, by simp, by simp⟩
  · obtain ⟨g, cap, rfl, hgB, hgl⟩ := h.addr h0
    have hex : ∀ i, ∃ f : List Nat, i < n → Sl fStr.cod w (V i) (X i) f ∧ (∀ b ∈ f, B ≤ b) ∧ f.Nodup ∧ ∀ b ∈ f, (V i).ownBlock = some b := fun i => by
      by_cases hi : i < n
      · obtain ⟨f, hf⟩ := own_fp (h.row i hi) (hok i hi)
        exact ⟨f, fun _ => hf⟩
      · exact ⟨[], fun h => absurd h hi⟩
    obtain ⟨F, hF⟩ := Classical.axiomOfChoice hex
    have hFG : ∀ i, i < n → ∀ b ∈ F i, b = G i := fun i hi b hb => by
      have h1 := (hF i hi).2.2.2 b hb
      rw [h.blk i hi] at h1
      injection h1 with h1; exact h1.symm
    obtain ⟨hcn, hcm⟩ : n ≤ cap ∧ cap ≤ maxLen := by
      rcases h.own.2 with ⟨hv, _⟩ | ⟨g', c, cur, hv, _, _, hnc, hcm, _⟩
      · cases hv
      · injection hv with _ _ e; subst e; exact ⟨hnc, hcm⟩
    have hr : NRows fStr.cod w g 0 n V X F := ⟨fun i hi => by
      rw [Nat.zero_add, h.own.cellAt i (by omega), List.getElem?_map, List.getElem?_range hi]; rfl, fun i _ => by rw [Nat.zero_add]; exact h.own.frozenAt i, fun i hi => (hF i hi).1⟩
    refine ⟨g :: (List.range n).flatMap F, hr.sl hgl hxl (fun i hi => by rw [List.getElem_of_eq hx]; simp) hcn hcm, ?_, ?_⟩
    · intro b hb
      rcases List.mem_cons.1 hb with rfl | hb
      · exact hgB
      · obtain ⟨i, hi, hb⟩ := List.mem_flatMap.1 hb
        exact (hF i (by simpa using hi)).2.1 b hb
    · rw [List.nodup_cons]
      constructor
      · intro hb
        obtain ⟨i, hi, hb⟩ := List.mem_flatMap.1 hb
        have hi : i < n := by simpa using hi
        have := hFG i hi g hb
        exact h.ap i hi (by rw [← this]; rfl)
      · unfold List.Nodup
        rw [List.pairwise_flatMap]
        refine ⟨fun i hi => (hF i (by simpa using hi)).2.2.1, ?_⟩
        refine (List.pairwise_lt_range).imp_of_mem ?_
        intro i j hi hj hij b hb c hc e
        have hi : i < n := by simpa using hi
        have hj : j < n := by simpa using hj
        have e1 := hFG i hi b hb
        have e2 := hFG j hj c hc
        have := h.inj i j hi hj (by rw [← e1, ← e2, e])
        omega
end
end Go.Proofs.YtphljobklilbdaaGreatDoor

namespace Go.Proofs.YtphljobklilbdaaGreatDoor
open Go.RowKit
set_option linter.unusedVariables false

structure PgW (w : World) (B : Nat) (v : Value) (n : Nat) (V : Nat → Value) (X : Nat → List Int) (G : Nat → Nat) : Prop where
  own : w.ownsRow B 34 1 v n ((List.range n).map V)
  row : ∀ i, i < n → Own fInt w B 2 (V i) (X i)
  blk : ∀ i, i < n → (V i).ownBlock = some (G i)
  inj : ∀ i j, i < n → j < n → G i = G j → i = j
  ap : ∀ i, i < n → v.ownBlock ≠ some (G i)
section
variable {w w' u : World} {B n : Nat} {v v' : Value} {V : Nat → Value} {X : Nat → List Int} {G : Nat → Nat}
theorem PgW.gl (h : PgW w B v n V X G) {i : Nat} (hi : i < n) : B ≤ G i ∧ G i < w.heap.size := own_at (h.row i hi) (h.blk i hi)
theorem PgW.below (h : PgW w B v n V X G) (hb : Below w.heap.size w w') : PgW w' B v n V X G :=
  ⟨ownsRow_belowR h.own hb, fun i hi => (h.row i hi).below hb, h.blk, h.inj, h.ap⟩
theorem PgW.nil {c : Nat} (hw : w.ownsRow B 34 1 v 0 []) : PgW w B v 0 (fun _ => undef) (fun _ => []) (fun _ => 0) :=
  ⟨hw, fun i hi => absurd hi (Nat.not_lt_zero i), fun i hi => absurd hi (Nat.not_lt_zero i), fun i j hi => absurd hi (Nat.not_lt_zero i), fun i hi => absurd hi (Nat.not_lt_zero i)⟩
theorem PgW.congr {X' : Nat → List Int} (h : PgW w B v n V X G) (hx : ∀ i, i < n → X i = X' i) : PgW w B v n V X' G :=
  ⟨h.own, fun i hi => by rw [← hx i hi]; exact h.row i hi, h.blk, h.inj, h.ap⟩
theorem PgW.form (h : PgW w B v n V X G) : ∃ A cap, v = .slice A n cap := by
  rcases h.own.2 with ⟨hv, h0⟩ | ⟨g, cap, cur, hv, _⟩
  · exact ⟨none, 0, by rw [hv, h0]⟩
  · exact ⟨_, cap, hv⟩
theorem PgW.addr (h : PgW w B v n V X G) (h0 : 0 < n) : ∃ g cap, v = .slice (some ⟨g, 0, none⟩) n cap ∧ B ≤ g ∧ g < w.heap.size := by
  rcases h.own.2 with ⟨hv, h1⟩ | ⟨g, cap, cur, hv, hg, hh, _⟩
  · omega
  · refine ⟨g, cap, hv, hg, ?_⟩
    rcases Nat.lt_or_ge g w.heap.size with hlt | hge
    · exact hlt
    · rw [Array.getElem?_eq_none hge] at hh; cases hh
theorem PgW.last (h : PgW w B v n V X G) {i : Nat} (hi : i < n) (h0 : 0 < (X i).length) : ∃ c, V i = .slice (some ⟨G i, 0, none⟩) (X i).length c := by
  have hb := h.blk i hi
  rcases (h.row i hi).2 with ⟨hv, h1⟩ | ⟨g, cap, cur, hv, _⟩
  · omega
  · rw [hv] at hb
    injection hb with hb
    have hb : g = G i := hb
    subst hb
    exact ⟨cap, hv⟩
/-- One page more. -/
theorem PgW.push {r : List Int} {y : Value} {gy : Nat} (h : PgW w B v n V X G) (hy : Own fInt w B 2 y r) (hgy : y.ownBlock = some gy) (hne : ∀ i, i < n → G i ≠ gy) (hvy : v.ownBlock ≠ some gy)
    (hown : u.ownsRow B 34 1 v' (n + 1) ((List.range n).map V ++ [y])) (hg : w.grownBy u v.ownBlock) (hl : v'.ownBlock = v.ownBlock ∨ v'.ownBlock = some w.heap.size) :
    PgW u B v' (n + 1) (fun i => if i = n then y else V i) (fun i => if i = n then r else X i) (fun i => if i = n then gy else G i) := by
  have keep : ∀ {z : Value} {q : List Int} {b : Nat}, Own fInt w B 2 z q → z.ownBlock = some b → v.ownBlock ≠ some b → Own fInt u B 2 z q := fun hz hb hne => own_stays hz fun k hk hkl => hg.block k hkl (fun e => hne (by rw [← e]; rw [hb] at hk; exact hk.symm))
  have apart : ∀ {b : Nat}, b < w.heap.size → v.ownBlock ≠ some b → v'.ownBlock ≠ some b := fun hb hne => by
    rcases hl with e | e
    · rw [e]; exact hne
    · rw [e]; intro h2; injection h2 with h2; omega
  have hyl := own_at hy hgy
  refine ⟨?_, fun i hi => ?_, fun i hi => ?_, fun i j hi hj e => ?_, fun i hi => ?_⟩
  · have em : (List.range (n + 1)).map (fun i => if i = n then y else V i) = (List.range n).map V ++ [y] := by
      rw [List.range_succ, List.map_append, List.map_cons, List.map_nil, if_pos rfl]
      congr 1
      exact List.map_congr_left (fun i hi => if_neg (by have : i < n := by simpa using hi
                                                        omega))
    rw [em]
    exact hown
  · by_cases e : i = n
    · rw [if_pos e, if_pos e]; exact keep hy hgy hvy
    · rw [if_neg e, if_neg e]; exact keep (h.row i (by omega)) (h.blk i (by omega)) (h.ap i (by omega))
  · by_cases e : i = n
    · rw [if_pos e, if_pos e]; exact hgy
    · rw [if_neg e, if_neg e]; exact h.blk i (by omega)
  · by_cases e1 : i = n <;> by_cases e2 : j = n
    · omega
    · rw [if_pos e1, if_neg e2] at e; exact absurd e.symm (hne j (by omega))
    · rw [if_neg e1, if_pos e2] at e; exact absurd e (hne i (by omega))
    · rw [if_neg e1, if_neg e2] at e; exact h.inj i j (by omega) (by omega) e
  · by_cases e : i = n
    · rw [if_pos e]; exact apart hyl.2 hvy
    · rw [if_neg e]; exact apart (h.gl (by omega)).2 (h.ap i (by omega))
/-- The last page grows: its row went to y, in the world u; its place is stored. -/
theorem PgW.grow {g cap : Nat} {r : List Int} {y : Value} {gy : Nat} (h : PgW w B (.slice (some ⟨g, 0, none⟩) (n + 1) cap) (n + 1) V X G) (hy : Own fInt u B 2 y r) (hgy : y.ownBlock = some gy)
    (hg : w.grownBy u (V n).ownBlock) (hl : y.ownBlock = (V n).ownBlock ∨ y.ownBlock = some w.heap.size) :
    PgW (u.setCell ⟨g, n, none⟩ y) B (.slice (some ⟨g, 0, none⟩) (n + 1) cap) (n + 1) (fun i => if i = n then y else V i) (fun i => if i = n then r else X i) (fun i => if i = n then gy else G i) := by
  obtain ⟨g', cap', hv, hgB, hgl⟩ := h.addr (by omega)
  injection hv with hv1 _ hv2
  injection hv1 with hv1
  injection hv1 with hv1
  subst hv1 hv2
  have hbn := h.blk n (by omega)
  have hgn : g ≠ G n := fun e => h.ap n (by omega) (by rw [← e]; rfl)
  have hgu : u.heap[g]? = w.heap[g]? := hg.block g hgl (by rw [hbn]; intro e; injection e with e; exact hgn e)
  have hgGi : ∀ i, i < n + 1 → g ≠ G i := fun i hi e => h.ap i hi (by rw [← e]; rfl)
  have hgy' : gy = G n ∨ gy = w.heap.size := by
    rcases hl with e | e
    · rw [hgy, hbn] at e; injection e with e; exact .inl e
    · rw [hgy] at e; injection e with e; exact .inr e
  have hne : g ≠ gy := by
    rcases hgy' with e | e
    · rw [e]; exact hgn
    · omega
  have hset : ∀ k, k < u.heap.size → k ≠ g → (u.setCell ⟨g, n, none⟩ y).heap[k]? = u.heap[k]? := fun k hkl hk => ((Only.refl [g] u).set n y).block k hkl (by rw [List.mem_singleton]; exact hk)
  refine ⟨?_, fun i hi => ?_, fun i hi => ?_, fun i j hi hj e => ?_, fun i hi => ?_⟩
  · have hu : u.ownsRow B 34 1 (.slice (some ⟨g, 0, none⟩) (n + 1) cap) (n + 1) ((List.range (n + 1)).map V) := by
      obtain ⟨h1, h2⟩ := h.own
      refine ⟨h1, ?_⟩
      rcases h2 with ⟨hv, _⟩ | ⟨g2, c2, cur, hv, q1, q2, q3⟩
      · cases hv
      · injection hv with e1 _ e2
        injection e1 with e1
        injection e1 with e1
        subst e1 e2
        exact .inr ⟨g, cap, cur, rfl, q1, by rw [hgu]; exact q2, q3⟩
    have h2 := (hu.stored n y).1
    have em : ((List.range (n + 1)).map V).set n y = (List.range (n + 1)).map (fun i => if i = n then y else V i) := by
      refine List.ext_getElem (by simp) (fun i h1 h2 => ?_)
      rw [List.getElem_set]
      simp only [List.length_map, List.length_range] at h2
      by_cases e : n = i
      · subst e; simp
      · rw [if_neg e]; simp [Ne.symm e]
    rw [em] at h2
    exact h2
  · by_cases e : i = n
    · rw [if_pos e, if_pos e]
      exact own_stays hy (fun k hk hkl => hset k hkl (fun e2 => by rw [hgy] at hk; injection hk with hk; exact hne (by rw [← e2, ← hk])))
    · rw [if_neg e, if_neg e]
      have hGi : G i ≠ G n := fun e2 => e (h.inj i n (by omega) (by omega) e2)
      have h1 : Own fInt u B 2 (V i) (X i) := own_stays (h.row i (by omega)) (fun k hk hkl => hg.block k hkl (by
        rw [h.blk i (by omega)] at hk; injection hk with hk
        rw [hbn, ← hk]; intro e2; injection e2 with e2; exact hGi e2))
      exact own_stays h1 (fun k hk hkl => hset k hkl (fun e2 => by
        rw [h.blk i (by omega)] at hk; injection hk with hk
        exact hgGi i (by omega) (by rw [← e2, ← hk])))
  · by_cases e : i = n
    · rw [if_pos e, if_pos e]; exact hgy
    · rw [if_neg e, if_neg e]; exact h.blk i (by omega)
  · have hlt : ∀ k, k < n → G k ≠ gy := fun k hk e => by
      rcases hgy' with e2 | e2
      · have := h.inj k n (by omega) (by omega) (e.trans e2); omega
      · have := (h.gl (i := k) (by omega)).2; omega
    by_cases e1 : i = n <;> by_cases e2 : j = n
    · omega
    · rw [if_pos e1, if_neg e2] at e; exact absurd e.symm (hlt j (by omega))
    · rw [if_neg e1, if_pos e2] at e; exact absurd e (hlt i (by omega))
    · rw [if_neg e1, if_neg e2] at e; exact h.inj i j (by omega) (by omega) e
  · show some g ≠ _
    by_cases e : i = n
    · rw [if_pos e]; intro e3; injection e3 with e3; exact hne e3
    · rw [if_neg e]; intro e3; injection e3 with e3; exact hgGi i (by omega) e3
/-- It reads as a slice of slices. -/
theorem PgW.sl {xss : List (List Int)} (h : PgW w B v n V X G) (hx : xss = (List.range n).map X) (hok : ∀ i, i < n → ∀ x ∈ X i, fInt.ok x) : ∃ fp, Sl fInt.cod.slice w v xss fp ∧ (∀ b ∈ fp, B ≤ b) ∧ fp.Nodup := by
  have hxl : xss.length = n := by rw [hx]; simp
  rcases Nat.eq_zero_or_pos n with h0 | h0
  · subst h0
    obtain ⟨A, cap, rfl⟩ := h.form
    have : xss = [] := List.eq_nil_of_length_eq_zero hxl
    subst this
    have hc : 0 ≤ cap ∧ cap ≤ maxLen := by
      rcases h.own.2 with ⟨hv, _⟩ | ⟨g, c, cur, hv, _, _, _, hcm, _⟩
      · injection hv with _ _ e; subst e; simp [maxLen]
      · injection hv with _ _ e; subst e; exact ⟨Nat.zero_le _, hcm⟩
    exact ⟨[], ⟨A, cap, rfl, hc.1, hc.2, .inl ⟨rfl, rfl⟩⟩, by simp, by simp⟩
  · obtain ⟨g, cap, rfl, hgB, hgl⟩ := h.addr h0
    have hex : ∀ i, ∃ f : List Nat, i < n → Sl fInt.cod w (V i) (X i) f ∧ (∀ b ∈ f, B ≤ b) ∧ f.Nodup ∧ ∀ b ∈ f, (V i).ownBlock = some b := fun i => by
      by_cases hi : i < n
      · obtain ⟨f, hf⟩ := own_fp (h.row i hi) (hok i hi)
        exact ⟨f, fun _ => hf⟩
      · exact ⟨[], fun h => absurd h hi⟩
    obtain ⟨F, hF⟩ := Classical.axiomOfChoice hex
    have hFG : ∀ i, i < n → ∀ b ∈ F i, b = G i := fun i hi b hb => by
      have h1 := (hF i hi).2.2.2 b hb
      rw [h.blk i hi] at h1
      injection h1 with h1; exact h1.symm
    obtain ⟨hcn, hcm⟩ : n ≤ cap ∧ cap ≤ maxLen := by
      rcases h.own.2 with ⟨hv, _⟩ | ⟨g', c, cur, hv, _, _, hnc, hcm, _⟩
      · cases hv
      · injection hv with _ _ e; subst e; exact ⟨hnc, hcm⟩
    have hr : NRows fInt.cod w g 0 n V X F := ⟨fun i hi => by
      rw [Nat.zero_add, h.own.cellAt i (by omega), List.getElem?_map, List.getElem?_range hi]; rfl, fun i _ => by rw [Nat.zero_add]; exact h.own.frozenAt i, fun i hi => (hF i hi).1⟩
    refine ⟨g :: (List.range n).flatMap F, hr.sl hgl hxl (fun i hi => by rw [List.getElem_of_eq hx]; simp) hcn hcm, ?_, ?_⟩
    · intro b hb
      rcases List.mem_cons.1 hb with rfl | hb
      · exact hgB
      · obtain ⟨i, hi, hb⟩ := List.mem_flatMap.1 hb
        exact (hF i (by simpa using hi)).2.1 b hb
    · rw [List.nodup_cons]
      constructor
      · intro hb
        obtain ⟨i, hi, hb⟩ := List.mem_flatMap.1 hb
        have hi : i < n := by simpa using hi
        have := hFG i hi g hb
        exact h.ap i hi (by rw [← this]; rfl)
      · unfold List.Nodup
        rw [List.pairwise_flatMap]
        refine ⟨fun i hi => (hF i (by simpa using hi)).2.2.1, ?_⟩
        refine (List.pairwise_lt_range).imp_of_mem ?_
        intro i j hi hj hij b hb c hc e
        have hi : i < n := by simpa using hi
        have hj : j < n := by simpa using hj
        have e1 := hFG i hi b hb
        have e2 := hFG j hj c hc
        have := h.inj i j hi hj (by rw [← e1, ← e2, e])
        omega
end
end Go.Proofs.YtphljobklilbdaaGreatDoor

namespace Go.Proofs.YtphljobklilbdaaGreatDoor
open Go.RowKit
set_option linter.unusedVariables false

/-- The block g holds these values, from its first cell on; none is frozen. -/
structure BoxL (w : World) (g : Nat) (vs : List Value) : Prop where
  cell : ∀ j v, vs[j]? = some v → w.cell? ⟨g, j, none⟩ = some v
  frz : ∀ j, j < vs.length → w.frozen? ⟨g, j, none⟩ = false
  lt : g < w.heap.size
theorem BoxL.keep {w w' : World} {g : Nat} {vs : List Value} (h : BoxL w g vs) (hk : w'.heap[g]? = w.heap[g]?) (hs : w.heap.size ≤ w'.heap.size) : BoxL w' g vs :=
  ⟨fun j v hv => (World.cell?_of_block (a := ⟨g, j, none⟩) hk).trans (h.cell j v hv), fun j hj => (World.frozen?_of_block (a := ⟨g, j, none⟩) hk).trans (h.frz j hj), Nat.lt_of_lt_of_le h.lt hs⟩
theorem BoxL.below {w w' : World} {g : Nat} {vs : List Value} (h : BoxL w g vs) (hb : Below w.heap.size w w') : BoxL w' g vs := h.keep (hb.block g h.lt) hb.size
theorem BoxL.set {w : World} {g : Nat} {vs : List Value} (h : BoxL w g vs) (j : Nat) (v : Value) : BoxL (w.setCell ⟨g, j, none⟩ v) g (vs.set j v) := by
  have hsz : (w.setCell ⟨g, j, none⟩ v).heap.size = w.heap.size := World.size_setCell ..
  refine ⟨fun i u hu => ?_, fun i hi => ?_, by rw [hsz]; exact h.lt⟩
  · rw [List.getElem?_set] at hu
    by_cases e : j = i
    · subst e
      rw [if_pos rfl] at hu
      split at hu
      · rename_i hl
        injection hu with hu
        subst hu
        exact World.cell?_setCell_same _ _ _ (h.cell j _ (List.getElem?_eq_getElem hl))
      · cases hu
    · rw [if_neg e] at hu
      rw [World.cell?_setCell_other _ _ _ _ (by simp)]
      exact h.cell i u hu
  · rw [frozen?_setCell]
    exact h.frz i (by simpa using hi)
theorem BoxL.setOther {w : World} {g : Nat} {vs : List Value} (h : BoxL w g vs) {g' : Nat} (hne : g' ≠ g) (j : Nat) (v : Value) : BoxL (w.setCell ⟨g', j, none⟩ v) g vs :=
  h.keep (((Only.refl [g'] w).set j v).block g h.lt (by simp; exact fun e => hne e.symm)) (by rw [World.size_setCell]; exact Nat.le_refl _)
theorem BoxL.new (w : World) (vs : List Value) (T : TypeId) (cs : Array Value) (hc : cs = vs.toArray) : BoxL (w.alloc (.cells cs T)) w.heap.size vs := by
  subst hc
  refine ⟨fun j v hv => ?_, fun j _ => World.frozen?_alloc_at _ _ _ _ rfl, by simp⟩
  rw [World.cell?_alloc_at _ _ _ _ rfl]
  simpa using hv
/-- The blocks of a row of rows. -/
def inPg (v : Value) (n : Nat) (G : Nat → Nat) (b : Nat) : Prop := v.ownBlock = some b ∨ ∃ i, i < n ∧ G i = b
section
variable {w w' u : World} {B n : Nat} {v v' : Value} {V : Nat → Value} {X : Nat → List Int} {G : Nat → Nat}
theorem PgW.keep (h : PgW w B v n V X G) (hk : ∀ b, inPg v n G b → w'.heap[b]? = w.heap[b]?) : PgW w' B v n V X G := by
  refine ⟨?_, fun i hi => own_stays (h.row i hi) (fun k hk' hkl => ?_), h.blk, h.inj, h.ap⟩
  · obtain ⟨h1, h2⟩ := h.own
    refine ⟨h1, ?_⟩
    rcases h2 with h2 | ⟨g, cap, cur, hv, hg, hh, r⟩
    · exact .inl h2
    · exact .inr ⟨g, cap, cur, hv, hg, by rw [hk g (.inl (by rw [hv]; rfl))]; exact hh, r⟩
  · rw [h.blk i hi] at hk'
    injection hk' with hk'
    exact hk k (.inr ⟨i, hi, hk'⟩)
theorem PgW.lt (h : PgW w B v n V X G) {b : Nat} (hb : inPg v n G b) : B ≤ b ∧ b < w.heap.size := by
  rcases hb with hb | ⟨i, hi, rfl⟩
  · rcases h.own.2 with ⟨hv, _⟩ | ⟨g, cap, cur, hv, hg, hh, _⟩
    · rw [hv] at hb; cases hb
    · rw [hv] at hb
      have e : g = b := by injection hb
      subst e
      refine ⟨hg, ?_⟩
      rcases Nat.lt_or_ge g w.heap.size with hlt | hge
      · exact hlt
      · rw [Array.getElem?_eq_none hge] at hh; cases hh
  · exact h.gl hi
theorem PgW.setFar (h : PgW w B v n V X G) {g : Nat} (hg : ¬ inPg v n G g) (j : Nat) (x : Value) : PgW (w.setCell ⟨g, j, none⟩ x) B v n V X G :=
  h.keep (fun b hb => ((Only.refl [g] w).set j x).block b (h.lt hb).2 (by simp; exact fun e => hg (e ▸ hb)))
/-- The last element is cut off. -/
theorem PgW.cut {g cap : Nat} (h : PgW w B (.slice (some ⟨g, 0, none⟩) (n + 1) cap) (n + 1) V X G) : PgW w B (.slice (some ⟨g, 0, none⟩) n cap) n V X G := by
  refine ⟨?_, fun i hi => h.row i (by omega), fun i hi => h.blk i (by omega), fun i j hi hj => h.inj i j (by omega) (by omega), fun i hi => h.ap i (by omega)⟩
  obtain ⟨h1, h2⟩ := h.own
  refine ⟨by simp, ?_⟩
  rcases h2 with ⟨hv, _⟩ | ⟨g', cap', cur, hv, hg, hh, hn, hc, hcs, ht⟩
  · cases hv
  · injection hv with e1 e2 e3
    injection e1 with e1
    injection e1 with e1
    subst e1 e3
    refine .inr ⟨g, cap, cur, rfl, hg, hh, by omega, hc, hcs, ?_⟩
    rw [List.range_succ, List.map_append] at ht
    have hl : ((List.range n).map V).length = n * 1 := by simp
    have := congrArg (List.take (n * 1)) ht
    rw [List.take_take, Nat.min_eq_left (by omega)] at this
    rw [this, List.take_append_of_le_length (by rw [hl]; exact Nat.le_refl _), List.take_of_length_le (by rw [hl]; exact Nat.le_refl _)]
/-- An element's cells. -/
theorem PgW.at_ (h : PgW w B v n V X G) {i : Nat} (hi : i < n) (hok : ∀ x ∈ X i, fInt.ok x) : ∃ fp, Sl fInt.cod w (V i) (X i) fp ∧ ∀ b ∈ fp, (V i).ownBlock = some b := by
  obtain ⟨fp, h1, _, _, h4⟩ := own_fp (h.row i hi) hok
  exact ⟨fp, h1, h4⟩
theorem PgW.cell (h : PgW w B v n V X G) {i : Nat} (hi : i < n) : ∃ g cap, v = .slice (some ⟨g, 0, none⟩) n cap ∧ w.cell? ⟨g, i, none⟩ = some (V i) := by
  obtain ⟨g, cap, rfl, hg, hl⟩ := h.addr (by omega)
  refine ⟨g, cap, rfl, ?_⟩
  rw [h.own.cellAt i (by omega), List.getElem?_map, List.getElem?_range hi]; rfl
end
end Go.Proofs.YtphljobklilbdaaGreatDoor

namespace Go.Proofs.YtphljobklilbdaaGreatDoor
open Go.RowKit
set_option linter.unusedVariables false
set_option linter.unusedSimpArgs false

def PI (P : List Nat) : List Int := P.map fun p : Nat => (p : Int)
theorem PI_len (P : List Nat) : (PI P).length = P.length := List.length_map ..
theorem PI_snoc (P : List Nat) (i : Nat) : PI (P ++ [i]) = PI P ++ [(i : Int)] := by unfold PI; rw [List.map_append]; rfl
/-- A row of numbers of the call's own loses its last element. -/
theorem ownI_cut {w : World} {B g cap : Nat} {L : List Int} {x : Int} (h : Own fInt w B 2 (.slice (some ⟨g, 0, none⟩) (L.length + 1) cap) (L ++ [x])) : Own fInt w B 2 (.slice (some ⟨g, 0, none⟩) L.length cap) L := by
  obtain ⟨h1, h2⟩ := h
  have e : ∀ Z : List Int, Z.flatMap fInt.enc = Z.map (Value.int .i64) := fun Z => by
    induction Z with
    | nil => rfl
    | cons a Z ih => rw [List.flatMap_cons, ih]; rfl
  refine ⟨by rw [e]; simp [fInt], ?_⟩
  rcases h2 with ⟨hv, _⟩ | ⟨g', cap', cur, hv, hg, hh, hn, hc, hcs, ht⟩
  · cases hv
  · injection hv with e1 e2 e3
    injection e1 with e1
    injection e1 with e1
    subst e1 e3
    rw [List.length_append, List.length_singleton] at hn ht
    refine .inr ⟨g, cap, cur, rfl, hg, hh, by omega, hc, hcs, ?_⟩
    rw [e] at ht ⊢
    rw [List.map_append] at ht
    have hl : (L.map (Value.int .i64)).length = L.length * fInt.n := by simp [fInt]
    have h3 := congrArg (List.take (L.length * fInt.n)) ht
    rw [List.take_take, Nat.min_eq_left (Nat.mul_le_mul_right _ (by omega))] at h3
    rw [h3, List.take_append_of_le_length (by rw [hl]; exact Nat.le_refl _), List.take_of_length_le (by rw [hl]; exact Nat.le_refl _)]
/-- The searcher's box at g, the stands that are planted now, the best ones. -/
structure PMem (w : World) (B g : Nat) (lv cv : Value) (snow least bud most : Int) (P Q : List Nat) (vp vb : Value) : Prop where
  bx : BoxL w g [lv, cv, .int .i64 snow, .int .i64 least, .int .i64 bud, vp, vb, .int .i64 most]
  pr : Own fInt w B 2 vp (PI P)
  bs : Own fInt w B 2 vb (PI Q)
  gB : B ≤ g
  np : vp.ownBlock ≠ some g
  nb : vb.ownBlock ≠ some g
  ap : ∀ b, vp.ownBlock = some b → vb.ownBlock ≠ some b
section
variable {w w' : World} {B g : Nat} {lv cv : Value} {snow least bud most : Int} {P Q : List Nat} {vp vb : Value}
theorem PMem.below (h : PMem w B g lv cv snow least bud most P Q vp vb) (hb : Below w.heap.size w w') : PMem w' B g lv cv snow least bud most P Q vp vb :=
  ⟨h.bx.below hb, h.pr.below hb, h.bs.below hb, h.gB, h.np, h.nb, h.ap⟩
theorem own_set {L : List Int} {v : Value} (h : Own fInt w B 2 v L) (hg : v.ownBlock ≠ some g) (j : Nat) (x : Value) : Own fInt (w.setCell ⟨g, j, none⟩ x) B 2 v L :=
  own_stays h fun k hk hkl => ((Only.refl [g] w).set j x).block k hkl (by rw [List.mem_singleton]; exact fun e => hg (e ▸ hk))
theorem PMem.setBud (h : PMem w B g lv cv snow least bud most P Q vp vb) (b' : Int) : PMem (w.setCell ⟨g, 4, none⟩ (.int .i64 b')) B g lv cv snow least b' most P Q vp vb :=
  ⟨h.bx.set 4 (.int .i64 b'), own_set h.pr h.np 4 _, own_set h.bs h.nb 4 _, h.gB, h.np, h.nb, h.ap⟩
theorem PMem.setMost (h : PMem w B g lv cv snow least bud most P Q vp vb) (m' : Int) : PMem (w.setCell ⟨g, 7, none⟩ (.int .i64 m')) B g lv cv snow least bud m' P Q vp vb :=
  ⟨h.bx.set 7 (.int .i64 m'), own_set h.pr h.np 7 _, own_set h.bs h.nb 7 _, h.gB, h.np, h.nb, h.ap⟩
/-- A fresh row of the best ones. -/
theorem PMem.setBest {v : Value} {R : List Nat} (h : PMem w B g lv cv snow least bud most P Q vp vb) (hv : Own fInt w B 2 v (PI R)) (hf : ∀ b, v.ownBlock = some b → b ≠ g ∧ vp.ownBlock ≠ some b) : PMem (w.setCell ⟨g, 6, none⟩ v) B g lv cv snow least bud most P R vp v :=
  ⟨h.bx.set 6 v, own_set h.pr h.np 6 _, own_set hv (fun e => (hf g e).1 rfl) 6 _, h.gB, h.np, fun e => (hf g e).1 rfl, fun b hb e => (hf b e).2 hb⟩
theorem PMem.push {u : World} {v' : Value} {i : Nat} (h : PMem w B g lv cv snow least bud most P Q vp vb) (hown : Own fInt u B 2 v' (PI P ++ [(i : Int)])) (hg : w.grownBy u vp.ownBlock) (hl : v'.ownBlock = vp.ownBlock ∨ v'.ownBlock = some w.heap.size) :
    PMem (u.setCell ⟨g, 5, none⟩ v') B g lv cv snow least bud most (P ++ [i]) Q v' vb := by
  have hgb : ∀ b, b < w.heap.size → vp.ownBlock ≠ some b → u.heap[b]? = w.heap[b]? := fun b hb hne => hg.block b hb (fun e => hne e.symm)
  have hbx := h.bx.keep (hgb g h.bx.lt h.np) hg.size
  have hbs : Own fInt u B 2 vb (PI Q) := own_stays h.bs fun k hk hkl => hgb k hkl (fun e => h.ap k e hk)
  have hne : v'.ownBlock ≠ some g := by
    rcases hl with e | e
    · rw [e]; exact h.np
    · rw [e]; intro e2; injection e2 with e2; have := h.bx.lt; omega
  refine ⟨hbx.set 5 v', ?_, own_set hbs h.nb 5 _, h.gB, hne, h.nb, fun b hb e => ?_⟩
  · rw [PI_snoc]; exact own_set hown hne 5 _
  · rcases hl with e2 | e2
    · rw [e2] at hb; exact h.ap b hb e
    · rw [e2] at hb; injection hb with hb
      have := (own_at h.bs e).2; omega
theorem PMem.cut {gp cap i : Nat} (h : PMem w B g lv cv snow least bud most (P ++ [i]) Q (.slice (some ⟨gp, 0, none⟩) (P.length + 1) cap) vb) : PMem (w.setCell ⟨g, 5, none⟩ (.slice (some ⟨gp, 0, none⟩) P.length cap)) B g lv cv snow least bud most P Q (.slice (some ⟨gp, 0, none⟩) P.length cap) vb := by
  have hpr := h.pr
  rw [PI_snoc, show P.length + 1 = (PI P).length + 1 by rw [PI_len]] at hpr
  have hc := ownI_cut hpr
  rw [PI_len] at hc
  exact ⟨h.bx.set 5 _, own_set hc h.np 5 _, own_set h.bs h.nb 5 _, h.gB, h.np, h.nb, h.ap⟩
theorem PMem.form (h : PMem w B g lv cv snow least bud most P Q vp vb) : ∃ A cap, vp = .slice A P.length cap := by
  obtain ⟨A, cap, e⟩ := Own.form h.pr
  exact ⟨A, cap, by rw [e, PI_len]⟩
theorem PMem.formS (h : PMem w B g lv cv snow least bud most P Q vp vb) (h0 : 0 < P.length) : ∃ gp cap, vp = .slice (some ⟨gp, 0, none⟩) P.length cap ∧ B ≤ gp ∧ P.length ≤ cap ∧ cap ≤ 9223372036854775807 := by
  rcases h.pr.2 with ⟨_, e⟩ | ⟨g', cap', cur, hv, hg, _, hn, hc, _⟩
  · rw [PI_len] at e; omega
  · rw [PI_len] at hn; exact ⟨g', cap', by rw [hv, PI_len], hg, hn, by unfold maxLen at hc; omega⟩
end
/-- What the search leaves alone: all but the box at g and the row of the stands that are planted, which may go to a new block. -/
structure PFr (w w' : World) (g : Nat) (vp vp' : Value) : Prop where
  os : w'.os = w.os
  tape : w'.tape = w.tape
  output : w'.output = w.output
  size : w.heap.size ≤ w'.heap.size
  block : ∀ k, k < w.heap.size → k ≠ g → vp.ownBlock ≠ some k → w'.heap[k]? = w.heap[k]?
  own : ∀ k, vp'.ownBlock = some k → vp.ownBlock = some k ∨ w.heap.size ≤ k
theorem PFr.trans {w u w' : World} {g : Nat} {v0 v1 v2 : Value} (h : PFr w u g v0 v1) (k : PFr u w' g v1 v2) : PFr w w' g v0 v2 := by
  refine ⟨k.os.trans h.os, k.tape.trans h.tape, k.output.trans h.output, Nat.le_trans h.size k.size, fun b hb h1 h2 => ?_, fun b hb => ?_⟩
  · rw [k.block b (Nat.lt_of_lt_of_le hb h.size) h1 (fun e => by rcases h.own b e with e | e; exact h2 e; omega), h.block b hb h1 h2]
  · rcases k.own b hb with e | e
    · exact h.own b e
    · exact .inr (Nat.le_trans h.size e)
theorem PFr.of_below {w w' : World} (g : Nat) (vp : Value) (h : Below w.heap.size w w') : PFr w w' g vp vp := ⟨h.os, h.tape, h.output, h.size, fun k hk _ _ => h.block k hk, fun _ e => .inl e⟩
theorem PFr.set {w : World} (g j : Nat) (vp x : Value) : PFr w (w.setCell ⟨g, j, none⟩ x) g vp vp :=
  ⟨rfl, rfl, rfl, by rw [World.size_setCell]; exact Nat.le_refl _, fun k hk h1 _ => ((Only.refl [g] w).set j x).block k hk (by rw [List.mem_singleton]; exact h1), fun _ e => .inl e⟩
theorem PFr.push {w u : World} {g : Nat} {vp v' : Value} (hg : w.grownBy u vp.ownBlock) (hl : v'.ownBlock = vp.ownBlock ∨ v'.ownBlock = some w.heap.size) : PFr w u g vp v' :=
  ⟨hg.os, hg.tape, hg.output, hg.size, fun k hk _ h2 => hg.block k hk (fun e => h2 e.symm), fun k hk => by
    rcases hl with e | e
    · rw [e] at hk; exact .inl hk
    · rw [e] at hk; injection hk with hk; exact .inr (by omega)⟩
theorem PFr.keep {w w' : World} {g : Nat} {vp vp' : Value} (h : PFr w w' g vp vp') {b : Nat} {x : DStand} (hp : PStand w b 0 x) (h1 : b ≠ g) (h2 : vp.ownBlock ≠ some b) : PStand w' b 0 x := hp.keepB (h.block b hp.lt h1 h2)
theorem PFr.below {w w' : World} {B g : Nat} {lv cv : Value} {snow least bud most : Int} {P Q : List Nat} {vp vp' vb : Value} (h : PFr w w' g vp vp') (hm : PMem w B g lv cv snow least bud most P Q vp vb) : Below B w w' :=
  ⟨h.os, h.tape, h.output, h.size, fun k hk => h.block k (Nat.lt_trans (Nat.lt_of_lt_of_le hk hm.gB) hm.bx.lt) (fun e => by have := hm.gB; omega) (fun e => by have := (own_at hm.pr e).1; omega)⟩
theorem PlantInv.most {xs : List DStand} {cs : List Int} {snow least money : Int} {Q : List Nat} {most : Int} (h : PlantInv xs cs snow least money Q most) : (-1 ≤ most ∧ most ≤ 2 * (xs.length : Int)) ∧ Q.length ≤ xs.length := by
  rcases h with ⟨h1, h2⟩ | ⟨m, h⟩
  · subst h2; exact ⟨by omega, Nat.zero_le _⟩
  · have := h.many0; exact ⟨by omega, h.len⟩
/-- The world of a search: what it reads. -/
structure PEnv (xs : List DStand) (cs : List Int) (snow least : Int) (B : Nat) (lv cv : Value) (fl fc : List Nat) : Prop where
  hv : standsB xs = true
  hc : cs.length = xs.length
  hcb : ∀ c ∈ cs, 0 ≤ c ∧ c ≤ 1000000
  hsn : 0 ≤ snow ∧ snow ≤ 2000
  hle : 0 ≤ least ∧ least ≤ 1000
  hfl : ∀ b ∈ fl, b < B
  hfc : ∀ b ∈ fc, b < B
/-- What the search from i on leaves: its best ones; if the budget is left, they are good. -/
def PPost (xs : List DStand) (cs : List Int) (snow least money : Int) (B g : Nat) (lv cv : Value) (P : List Nat) (w : World) (vp : Value) (bud lim : Int) (e : Ending) (w' : World) : Prop :=
  e = .returned (.tuple #[]) ∧ ∃ (Q' : List Nat) (most' bud' : Int) (vp' vb' : Value), PMem w' B g lv cv snow least bud' most' P Q' vp' vb' ∧ PFr w w' g vp vp' ∧ PlantInv xs cs snow least money Q' most' ∧ (0 ≤ bud' → PlantGood xs cs snow least money Q' most') ∧ bud' ≤ bud ∧ lim ≤ bud'
def VisitSt (xs : List DStand) (cs : List Int) (snow least money : Int) (B g : Nat) (lv cv : Value) (fl fc : List Nat) (m : Nat) : Prop :=
  ∀ (i : Nat) (P Q : List Nat) (m0 many bud most : Int) (vp vb : Value) (w : World), i + m = xs.length → PlantP xs cs snow least money i P m0 many → PlantInv xs cs snow least money Q most → 0 ≤ bud ∧ bud ≤ 20001 → 0 ≤ money ∧ money ≤ 100000000 →
    Sl fStand.cod w lv xs fl → Sl fInt.cod w cv cs fc → PMem w B g lv cv snow least bud most P Q vp vb →
    Calls Tryz.prog 34 #[.pointer (some ⟨g, 0, none⟩), .int .i64 (i : Int), .int .i64 m0, .int .i64 many] w (PPost xs cs snow least money B g lv cv P w vp bud (-((m : Int) + 1)))
def NodeSt (xs : List DStand) (cs : List Int) (snow least money : Int) (B g : Nat) (lv cv : Value) (fl fc : List Nat) (m : Nat) : Prop :=
  ∀ (i : Nat) (P Q : List Nat) (m0 many bud most : Int) (x : DStand) (vp vb : Value) (w : World), i + (m + 1) = xs.length → standB x = true → PlantP xs cs snow least money (i + 1) P m0 (if least ≤ protF x snow then many + 1 else many) → 0 ≤ many ∧ many ≤ 100 → PlantInv xs cs snow least money Q most → -500 ≤ bud ∧ bud ≤ 20001 → 0 ≤ money ∧ money ≤ 100000000 →
    Sl fStand.cod w lv xs fl → Sl fInt.cod w cv cs fc → PMem w B g lv cv snow least bud most P Q vp vb →
    Calls Tryz.prog 50 #[.pointer (some ⟨g, 0, none⟩), .int .i64 (i : Int), .int .i64 m0, .int .i64 many, .agg #[.string x.id, .int .i64 x.trees, .int .i64 x.height, .int .i64 x.cover, .int .i64 x.gap]] w (PPost xs cs snow least money B g lv cv P w vp bud (if bud ≤ 0 then bud - 1 else -((m : Int) + 1)))

end Go.Proofs.YtphljobklilbdaaGreatDoor

namespace Go.Proofs.YtphljobklilbdaaGreatDoor
open Go.RowKit
set_option linter.unusedVariables false
set_option linter.unusedSimpArgs false

section
variable {xs : List DStand} {cs : List Int} {snow least money : Int} {B g : Nat} {lv cv : Value} {fl fc : List Nat}
set_option maxRecDepth 100000 in
set_option maxHeartbeats 8000000 in
theorem node_of_visit (henv : PEnv xs cs snow least B lv cv fl fc) (m : Nat) (hmx : m + 1 ≤ xs.length) (ih : VisitSt xs cs snow least money B g lv cv fl fc m) : NodeSt xs cs snow least money B g lv cv fl fc m := by
  intro i P Q m0 many bud most x vp vb w him hvx hpn hmy hinv hbud hmon hsl hsc hM00
  have hl16 := standsB_len henv.hv
  have hsn := henv.hsn
  have hle := henv.hle
  have hM1 := hM00.setBud (bud - 1)
  have hgl := hM00.bx.lt
  have c4 : w.cell? ⟨g, 4, none⟩ = some (.int .i64 bud) := hM00.bx.cell 4 _ rfl
  have z4 := hM00.bx.frz 4 (by show 4 < 8; decide)
  have hA : Below (w.setCell ⟨g, 4, none⟩ (.int .i64 (bud - 1))).heap.size (w.setCell ⟨g, 4, none⟩ (.int .i64 (bud - 1))) ((w.setCell ⟨g, 4, none⟩ (.int .i64 (bud - 1))).alloc (.cells #[.string x.id, .int .i64 x.trees, .int .i64 x.height, .int .i64 x.cover, .int .i64 x.gap] 25)) := (Below.refl _ _).alloc (Nat.le_refl _) _
  have hM2 := hM1.below hA
  have hf2 : PFr w ((w.setCell ⟨g, 4, none⟩ (.int .i64 (bud - 1))).alloc (.cells #[.string x.id, .int .i64 x.trees, .int .i64 x.height, .int .i64 x.cover, .int .i64 x.gap] 25)) g vp vp := (PFr.set g 4 vp _).trans (PFr.of_below g vp hA)
  have hpx : PStand ((w.setCell ⟨g, 4, none⟩ (.int .i64 (bud - 1))).alloc (.cells #[.string x.id, .int .i64 x.trees, .int .i64 x.height, .int .i64 x.cover, .int .i64 x.gap] 25)) w.heap.size 0 x := by
    have h := PStand.box (w.setCell ⟨g, 4, none⟩ (.int .i64 (bud - 1))) x 25
    rw [World.size_setCell] at h; exact h
  have hib : (i : Int) ≤ 100 := by omega
  clear hA hM1
  go_enter Tryz.func50, Tryz.ntmps50
  by_cases hb0 : bud ≤ 0
  · have hlt : bud - 1 < 0 := by omega
    have c4' : ((w.setCell ⟨g, 4, none⟩ (.int .i64 (bud - 1))).alloc (.cells #[.string x.id, .int .i64 x.trees, .int .i64 x.height, .int .i64 x.cover, .int .i64 x.gap] 25)).cell? ⟨g, 4, none⟩ = some (.int .i64 (bud - 1)) := hM2.bx.cell 4 _ rfl
    go_wp2
    refine bodyPost_ret (results_none rfl _ _ _) rfl ?_
    exact ⟨rfl, Q, most, bud - 1, vp, vb, hM2, hf2, hinv, fun h => by omega, by omega, by first | omega | (rw [if_pos hb0]; omega)⟩
  · have hlt : 0 ≤ bud - 1 := by omega
    go_upto_region 3 with fail
    refine at_world (fun W => PMem W B g lv cv snow least (bud - 1) most P Q vp vb ∧ PFr w W g vp vp ∧ PStand W w.heap.size 0 x) ⟨hM2, hf2, hpx⟩ ?_
    clear hM2 hf2 hpx c4 z4
    rintro W ⟨hM, hf0, hpx⟩
    generalize w.heap.size = b at *
    obtain ⟨c0, c1, c2, c3, c4⟩ := id hpx
    have cs2 : W.cell? ⟨g, 2, none⟩ = some (.int .i64 snow) := hM.bx.cell 2 _ rfl
    have cs3 : W.cell? ⟨g, 3, none⟩ = some (.int .i64 least) := hM.bx.cell 3 _ rfl
    have gc0 := cell_regrown c0
    have gc1 := cell_regrown c1
    have gc2 := cell_regrown c2
    have gc3 := cell_regrown c3
    have gc4 := cell_regrown c4
    have gcs2 := cell_regrown cs2
    have gcs3 := cell_regrown cs3
    refine wp_region_mixed [0, 1, 2, 3, 4, 6, 7, 8, 9, 5, 10] (C := fun w' => ∃ p : Regrown, w' = Go.Sort.grow (redrawn W p.d) p.os) [true, true, true, true, true, true, true, true, true, false, true] (by kernel_rfl) (by kernel_rfl) (by kernel_rfl) (fun _ _ d _ _ h => by cases d <;> exact h) (regrown_of_below (Below.drew (Below.refl _ _))) ?_
    simp only [List.map_cons, List.map_nil, List.getD_cons_zero, List.getD_cons_succ]
    have hS0 : Below (W.heap.size) W W.drew := Below.drew (Below.refl _ _)
    refine wpMix_pure (by kernel_rfl) (fun K hK => ?_); go_big_quiet_op; refine hK _ ?_; clear hK K
    refine wpMix_pure (by kernel_rfl) (fun K hK => ?_); go_big_quiet_op; refine hK _ ?_; clear hK K
    refine wpMix_pure (by kernel_rfl) (fun K hK => ?_); go_big_quiet_op; refine hK _ ?_; clear hK K
    refine wpMix_pure (by kernel_rfl) (fun K hK => ?_); go_big_quiet_op; refine hK _ ?_; clear hK K
    refine wpMix_pure (by kernel_rfl) (fun K hK => ?_); go_big_quiet_op; refine hK _ ?_; clear hK K
    refine wpMix_pure (by kernel_rfl) (fun K hK => ?_); go_big_quiet_op; refine hK _ ?_; clear hK K
    refine wpMix_pure (by kernel_rfl) (fun K hK => ?_); go_big_quiet_op; refine hK _ ?_; clear hK K
    refine wpMix_pure (by kernel_rfl) (fun K hK => ?_); go_big_quiet_op; refine hK _ ?_; clear hK K
    refine wpMix_pure (by kernel_rfl) (fun K hK => ?_); go_big_quiet_op; refine hK _ ?_; clear hK K
    refine wpMix_act (by kernel_rfl) (fun K hK => ?_)
    go_big_op
    refine (protection_any x snow _ hvx hsn).mono ?_
    rintro e wr1 ⟨rfl, hbr1⟩
    have hbr1S : Below (W.heap.size) W wr1 := hS0.trans (hbr1.mono hS0.size)
    refine hK _ _ (regrown_of_below hbr1S) ?_
    clear hK K
    refine wpMix_pure (by kernel_rfl) (fun K hK => ?_); go_big_quiet_op; refine hK _ ?_; clear hK K
    refine wpMix_nil ?_
    clear gc0 gc1 gc2 gc3 gc4 gcs2 gcs3 hS0
    have hmn9 : wrap64 (many + 1) = many + 1 := by unfold wrap64; omega
    clear hmn9
    by_cases hl : least ≤ protF x snow
    · skip
      have hpn2 := hpn
      rw [if_pos hl] at hpn2
      have hf9 := (hf0.trans (PFr.of_below g vp (hbr1S.mono (Nat.le_refl _))))
      have hm9 := hM.below hbr1S
      have hb9 := hf9.below hM00
      have hvs := ih (i + 1) P Q m0 (many + 1) (bud - 1) most vp vb _ (by omega) hpn2 hinv (by omega) hmon (hsl.below hb9 henv.hfl) (hsc.below hb9 henv.hfc) hm9
      rw [show ((i + 1 : Nat) : Int) = (i : Int) + 1 from rfl] at hvs
      generalize protF x snow = pf at *
      clear hpn hpn2
      go_wp2_with fail
      refine hvs.mono ?_
      rintro e wz ⟨rfl, Q9, mo9, bu9, vp9, vb9, hmz, hfz, hiz, hgz, hbz, hlz⟩
      go_wp2
      refine bodyPost_ret (results_none rfl _ _ _) rfl ?_
      exact ⟨rfl, Q9, mo9, bu9, vp9, vb9, hmz, hf9.trans hfz, hiz, hgz, by omega, by first | omega | (rw [if_neg (by omega)]; omega)⟩
    · have hl2 : protF x snow < least := by omega
      have hpn2 := hpn
      rw [if_neg hl] at hpn2
      have hf9 := (hf0.trans (PFr.of_below g vp (hbr1S.mono (Nat.le_refl _))))
      have hm9 := hM.below hbr1S
      have hb9 := hf9.below hM00
      have hvs := ih (i + 1) P Q m0 (many) (bud - 1) most vp vb _ (by omega) hpn2 hinv (by omega) hmon (hsl.below hb9 henv.hfl) (hsc.below hb9 henv.hfc) hm9
      rw [show ((i + 1 : Nat) : Int) = (i : Int) + 1 from rfl] at hvs
      generalize protF x snow = pf at *
      clear hpn hpn2
      go_wp2_with fail
      refine hvs.mono ?_
      rintro e wz ⟨rfl, Q9, mo9, bu9, vp9, vb9, hmz, hfz, hiz, hgz, hbz, hlz⟩
      go_wp2
      refine bodyPost_ret (results_none rfl _ _ _) rfl ?_
      exact ⟨rfl, Q9, mo9, bu9, vp9, vb9, hmz, hf9.trans hfz, hiz, hgz, by omega, by first | omega | (rw [if_neg (by omega)]; omega)⟩
set_option maxRecDepth 100000 in
set_option maxHeartbeats 16000000 in
theorem visit_zero (henv : PEnv xs cs snow least B lv cv fl fc) : VisitSt xs cs snow least money B g lv cv fl fc 0 := by
  intro i P Q m0 many bud most vp vb w him hpn hinv hbud hmon hsl hsc hM
  obtain rfl : i = xs.length := by omega
  have hl16 := standsB_len henv.hv
  have hmany := hpn.many0
  have hpl16 := hpn.len
  have hmo := hinv.most
  have hok : ∀ (R : List Nat), R.length ≤ 16 → (∀ p ∈ R, p < 1000) → ∀ z ∈ PI R, fInt.ok z := fun R _ hR z hz => by
    obtain ⟨p, hp, rfl⟩ := List.mem_map.1 hz
    have := hR p hp
    show _ ∧ _; omega
  have hQ1 : ∀ p ∈ Q, p < 1000 := fun p hp => by
    rcases hinv with ⟨_, h⟩ | ⟨_, h⟩
    · subst h; cases hp
    · have := h.lt p hp; omega
  obtain ⟨fa, hsp, _, _⟩ := Sl.of_own (n := (PI P).length) rfl hM.pr (hok P (by omega) (fun p hp => by have := hpn.lt p hp; omega))
  obtain ⟨fb, hsq, _, _⟩ := Sl.of_own (n := (PI Q).length) rfl hM.bs (hok Q (by omega) hQ1)
  obtain ⟨A, cap, rfl, _, _⟩ := hsl.form
  have c0 : w.cell? ⟨g, 0, none⟩ = some (.slice A xs.length cap) := hM.bx.cell 0 _ rfl
  have c5 : w.cell? ⟨g, 5, none⟩ = some vp := hM.bx.cell 5 _ rfl
  have c6 : w.cell? ⟨g, 6, none⟩ = some vb := hM.bx.cell 6 _ rfl
  have c7 : w.cell? ⟨g, 7, none⟩ = some (.int .i64 most) := hM.bx.cell 7 _ rfl
  have hcb := cmpL_bounds (PI P) (PI Q)
  clear hok hQ1
  go_enter Tryz.func34, Tryz.ntmps34
  go_wp2
  clear c0
  have gc5 := cell_regrown c5
  have gc6 := cell_regrown c6
  have gc7 := cell_regrown c7
  refine wp_region_mix (C := fun w' => ∃ p : Regrown, w' = Go.Sort.grow (redrawn w p.d) p.os) [true, true, true, true, true, true, true, true, true, true, true, true, true, true, true, true, true, true, true, true, true, true, false, true, true, true] (by kernel_rfl) (by kernel_rfl) (by kernel_rfl) (fun _ _ d _ _ h => by cases d <;> exact h) (regrown_of_below (Below.drew (Below.refl _ _))) ?_
  have hS0 : Below (w.heap.size) w w.drew := Below.drew (Below.refl _ _)
  refine wpMix_pure (by kernel_rfl) (fun K hK => ?_); go_big_quiet_op; refine hK _ ?_; clear hK K
  refine wpMix_pure (by kernel_rfl) (fun K hK => ?_); go_big_quiet_op; refine hK _ ?_; clear hK K
  refine wpMix_pure (by kernel_rfl) (fun K hK => ?_); go_big_quiet_op; refine hK _ ?_; clear hK K
  refine wpMix_pure (by kernel_rfl) (fun K hK => ?_); go_big_quiet_op; refine hK _ ?_; clear hK K
  refine wpMix_pure (by kernel_rfl) (fun K hK => ?_); go_big_quiet_op; refine hK _ ?_; clear hK K
  by_cases hq5 : most < many
  · skip
    refine wpMix_pure (by kernel_rfl) (fun K hK => ?_); go_big_quiet_op; refine hK _ ?_; clear hK K
    refine wpMix_pure (by kernel_rfl) (fun K hK => ?_); go_big_quiet_op; refine hK _ ?_; clear hK K
    refine wpMix_skip (by kernel_rfl) (fun K hK => ?_)
    simp only [Act.put, List.setIfInBounds_toArray, List.set_cons_zero, List.set_cons_succ]
    refine hK _ ?_; clear hK K
    refine wpMix_skip (by kernel_rfl) (fun K hK => ?_)
    simp only [Act.put, List.setIfInBounds_toArray, List.set_cons_zero, List.set_cons_succ]
    refine hK _ ?_; clear hK K
    refine wpMix_skip (by kernel_rfl) (fun K hK => ?_)
    simp only [Act.put, List.setIfInBounds_toArray, List.set_cons_zero, List.set_cons_succ]
    refine hK _ ?_; clear hK K
    refine wpMix_skip (by kernel_rfl) (fun K hK => ?_)
    simp only [Act.put, List.setIfInBounds_toArray, List.set_cons_zero, List.set_cons_succ]
    refine hK _ ?_; clear hK K
    refine wpMix_skip (by kernel_rfl) (fun K hK => ?_)
    simp only [Act.put, List.setIfInBounds_toArray, List.set_cons_zero, List.set_cons_succ]
    refine hK _ ?_; clear hK K
    refine wpMix_skip (by kernel_rfl) (fun K hK => ?_)
    simp only [Act.put, List.setIfInBounds_toArray, List.set_cons_zero, List.set_cons_succ]
    refine hK _ ?_; clear hK K
    refine wpMix_skip (by kernel_rfl) (fun K hK => ?_)
    simp only [Act.put, List.setIfInBounds_toArray, List.set_cons_zero, List.set_cons_succ]
    refine hK _ ?_; clear hK K
    refine wpMix_skip (by kernel_rfl) (fun K hK => ?_)
    simp only [Act.put, List.setIfInBounds_toArray, List.set_cons_zero, List.set_cons_succ]
    refine hK _ ?_; clear hK K
    refine wpMix_skip (by kernel_rfl) (fun K hK => ?_)
    simp only [Act.put, List.setIfInBounds_toArray, List.set_cons_zero, List.set_cons_succ]
    refine hK _ ?_; clear hK K
    refine wpMix_skip (by kernel_rfl) (fun K hK => ?_)
    simp only [Act.put, List.setIfInBounds_toArray, List.set_cons_zero, List.set_cons_succ]
    refine hK _ ?_; clear hK K
    refine wpMix_skip (by kernel_rfl) (fun K hK => ?_)
    simp only [Act.put, List.setIfInBounds_toArray, List.set_cons_zero, List.set_cons_succ]
    refine hK _ ?_; clear hK K
    refine wpMix_skip (by kernel_rfl) (fun K hK => ?_)
    simp only [Act.put, List.setIfInBounds_toArray, List.set_cons_zero, List.set_cons_succ]
    refine hK _ ?_; clear hK K
    refine wpMix_skip (by kernel_rfl) (fun K hK => ?_)
    simp only [Act.put, List.setIfInBounds_toArray, List.set_cons_zero, List.set_cons_succ]
    refine hK _ ?_; clear hK K
    refine wpMix_skip (by kernel_rfl) (fun K hK => ?_)
    simp only [Act.put, List.setIfInBounds_toArray, List.set_cons_zero, List.set_cons_succ]
    refine hK _ ?_; clear hK K
    refine wpMix_skip (by kernel_rfl) (fun K hK => ?_)
    simp only [Act.put, List.setIfInBounds_toArray, List.set_cons_zero, List.set_cons_succ]
    refine hK _ ?_; clear hK K
    refine wpMix_skip (by kernel_rfl) (fun K hK => ?_)
    simp only [Act.put, List.setIfInBounds_toArray, List.set_cons_zero, List.set_cons_succ]
    refine hK _ ?_; clear hK K
    refine wpMix_skip (by kernel_rfl) (fun K hK => ?_)
    simp only [Act.put, List.setIfInBounds_toArray, List.set_cons_zero, List.set_cons_succ]
    refine hK _ ?_; clear hK K
    refine wpMix_skip (by kernel_rfl) (fun K hK => ?_)
    simp only [Act.put, List.setIfInBounds_toArray, List.set_cons_zero, List.set_cons_succ]
    refine hK _ ?_; clear hK K
    refine wpMix_pure (by kernel_rfl) (fun K hK => ?_); go_big_quiet_op; refine hK _ ?_; clear hK K
    refine wpMix_nil ?_
    have hM1 := hM.below hS0
    have hf1 := PFr.of_below g vp hS0
    clear gc5 gc6 gc7 c5 c6 c7
    have hsp1 := hsp.below' hS0
    have c5' : w.drew.cell? ⟨g, 5, none⟩ = some vp := hM1.bx.cell 5 _ rfl
    have hgw := hM1.bx.lt
    have hpl : (PI P).length ≤ 1000000 := by rw [PI_len]; omega
    generalize w.drew = wq at *
    go_wp2_with fail
    refine (cloneI_any vp (PI P) fa _ hsp1 hpl).mono ?_
    rintro e w2 ⟨v2, rfl, hown2, hb2⟩
    have hM2 := hM1.below hb2
    have hf2 := hf1.trans (PFr.of_below g vp hb2)
    have hob : ∀ b, v2.ownBlock = some b → b ≠ g ∧ vp.ownBlock ≠ some b := fun b hb => by
      have h1 := (own_at hown2 hb).1
      exact ⟨by omega, fun e => by have := (own_at hM1.pr e).2; omega⟩
    have hM3 := (hM2.setBest (R := P) (ownM_ hown2 (by have := hM1.gB; omega)) hob).setMost many
    have hf3 := hf2.trans ((PFr.set g 6 vp v2).trans (PFr.set g 7 vp (.int .i64 many)))
    have d6 : w2.cell? ⟨g, 6, none⟩ = some vb := hM2.bx.cell 6 _ rfl
    have d7 : w2.cell? ⟨g, 7, none⟩ = some (.int .i64 most) := hM2.bx.cell 7 _ rfl
    have z6 := hM2.bx.frz 6 (by show 6 < 8; decide)
    have z7 := hM2.bx.frz 7 (by show 7 < 8; decide)
    obtain ⟨A2, c2, rfl⟩ := Own.form hown2
    clear hown2 hob c5' hsp1
    go_wp2
    refine bodyPost_ret (results_none rfl _ _ _) rfl ?_
    exact ⟨rfl, P, many, bud, vp, _, hM3, hf3, .inr ⟨m0, hpn⟩, fun _ => ⟨m0, hpn⟩, Int.le_refl _, by omega⟩
  · skip
    refine wpMix_pure (by kernel_rfl) (fun K hK => ?_); go_big_quiet_op; refine hK _ ?_; clear hK K
    refine wpMix_pure (by kernel_rfl) (fun K hK => ?_); go_big_quiet_op; refine hK _ ?_; clear hK K
    refine wpMix_pure (by kernel_rfl) (fun K hK => ?_); go_big_quiet_op; refine hK _ ?_; clear hK K
    refine wpMix_pure (by kernel_rfl) (fun K hK => ?_); go_big_quiet_op; refine hK _ ?_; clear hK K
    refine wpMix_pure (by kernel_rfl) (fun K hK => ?_); go_big_quiet_op; refine hK _ ?_; clear hK K
    refine wpMix_pure (by kernel_rfl) (fun K hK => ?_); go_big_quiet_op; refine hK _ ?_; clear hK K
    refine wpMix_pure (by kernel_rfl) (fun K hK => ?_); go_big_quiet_op; refine hK _ ?_; clear hK K
    by_cases hq12 : many = most
    · skip
      have e12 : (many == most) = true := beq_iff_eq.2 hq12
      replace hq12 := Lib.hid hq12
      refine wpMix_pure (by kernel_rfl) (fun K hK => ?_); go_big_quiet_op; refine hK _ ?_; clear hK K
      refine wpMix_pure (by kernel_rfl) (fun K hK => ?_); go_big_quiet_op; refine hK _ ?_; clear hK K
      refine wpMix_pure (by kernel_rfl) (fun K hK => ?_); go_big_quiet_op; refine hK _ ?_; clear hK K
      refine wpMix_pure (by kernel_rfl) (fun K hK => ?_); go_big_quiet_op; refine hK _ ?_; clear hK K
      refine wpMix_pure (by kernel_rfl) (fun K hK => ?_); go_big_quiet_op; refine hK _ ?_; clear hK K
      refine wpMix_pure (by kernel_rfl) (fun K hK => ?_); go_big_quiet_op; refine hK _ ?_; clear hK K
      refine wpMix_pure (by kernel_rfl) (fun K hK => ?_); go_big_quiet_op; refine hK _ ?_; clear hK K
      refine wpMix_pure (by kernel_rfl) (fun K hK => ?_); go_big_quiet_op; refine hK _ ?_; clear hK K
      refine wpMix_pure (by kernel_rfl) (fun K hK => ?_); go_big_quiet_op; refine hK _ ?_; clear hK K
      refine wpMix_pure (by kernel_rfl) (fun K hK => ?_); go_big_quiet_op; refine hK _ ?_; clear hK K
      refine wpMix_act (by kernel_rfl) (fun K hK => ?_)
      go_big_op
      refine (compareL_any vp vb (PI P) (PI Q) fa fb _ (hsp.below' hS0) (hsq.below' hS0) (by rw [PI_len]; omega) (by rw [PI_len]; omega)).mono ?_
      rintro e w' ⟨rfl, rfl⟩
      refine hK _ _ (regrown_of_below hS0) ?_
      clear hK K
      by_cases hq23 : cmpL (PI P) (PI Q) < 0
      · skip
        refine wpMix_pure (by kernel_rfl) (fun K hK => ?_); go_big_quiet_op; refine hK _ ?_; clear hK K
        refine wpMix_pure (by kernel_rfl) (fun K hK => ?_); go_big_quiet_op; refine hK _ ?_; clear hK K
        refine wpMix_pure (by kernel_rfl) (fun K hK => ?_); go_big_quiet_op; refine hK _ ?_; clear hK K
        refine wpMix_nil ?_
        have hM1 := hM.below hS0
        have hf1 := PFr.of_below g vp hS0
        clear gc5 gc6 gc7 c5 c6 c7
        have hsp1 := hsp.below' hS0
        have c5' : w.drew.cell? ⟨g, 5, none⟩ = some vp := hM1.bx.cell 5 _ rfl
        have hgw := hM1.bx.lt
        have hpl : (PI P).length ≤ 1000000 := by rw [PI_len]; omega
        generalize w.drew = wq at *
        go_wp2_with fail
        refine (cloneI_any vp (PI P) fa _ hsp1 hpl).mono ?_
        rintro e w2 ⟨v2, rfl, hown2, hb2⟩
        have hM2 := hM1.below hb2
        have hf2 := hf1.trans (PFr.of_below g vp hb2)
        have hob : ∀ b, v2.ownBlock = some b → b ≠ g ∧ vp.ownBlock ≠ some b := fun b hb => by
          have h1 := (own_at hown2 hb).1
          exact ⟨by omega, fun e => by have := (own_at hM1.pr e).2; omega⟩
        have hM3 := (hM2.setBest (R := P) (ownM_ hown2 (by have := hM1.gB; omega)) hob).setMost many
        have hf3 := hf2.trans ((PFr.set g 6 vp v2).trans (PFr.set g 7 vp (.int .i64 many)))
        have d6 : w2.cell? ⟨g, 6, none⟩ = some vb := hM2.bx.cell 6 _ rfl
        have d7 : w2.cell? ⟨g, 7, none⟩ = some (.int .i64 most) := hM2.bx.cell 7 _ rfl
        have z6 := hM2.bx.frz 6 (by show 6 < 8; decide)
        have z7 := hM2.bx.frz 7 (by show 7 < 8; decide)
        obtain ⟨A2, c2, rfl⟩ := Own.form hown2
        clear hown2 hob c5' hsp1
        go_wp2
        refine bodyPost_ret (results_none rfl _ _ _) rfl ?_
        exact ⟨rfl, P, many, bud, vp, _, hM3, hf3, .inr ⟨m0, hpn⟩, fun _ => ⟨m0, hpn⟩, Int.le_refl _, by omega⟩
      · skip
        refine wpMix_pure (by kernel_rfl) (fun K hK => ?_); go_big_quiet_op; refine hK _ ?_; clear hK K
        refine wpMix_pure (by kernel_rfl) (fun K hK => ?_); go_big_quiet_op; refine hK _ ?_; clear hK K
        refine wpMix_pure (by kernel_rfl) (fun K hK => ?_); go_big_quiet_op; refine hK _ ?_; clear hK K
        refine wpMix_nil ?_
        have hM1 := hM.below hS0
        have hf1 := PFr.of_below g vp hS0
        clear gc5 gc6 gc7 c5 c6 c7
        go_wp2
        refine bodyPost_ret (results_none rfl _ _ _) rfl ?_
        exact ⟨rfl, Q, most, bud, vp, vb, hM1, hf1, hinv, fun _ => hinv.leaf hmany.1 (by omega), Int.le_refl _, by omega⟩
    · skip
      have e12 : (many == most) = false := beq_eq_false_iff_ne.2 hq12
      refine wpMix_pure (by kernel_rfl) (fun K hK => ?_); go_big_quiet_op; refine hK _ ?_; clear hK K
      refine wpMix_pure (by kernel_rfl) (fun K hK => ?_); go_big_quiet_op; refine hK _ ?_; clear hK K
      refine wpMix_skip (by kernel_rfl) (fun K hK => ?_)
      simp only [Act.put, List.setIfInBounds_toArray, List.set_cons_zero, List.set_cons_succ]
      refine hK _ ?_; clear hK K
      refine wpMix_skip (by kernel_rfl) (fun K hK => ?_)
      simp only [Act.put, List.setIfInBounds_toArray, List.set_cons_zero, List.set_cons_succ]
      refine hK _ ?_; clear hK K
      refine wpMix_skip (by kernel_rfl) (fun K hK => ?_)
      simp only [Act.put, List.setIfInBounds_toArray, List.set_cons_zero, List.set_cons_succ]
      refine hK _ ?_; clear hK K
      refine wpMix_skip (by kernel_rfl) (fun K hK => ?_)
      simp only [Act.put, List.setIfInBounds_toArray, List.set_cons_zero, List.set_cons_succ]
      refine hK _ ?_; clear hK K
      refine wpMix_skip (by kernel_rfl) (fun K hK => ?_)
      simp only [Act.put, List.setIfInBounds_toArray, List.set_cons_zero, List.set_cons_succ]
      refine hK _ ?_; clear hK K
      refine wpMix_skip (by kernel_rfl) (fun K hK => ?_)
      simp only [Act.put, List.setIfInBounds_toArray, List.set_cons_zero, List.set_cons_succ]
      refine hK _ ?_; clear hK K
      refine wpMix_skip (by kernel_rfl) (fun K hK => ?_)
      simp only [Act.put, List.setIfInBounds_toArray, List.set_cons_zero, List.set_cons_succ]
      refine hK _ ?_; clear hK K
      refine wpMix_skip (by kernel_rfl) (fun K hK => ?_)
      simp only [Act.put, List.setIfInBounds_toArray, List.set_cons_zero, List.set_cons_succ]
      refine hK _ ?_; clear hK K
      refine wpMix_skip (by kernel_rfl) (fun K hK => ?_)
      simp only [Act.put, List.setIfInBounds_toArray, List.set_cons_zero, List.set_cons_succ]
      refine hK _ ?_; clear hK K
      refine wpMix_skip (by kernel_rfl) (fun K hK => ?_)
      simp only [Act.put, List.setIfInBounds_toArray, List.set_cons_zero, List.set_cons_succ]
      refine hK _ ?_; clear hK K
      refine wpMix_pure (by kernel_rfl) (fun K hK => ?_); go_big_quiet_op; refine hK _ ?_; clear hK K
      refine wpMix_pure (by kernel_rfl) (fun K hK => ?_); go_big_quiet_op; refine hK _ ?_; clear hK K
      refine wpMix_nil ?_
      have hM1 := hM.below hS0
      have hf1 := PFr.of_below g vp hS0
      clear gc5 gc6 gc7 c5 c6 c7
      go_wp2
      refine bodyPost_ret (results_none rfl _ _ _) rfl ?_
      exact ⟨rfl, Q, most, bud, vp, vb, hM1, hf1, hinv, fun _ => hinv.leaf hmany.1 (by omega), Int.le_refl _, by omega⟩
theorem planted_ok {x : DStand} (h : standB x = true) : standB (plantedF x) = true := by
  obtain ⟨h1, _, h3, _, _⟩ := standB_bounds h
  exact standB_of (x := plantedF x) h1 (by show (0 : Int) ≤ 2000 ∧ (2000 : Int) ≤ 2000; decide) h3 (by show (0 : Int) ≤ 1000 ∧ (1000 : Int) ≤ 1000; decide) (by show (0 : Int) ≤ 0 ∧ (0 : Int) ≤ 100; decide)
theorem infoI64Z : (Tryz.prog.info? 2).map (fun i => (i.zero, i.size, i.bytes)) = some (some (.int .i64 0), 1, 8) := by kernel_rfl
set_option maxRecDepth 100000 in
set_option maxHeartbeats 16000000 in
theorem visit_succ (henv : PEnv xs cs snow least B lv cv fl fc) (m : Nat) (nd : NodeSt xs cs snow least money B g lv cv fl fc m) : VisitSt xs cs snow least money B g lv cv fl fc (m + 1) := by
  intro i P Q m0 many bud most vp vb w him hpn hinv hbud hmon hsl hsc hM
  have hi : i < xs.length := by omega
  have hic : i < cs.length := by rw [henv.hc]; exact hi
  have hl16 := standsB_len henv.hv
  have hmany := hpn.many0
  have hmany2 : 0 ≤ many ∧ many ≤ 100 := by omega
  have hpl := hpn.len
  have hvx := standsB_one henv.hv hi
  have hmn := hpn.mn
  have hcz := hpn.cost
  have hcnn : ∀ R : List Nat, 0 ≤ costS cs R := fun R => by
    induction R with
    | nil => exact Int.le_refl _
    | cons p R ih =>
      rw [costS]
      have : 0 ≤ cs.getD p 0 := by
        rw [List.getD_eq_getElem?_getD]
        rcases Nat.lt_or_ge p cs.length with h | h
        · rw [List.getElem?_eq_getElem h]; exact (henv.hcb _ (List.getElem_mem h)).1
        · rw [List.getElem?_eq_none h]; exact Int.le_refl _
      omega
  have hcp := hcnn P
  have hm0b : 0 ≤ m0 ∧ m0 ≤ 100000000 := by omega
  have hcb := henv.hcb _ (List.getElem_mem hic)
  have hsx : xs.getD i std0 = xs[i] := by rw [List.getD_eq_getElem?_getD, List.getElem?_eq_getElem hi]; rfl
  have hcx : cs.getD i 0 = cs[i] := by rw [List.getD_eq_getElem?_getD, List.getElem?_eq_getElem hic]; rfl
  have hstay := hpn.stay
  rw [hsx] at hstay
  have hplant : cs[i] ≤ m0 → PlantP xs cs snow least money (i + 1) (P ++ [i]) (m0 - cs[i]) (if least ≤ protF (plantedF xs[i]) snow then many + 1 else many) := fun h => by
    have := hpn.plant (by rw [hcx]; exact h) henv.hle.2 (fun k hk => by rw [List.getD_eq_getElem?_getD, List.getElem?_eq_getElem hk]; exact standsB_one henv.hv hk) hi
    rw [hsx, hcx] at this; exact this
  clear hcnn hcp hcz hcx hsx
  obtain ⟨A, cap, rfl, _, _⟩ := hsl.form
  obtain ⟨Ac, cc, rfl, _, _⟩ := hsc.form
  obtain ⟨bb, off, rfl, _, _, hp⟩ := PStand.elem hsl hi
  obtain ⟨b2, o2, rfl, hb2f, _, hcc, _⟩ := hsc.cell1 rfl hic rfl
  generalize xs[i] = x at *
  generalize cs[i] = c at *
  have c0 : w.cell? ⟨g, 0, none⟩ = some (.slice (some ⟨bb, off, none⟩) xs.length cap) := hM.bx.cell 0 _ rfl
  have e0 : ((i : Int) == (xs.length : Int)) = false := by rw [beq_eq_false_iff_ne]; omega
  have hi9 : (i : Int) < (xs.length : Int) := by omega
  have hic9 : (i : Int) < (cs.length : Int) := by omega
  have hgb0 : g < w.heap.size := hM.bx.lt
  have hvb0 : ∀ k, vp.ownBlock = some k → k < w.heap.size := fun k hk => (own_at hM.pr hk).2
  have hBw : B ≤ w.heap.size := by have := hM.gB; omega
  have hA : Below w.heap.size w (w.alloc (.cells #[.string x.id, .int .i64 x.trees, .int .i64 x.height, .int .i64 x.cover, .int .i64 x.gap] 25)) := (Below.refl _ _).alloc (Nat.le_refl _) _
  obtain ⟨k0, k1, k2, k3, k4⟩ := id hp
  obtain ⟨j0, hj, hy0, hy1, hy2⟩ := info_parts infoI64Z
  go_enter Tryz.func34, Tryz.ntmps34
  go_upto_region 4 with fail
  refine at_world (fun W => PMem W B g (.slice (some ⟨bb, off, none⟩) xs.length cap) (.slice (some ⟨b2, o2, none⟩) cs.length cc) snow least bud most P Q vp vb ∧ PFr w W g vp vp ∧ PStand W w.heap.size 0 x ∧ W.cell? ⟨b2, o2 + i, none⟩ = some (.int .i64 c)) ⟨hM.below hA, PFr.of_below g vp hA, PStand.box w x _, cell_below hA hcc⟩ ?_
  clear hA k0 k1 k2 k3 k4 c0 hp
  rintro W ⟨hM1, hf1, hpx, hcc1⟩
  have hbg : w.heap.size ≠ g := by omega
  have hvb : vp.ownBlock ≠ some w.heap.size := fun e => by have := hvb0 _ e; omega
  have hwle : w.heap.size ≤ w.heap.size := Nat.le_refl _
  generalize hbdef : w.heap.size = b at hpx hbg hvb hwle ⊢
  have cc1 : W.cell? ⟨g, 1, none⟩ = some (.slice (some ⟨b2, o2, none⟩) cs.length cc) := hM1.bx.cell 1 _ rfl
  have hbW : b < W.heap.size := hpx.lt
  by_cases hc : c ≤ m0
  rotate_left
  · have hc2 : m0 < c := by omega
    have hpxL := hpx
    clear hplant hc
    have hbl8 := hf1.below hM
    have hns := nd i P Q m0 many bud most x vp vb _ (by omega) hvx hstay hmany2 hinv (by omega) hmon (hsl.below hbl8 henv.hfl) (hsc.below hbl8 henv.hfc) hM1
    obtain ⟨c0, c1, c2, c3, c4⟩ := id hpxL
    clear nd
    go_wp2_with fail
    refine hns.mono ?_
    rintro e wz ⟨rfl, Q9, mo9, bu9, vp9, vb9, hmz9, hfz9, hiz9, hgz9, hbz9, hlz9⟩
    go_wp2
    refine bodyPost_ret (results_none rfl _ _ _) rfl ?_
    exact ⟨rfl, Q9, mo9, bu9, vp9, vb9, hmz9, hf1.trans hfz9, hiz9, hgz9, by omega, by split at hlz9 <;> omega⟩
  have c5 : W.cell? ⟨g, 5, none⟩ = some vp := hM1.bx.cell 5 _ rfl
  obtain ⟨Av, cv9, rfl⟩ := hM1.form
  have hBW : B ≤ W.heap.size := Nat.le_trans hBw hf1.size
  have hPI2 : (PI P).length ≤ 100 := by rw [PI_len]; omega
  replace hplant := hplant hc
  have hA1 : Below W.heap.size W (W.alloc (.cells #[.int .i64 (i : Int)] 2)) := (Below.refl _ _).alloc (Nat.le_refl _) _
  have hMa := hM1.below hA1
  have hfa := PFr.of_below g (.slice Av P.length cv9) hA1
  have hpxa := hpx.below' hA1
  have hoW : (W.alloc (.cells #[.int .i64 (i : Int)] 2)).ownsRow B 2 1 (.slice Av P.length cv9) (PI P).length ((PI P).flatMap fInt.enc) := hMa.pr
  have hszA : (W.alloc (.cells #[.int .i64 (i : Int)] 2)).heap.size = W.heap.size + 1 := World.size_alloc ..
  go_wp2_with (at_builtin; refine wpList_append_lies _ rfl _ _ 34 rfl B 2 j0 (.int .i64 0) 1 8 Tryz.underlying34 hj hy0 hy1 hy2 rfl (by decide) (.slice Av P.length cv9) (PI P).length _ rfl hoW _ 1 1 [.int .i64 (i : Int)] rfl rfl (cell_one_new _ _ _) (by intro u hu; rw [List.mem_singleton] at hu; subst hu; rfl) (by decide) (by unfold maxLen; omega) (by omega) (by (try simp); omega) (W.heap.size + 1) (by simp) ?_)
  intro gq cq u hownU hgr hli hltu
  have hl9 : (Value.slice (some ⟨gq, 0, none⟩) ((PI P).length + 1) cq).ownBlock = (Value.slice Av P.length cv9).ownBlock ∨ (Value.slice (some ⟨gq, 0, none⟩) ((PI P).length + 1) cq).ownBlock = some (W.alloc (.cells #[.int .i64 (i : Int)] 2)).heap.size := by
    rcases hli with h | h
    · exact .inl h.symm
    · exact .inr (by rw [hszA, ← h]; rfl)
  have hoD : Own fInt u B 2 (.slice (some ⟨gq, 0, none⟩) ((PI P).length + 1) cq) (PI P ++ [(i : Int)]) := Own.push _ (by omega) hownU
  have hMp := hMa.push hoD hgr hl9
  have hfp := hfa.trans ((PFr.push hgr hl9).trans (PFr.set g 5 _ (.slice (some ⟨gq, 0, none⟩) ((PI P).length + 1) cq)))
  have hpxp := ((PFr.push (g := g) hgr hl9).trans (PFr.set g 5 _ (.slice (some ⟨gq, 0, none⟩) ((PI P).length + 1) cq))).keep hpxa hbg hvb
  have hbxu := hMa.bx.keep (hgr.block g hMa.bx.lt (fun e => hMa.np e.symm)) hgr.size
  have c5u : u.cell? ⟨g, 5, none⟩ = some (.slice Av P.length cv9) := hbxu.cell 5 _ rfl
  have z5u := hbxu.frz 5 (by show 5 < 8; decide)
  have hv9b : (Value.slice (some ⟨gq, 0, none⟩) ((PI P).length + 1) cq).ownBlock ≠ some b := fun e => by
    rcases hl9 with h2 | h2
    · rw [h2] at e; exact hvb e
    · rw [h2] at e; injection e with e
      have := hpxa.lt; omega
  clear hownU hoD hgr hli hl9 hbxu hoW c5 hpx hcc1 cc1 hM1 hBW hMa hfa hpxa hA1 hszA hltu
  go_upto_region 6 with fail
  refine at_world (fun W2 => PMem W2 B g (.slice (some ⟨bb, off, none⟩) xs.length cap) (.slice (some ⟨b2, o2, none⟩) cs.length cc) snow least bud most (P ++ [i]) Q (.slice (some ⟨gq, 0, none⟩) ((PI P).length + 1) cq) vb ∧ PFr W W2 g (.slice Av P.length cv9) (.slice (some ⟨gq, 0, none⟩) ((PI P).length + 1) cq) ∧ PStand W2 b 0 x) ⟨hMp, hfp, hpxp⟩ ?_
  clear hMp hfp hpxp c5u z5u
  rintro W2 ⟨hM2, hfW, hpx2⟩
  have hf2 := hf1.trans hfW

  have cc1 : W2.cell? ⟨g, 1, none⟩ = some (.slice (some ⟨b2, o2, none⟩) cs.length cc) := hM2.bx.cell 1 _ rfl
  have ccw : W2.cell? ⟨b2, o2 + i, none⟩ = some (.int .i64 c) := ((hf2.below hM).cell (p := ⟨b2, o2 + i, none⟩) (henv.hfc b2 hb2f)).trans hcc
  obtain ⟨c0, c1, c2, c3, c4⟩ := id hpx2
  have gcc1 := cell_regrown cc1
  have gccw := cell_regrown ccw
  have gc0 := cell_regrown c0
  have gc1 := cell_regrown c1
  have gc2 := cell_regrown c2
  have gc3 := cell_regrown c3
  have gc4 := cell_regrown c4
  refine wp_region_sink (C := fun w' => ∃ p : Regrown, w' = Go.Sort.grow (redrawn W2 p.d) p.os) [0, 1, 2, 3, 4, 5, 6, 7, 8, 9, 10, 11, 12, 13, 14] [true, true, true, true, true, true, true, true, true, true, true, true, true, false, false] 14 (by kernel_rfl) (by kernel_rfl) (by kernel_rfl) (fun _ _ d _ _ h => by cases d <;> exact h) (regrown_of_below (Below.drew (Below.refl _ _))) ?_
  simp only [List.map_cons, List.map_nil, List.getD_cons_zero, List.getD_cons_succ]
  have hS0 : Below (W2.heap.size) W2 W2.drew := Below.drew (Below.refl _ _)
  refine wpMixS_pure (by kernel_rfl) (fun K hK => ?_)
  go_big_quiet_op
  refine hK _ ?_; clear hK K
  refine wpMixS_pure (by kernel_rfl) (fun K hK => ?_)
  go_big_quiet_op
  refine hK _ ?_; clear hK K
  refine wpMixS_pure (by kernel_rfl) (fun K hK => ?_)
  go_big_quiet_op
  refine hK _ ?_; clear hK K
  refine wpMixS_pure (by kernel_rfl) (fun K hK => ?_)
  go_big_quiet_op
  refine hK _ ?_; clear hK K
  refine wpMixS_pure (by kernel_rfl) (fun K hK => ?_)
  go_big_quiet_op
  refine hK _ ?_; clear hK K
  refine wpMixS_pure (by kernel_rfl) (fun K hK => ?_)
  go_big_quiet_op
  refine hK _ ?_; clear hK K
  refine wpMixS_pure (by kernel_rfl) (fun K hK => ?_)
  go_big_quiet_op
  refine hK _ ?_; clear hK K
  refine wpMixS_pure (by kernel_rfl) (fun K hK => ?_)
  go_big_quiet_op
  refine hK _ ?_; clear hK K
  refine wpMixS_pure (by kernel_rfl) (fun K hK => ?_)
  go_big_quiet_op
  refine hK _ ?_; clear hK K
  refine wpMixS_pure (by kernel_rfl) (fun K hK => ?_)
  go_big_quiet_op
  refine hK _ ?_; clear hK K
  refine wpMixS_pure (by kernel_rfl) (fun K hK => ?_)
  go_big_quiet_op
  refine hK _ ?_; clear hK K
  refine wpMixS_pure (by kernel_rfl) (fun K hK => ?_)
  go_big_quiet_op
  refine hK _ ?_; clear hK K
  refine wpMixS_pure (by kernel_rfl) (fun K hK => ?_)
  go_big_quiet_op
  refine hK _ ?_; clear hK K
  refine wpMixS_act (by kernel_rfl) (fun K hK => ?_)
  go_big_op
  refine (planted_any x _).mono ?_
  rintro e wr1 ⟨rfl, hbr1⟩
  have hbr1S : Below (W2.heap.size) W2 wr1 := hS0.trans (hbr1.mono hS0.size)
  refine hK _ _ (regrown_of_below hbr1S) ?_
  clear hK K
  refine wpMixS_last (by kernel_rfl) (fun K hK => ?_)
  go_big_op
  refine (nd i (P ++ [i]) Q (m0 - c) many bud most (plantedF x) _ vb _ (by omega) (planted_ok hvx) hplant hmany2 hinv (by omega) hmon (hsl.below (hf2.below hM) henv.hfl |>.below' hbr1S) (hsc.below (hf2.below hM) henv.hfc |>.below' hbr1S) (hM2.below hbr1S)).mono ?_
  rintro e W3 ⟨rfl, Q1, mo1, bu1, vp1, vb1, hMz, hfz, hiz, hgz, hbz, hlz⟩
  try simp only [Act.put, List.setIfInBounds_toArray, List.set_cons_zero, List.set_cons_succ]
  refine hK _ _ ?_
  clear hK K
  have hfw0 := hfW.trans ((PFr.of_below g _ hbr1S).trans hfz)
  have hpx3 := ((PFr.of_below g _ hbr1S).trans hfz).keep hpx2 hbg hv9b
  obtain ⟨gp, cp, rfl, hgp, hcp1, hcp2⟩ := hMz.formS (by rw [List.length_append, List.length_singleton]; omega)
  rw [show (P ++ [i]).length = P.length + 1 by rw [List.length_append, List.length_singleton]] at hMz hfw0 hcp1
  have hcp3 : P.length ≤ cp := by omega
  have hMc := hMz
  have hfw := hfw0
  have hgpb : (Value.slice (some ⟨gp, 0, none⟩) (P.length + 1) cp).ownBlock ≠ some b := fun e => by
    rcases hfw.own b e with h | h
    · exact hvb h
    · exact absurd h (Nat.not_le.2 hbW)
  have c5w : W3.cell? ⟨g, 5, none⟩ = some (.slice (some ⟨gp, 0, none⟩) (P.length + 1) cp) := hMc.bx.cell 5 _ rfl
  have z5w := hMc.bx.frz 5 (by show 5 < 8; decide)
  clear hMz hfw0 hfz hM2 hfW hf2 hpx2 gcc1 gccw gc0 gc1 gc2 gc3 gc4 hS0 cc1 ccw c0 c1 c2 c3 c4 hbr1S hbr1
  go_wp2
  have gc5w := cell_regrown c5w
  refine wp_region_sink (C := fun w' => ∃ p : Regrown, w' = Go.Sort.grow (redrawn W3 p.d) p.os) [0, 1, 2, 3, 4, 5, 6, 7, 8, 9, 10, 11, 12, 13, 14] [true, true, true, true, true, true, true, true, true, true, true, true, true, true, false] 14 (by kernel_rfl) (by kernel_rfl) (by kernel_rfl) (fun _ _ d _ _ h => by cases d <;> exact h) (regrown_of_below (Below.drew (Below.refl _ _))) ?_
  simp only [List.map_cons, List.map_nil, List.getD_cons_zero, List.getD_cons_succ]
  have hS0 : Below (W3.heap.size) W3 W3.drew := Below.drew (Below.refl _ _)
  refine wpMixS_pure (by kernel_rfl) (fun K hK => ?_)
  go_big_quiet_op
  refine hK _ ?_; clear hK K
  refine wpMixS_pure (by kernel_rfl) (fun K hK => ?_)
  go_big_quiet_op
  refine hK _ ?_; clear hK K
  refine wpMixS_pure (by kernel_rfl) (fun K hK => ?_)
  go_big_quiet_op
  refine hK _ ?_; clear hK K
  refine wpMixS_pure (by kernel_rfl) (fun K hK => ?_)
  go_big_quiet_op
  refine hK _ ?_; clear hK K
  refine wpMixS_pure (by kernel_rfl) (fun K hK => ?_)
  go_big_quiet_op
  refine hK _ ?_; clear hK K
  refine wpMixS_pure (by kernel_rfl) (fun K hK => ?_)
  go_big_quiet_op
  refine hK _ ?_; clear hK K
  refine wpMixS_pure (by kernel_rfl) (fun K hK => ?_)
  go_big_quiet_op
  refine hK _ ?_; clear hK K
  refine wpMixS_pure (by kernel_rfl) (fun K hK => ?_)
  go_big_quiet_op
  refine hK _ ?_; clear hK K
  refine wpMixS_pure (by kernel_rfl) (fun K hK => ?_)
  go_big_quiet_op
  refine hK _ ?_; clear hK K
  refine wpMixS_pure (by kernel_rfl) (fun K hK => ?_)
  go_big_quiet_op
  refine hK _ ?_; clear hK K
  refine wpMixS_pure (by kernel_rfl) (fun K hK => ?_)
  go_big_quiet_op
  refine hK _ ?_; clear hK K
  refine wpMixS_pure (by kernel_rfl) (fun K hK => ?_)
  go_big_quiet_op
  refine hK _ ?_; clear hK K
  refine wpMixS_pure (by kernel_rfl) (fun K hK => ?_)
  go_big_quiet_op
  refine hK _ ?_; clear hK K
  refine wpMixS_pure (by kernel_rfl) (fun K hK => ?_)
  go_big_quiet_op
  refine hK _ ?_; clear hK K
  refine wpMixS_last (by kernel_rfl) (fun K hK => ?_)
  go_big_op
  try simp only [Act.put, List.setIfInBounds_toArray, List.set_cons_zero, List.set_cons_succ]
  refine hK _ _ ?_
  clear hK K
  have hM7 := (hMc.below hS0).cut
  have hfS : PFr W3 _ g (.slice (some ⟨gp, 0, none⟩) (P.length + 1) cp) (.slice (some ⟨gp, 0, none⟩) P.length cp) := (PFr.of_below g _ hS0).trans ((PFr.set g 5 _ (.slice (some ⟨gp, 0, none⟩) P.length cp)).trans ⟨rfl, rfl, rfl, Nat.le_refl _, fun _ _ _ _ => rfl, fun k e => .inl e⟩)
  have hf7 := hf1.trans (hfw.trans hfS)
  have hpxL := hfS.keep hpx3 hbg hgpb
  clear hfS hMc hfw hpx3 gc5w c5w z5w
  have hq7 : W3.drew.setCell ⟨g, 5, none⟩ (.slice (some ⟨gp, 0, none⟩) P.length cp) = (W3.setCell ⟨g, 5, none⟩ (.slice (some ⟨gp, 0, none⟩) P.length cp)).drew := rfl
  rw [hq7] at hM7 hf7 hpxL
  clear hq7
  revert hM7 hf7 hpxL
  generalize (W3.setCell ⟨g, 5, none⟩ (.slice (some ⟨gp, 0, none⟩) P.length cp)).drew = W7
  intro hM7 hf7 hpxL
  have hbl8 := hf7.below hM
  have hns := nd i P Q1 m0 many bu1 mo1 x _ vb1 _ (by omega) hvx hstay hmany2 hiz (by omega) hmon (hsl.below hbl8 henv.hfl) (hsc.below hbl8 henv.hfc) hM7
  obtain ⟨c0, c1, c2, c3, c4⟩ := id hpxL
  clear nd
  go_wp2_with fail
  refine hns.mono ?_
  rintro e wz ⟨rfl, Q9, mo9, bu9, vp9, vb9, hmz9, hfz9, hiz9, hgz9, hbz9, hlz9⟩
  go_wp2
  refine bodyPost_ret (results_none rfl _ _ _) rfl ?_
  exact ⟨rfl, Q9, mo9, bu9, vp9, vb9, hmz9, hf7.trans hfz9, hiz9, hgz9, by omega, by split at hlz <;> split at hlz9 <;> omega⟩


end
end Go.Proofs.YtphljobklilbdaaGreatDoor

namespace Go.Proofs.YtphljobklilbdaaGreatDoor
open Go.RowKit
set_option linter.unusedVariables false

structure DGroup where
  id : ByteArray
  people : Int
  guides : Int
  beacons : Int
  shovels : Int
  probes : Int
  skill : Int
  deriving DecidableEq

def fGroup : Flat DGroup where
  n := 7
  enc := fun x => [.string x.id, .int .i64 x.people, .int .i64 x.guides, .int .i64 x.beacons, .int .i64 x.shovels, .int .i64 x.probes, .int .i64 x.skill]
  ok := fun x => fStr.ok x.id ∧ fInt.ok x.people ∧ fInt.ok x.guides ∧ fInt.ok x.beacons ∧ fInt.ok x.shovels ∧ fInt.ok x.probes ∧ fInt.ok x.skill
  pos := by omega
  len := fun _ => rfl
  one := by intro x v hv; simp at hv; rcases hv with rfl | rfl | rfl | rfl | rfl | rfl | rfl <;> rfl

def totGroup (x : DGroup) : Nat := x.id.size
def totGroupS (xs : List DGroup) : Nat := xs.length + (xs.map totGroup).sum






def mkGroup (k : Int) : DGroup := ⟨mt (k), k + 1, k + 1 + 1, k + 1 + 1 + 1, k + 1 + 1 + 1 + 1, k + 1 + 1 + 1 + 1 + 1, k + 1 + 1 + 1 + 1 + 1 + 1⟩
def marksGroup (k : Int) (n : Nat) : List DGroup := (List.range n).map fun (i : Nat) => mkGroup (k + 7 * (i : Int))

theorem marksGroup_get (k0 : Int) (n i : Nat) (h : i < (marksGroup k0 n).length) : (marksGroup k0 n)[i] = mkGroup (k0 + 7 * (i : Int)) := by
  simp [marksGroup]
theorem marksGroup_len (k0 : Int) (n : Nat) : (marksGroup k0 n).length = n := by simp [marksGroup]



end Go.Proofs.YtphljobklilbdaaGreatDoor

namespace Go.Proofs.YtphljobklilbdaaGreatDoor
open Go.RowKit
set_option linter.unusedVariables false

/-- A pointer to a Group that lies somewhere. -/
structure PGroup (w : World) (pb po : Nat) (x : DGroup) : Prop where
  c0 : w.cell? ⟨pb, po, none⟩ = some (.string x.id)
  c1 : w.cell? ⟨pb, po + 1, none⟩ = some (.int .i64 x.people)
  c2 : w.cell? ⟨pb, po + 2, none⟩ = some (.int .i64 x.guides)
  c3 : w.cell? ⟨pb, po + 3, none⟩ = some (.int .i64 x.beacons)
  c4 : w.cell? ⟨pb, po + 4, none⟩ = some (.int .i64 x.shovels)
  c5 : w.cell? ⟨pb, po + 5, none⟩ = some (.int .i64 x.probes)
  c6 : w.cell? ⟨pb, po + 6, none⟩ = some (.int .i64 x.skill)
theorem PGroup.below {w w' : World} {pb po : Nat} {x : DGroup} {B : Nat} (h : PGroup w pb po x) (hb : Below B w w') (hB : pb < B) : PGroup w' pb po x :=
  ⟨(hb.cell (p := ⟨pb, _, none⟩) hB).trans h.c0, (hb.cell (p := ⟨pb, _, none⟩) hB).trans h.c1, (hb.cell (p := ⟨pb, _, none⟩) hB).trans h.c2, (hb.cell (p := ⟨pb, _, none⟩) hB).trans h.c3, (hb.cell (p := ⟨pb, _, none⟩) hB).trans h.c4, (hb.cell (p := ⟨pb, _, none⟩) hB).trans h.c5, (hb.cell (p := ⟨pb, _, none⟩) hB).trans h.c6⟩
theorem PGroup.drewN {w : World} {pb po : Nat} {x : DGroup} (h : PGroup w pb po x) (n : Nat) : PGroup (w.drewN n) pb po x :=
  ⟨h.c0, h.c1, h.c2, h.c3, h.c4, h.c5, h.c6⟩
theorem PGroup.lt {w : World} {pb po : Nat} {x : DGroup} (h : PGroup w pb po x) : pb < w.heap.size := block_lt_of_cell h.c0
theorem PGroup.below' {w w' : World} {pb po : Nat} {x : DGroup} (h : PGroup w pb po x) (hb : Below w.heap.size w w') : PGroup w' pb po x := h.below hb h.lt
theorem PGroup.box (w : World) (x : DGroup) (T : TypeId) : PGroup (w.alloc (.cells #[.string x.id, .int .i64 x.people, .int .i64 x.guides, .int .i64 x.beacons, .int .i64 x.shovels, .int .i64 x.probes, .int .i64 x.skill] T)) w.heap.size 0 x := by
  constructor <;> simp
theorem PGroup.elem {w : World} {A : Option Addr} {len cap : Nat} {xs : List DGroup} {fp : List Nat} (h : Sl fGroup.cod w (.slice A len cap) xs fp) {k : Nat} (hk : k < xs.length) :
    ∃ b off, A = some ⟨b, off, none⟩ ∧ b ∈ fp ∧ fGroup.ok xs[k] ∧ PGroup w b (off + k * 7) xs[k] := by
  obtain ⟨b, off, hA, hm, hok, hc, _⟩ := h.at_ hk
  exact ⟨b, off, hA, hm, hok, ⟨hc 0 (by decide), hc 1 (by decide), hc 2 (by decide), hc 3 (by decide), hc 4 (by decide), hc 5 (by decide), hc 6 (by decide)⟩⟩
end Go.Proofs.YtphljobklilbdaaGreatDoor
