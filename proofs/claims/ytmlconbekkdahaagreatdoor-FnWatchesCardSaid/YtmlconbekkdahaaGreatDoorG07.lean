/- Parts of the proof: Ms, B10, WWatches, LawL, Dr, Open, Ob. -/
import Derived.Test.YtmlconbekkdahaaGreatDoorG01
import Derived.Test.YtmlconbekkdahaaGreatDoorG03
import Derived.Test.YtmlconbekkdahaaGreatDoorG04
import Derived.Test.YtmlconbekkdahaaGreatDoorG06
import Derived.Deep.CutRange
import Derived.LaidMore
import Derived.Stop.Joined
import Derived.Laws.Tables
import GoSem.PinnedTables
import Derived.Deep.Slices
import Derived.Deep.Fields
import Derived.OpenShut
namespace Go.Proofs.YtmlconbekkdahaaGreatDoor
open Go.RowKit
set_option linter.unusedVariables false

/-! ### strings in a list -/
def memS (s : ByteArray) (xs : List ByteArray) : Bool := xs.any fun x => decide (x = s)
def NotS (xs : List ByteArray) (s : ByteArray) (k : Nat) : Prop := ∀ j (hj : j < k) (h : j < xs.length), xs[j] ≠ s
theorem NotS.zero {xs : List ByteArray} {s : ByteArray} : NotS xs s 0 := fun j hj => absurd hj (Nat.not_lt_zero _)
theorem NotS.step {xs : List ByteArray} {s : ByteArray} {k : Nat} (h : k < xs.length) (he : xs[k] ≠ s) (h0 : NotS xs s k) : NotS xs s (k + 1) := by
  intro j hj hl
  by_cases e : j = k
  · subst e; exact he
  · exact h0 j (by omega) hl
theorem NotS.none {xs : List ByteArray} {s : ByteArray} {k : Nat} (h : xs.length ≤ k) (h0 : NotS xs s k) : memS s xs = false := by
  unfold memS
  rw [List.any_eq_false]
  intro x hm
  obtain ⟨j, hj, e⟩ := List.getElem_of_mem hm
  have := h0 j (by omega) hj
  rw [e] at this
  simpa using this
theorem inS {xs : List ByteArray} {s : ByteArray} {k : Nat} (h : k < xs.length) (he : xs[k] = s) : memS s xs = true := by
  unfold memS
  rw [List.any_eq_true]
  exact ⟨xs[k], List.getElem_mem h, by simpa using he⟩
theorem memS_true {xs : List ByteArray} {s : ByteArray} : memS s xs = true ↔ s ∈ xs := by
  unfold memS; rw [List.any_eq_true]
  constructor
  · rintro ⟨x, hx, he⟩
    have he := of_decide_eq_true he
    subst he; exact hx
  · intro h; exact ⟨s, h, decide_eq_true rfl⟩
def memI (n : Int) (xs : List Int) : Bool := xs.any fun x => decide (x = n)
def NotI (xs : List Int) (n : Int) (k : Nat) : Prop := ∀ j (hj : j < k) (h : j < xs.length), xs[j] ≠ n
theorem NotI.zero {xs : List Int} {n : Int} : NotI xs n 0 := fun j hj => absurd hj (Nat.not_lt_zero _)
theorem NotI.step {xs : List Int} {n : Int} {k : Nat} (h : k < xs.length) (he : xs[k] ≠ n) (h0 : NotI xs n k) : NotI xs n (k + 1) := by
  intro j hj hl
  by_cases e : j = k
  · subst e; exact he
  · exact h0 j (by omega) hl
theorem NotI.none {xs : List Int} {n : Int} {k : Nat} (h : xs.length ≤ k) (h0 : NotI xs n k) : memI n xs = false := by
  unfold memI
  rw [List.any_eq_false]
  intro x hm
  obtain ⟨j, hj, e⟩ := List.getElem_of_mem hm
  have := h0 j (by omega) hj
  rw [e] at this
  simpa using this
theorem inI {xs : List Int} {n : Int} {k : Nat} (h : k < xs.length) (he : xs[k] = n) : memI n xs = true := by
  unfold memI
  rw [List.any_eq_true]
  exact ⟨xs[k], List.getElem_mem h, by simpa using he⟩
theorem memI_true {xs : List Int} {n : Int} : memI n xs = true ↔ n ∈ xs := by
  unfold memI; rw [List.any_eq_true]
  constructor
  · rintro ⟨x, hx, he⟩
    have he := of_decide_eq_true he
    subst he; exact hx
  · intro h; exact ⟨n, h, decide_eq_true rfl⟩
end Go.Proofs.YtmlconbekkdahaaGreatDoor

namespace Go.Proofs.YtmlconbekkdahaaGreatDoor
open Go.RowKit
set_option linter.unusedVariables false

set_option maxRecDepth 100000 in
set_option maxHeartbeats 400000 in
theorem b10Long_any (v : Value) (xs : List UInt8) (fp : List Nat) (w : World) (hx : Sl fByte.cod w v xs fp) :
    Calls Tryz.prog 4 #[v] w fun e w' => e = .returned (.bool (decide (1048576 < xs.length))) ∧ w = w' := by
  obtain ⟨A, cap, rfl, hlen, hcap⟩ := hx.form
  go_enter Tryz.func4, Tryz.ntmps4
  go_wp2
  go_ret
  refine ⟨?_, rfl⟩
  show Ending.returned (.bool _) = _
  congr 2
  rw [Bool.eq_iff_iff]
  simp <;> omega
/-- The number at index i lies in 0 .. n-1, and is greater than the one before it. -/
def riseAt (xs : List Int) (n : Int) (i : Nat) : Bool := inB (xs.getD i 0) 0 (n - 1) && (i == 0 || decide (xs.getD (i - 1) 0 < xs.getD i 0))
def risesB (xs : List Int) (n : Int) : Bool := allIdx (riseAt xs n) xs.length
theorem riseAt_in {xs : List Int} {n : Int} {k : Nat} (h : k < xs.length) : riseAt xs n k = (inB xs[k] 0 (n - 1) && (k == 0 || decide (xs.getD (k - 1) 0 < xs[k]))) := by
  unfold riseAt; rw [getD_of_lt h]
theorem riseAt_neg {xs : List Int} {n : Int} {k : Nat} (h : k < xs.length) (h1 : xs[k] < 0) : riseAt xs n k = false := by
  rw [riseAt_in h]; unfold inB; rw [decide_eq_false (by omega)]; rfl
theorem riseAt_far {xs : List Int} {n : Int} {k : Nat} (h : k < xs.length) (h1 : n ≤ xs[k]) : riseAt xs n k = false := by
  rw [riseAt_in h]; unfold inB; rw [decide_eq_false (by omega : ¬ xs[k] ≤ n - 1)]; simp
theorem riseAt_low {xs : List Int} {n : Int} {m : Nat} (h : m + 1 < xs.length) (h1 : xs[m + 1] ≤ xs[m]) : riseAt xs n (m + 1) = false := by
  rw [riseAt_in h, show m + 1 - 1 = m from rfl, getD_of_lt (by omega : m < xs.length), decide_eq_false (by omega)]
  simp
theorem riseAt_zero {xs : List Int} {n : Int} (h : 0 < xs.length) (h0 : (0 : Int) ≤ xs[0]) (h1 : xs[0] < n) : riseAt xs n 0 = true := by
  rw [riseAt_in h]; unfold inB; rw [decide_eq_true h0, decide_eq_true (by omega)]; rfl
theorem riseAt_ok {xs : List Int} {n : Int} {m : Nat} (h : m + 1 < xs.length) (h0 : (0 : Int) ≤ xs[m + 1]) (h1 : xs[m + 1] < n) (h2 : xs[m] < xs[m + 1]) : riseAt xs n (m + 1) = true := by
  rw [riseAt_in h, show m + 1 - 1 = m from rfl, getD_of_lt (by omega : m < xs.length), decide_eq_true h2]
  unfold inB; rw [decide_eq_true h0, decide_eq_true (by omega)]; simp
set_option maxRecDepth 100000 in
set_option maxHeartbeats 2000000 in
theorem b10Inside_any (v : Value) (xs : List ByteArray) (fp : List Nat) (s : ByteArray) (w : World) (hx : Sl fStr.cod w v xs fp) :
    Calls Tryz.prog 13 #[v, .string s] w fun e w' => e = .returned (.bool (memS s xs)) ∧ w = w' := by
  obtain ⟨A, cap, rfl, hlen, hcap⟩ := hx.form
  go_enter Tryz.func13, Tryz.ntmps13
  go_wp2
  go_loop [5] (fun i => ∃ k : Nat, k ≤ xs.length ∧ i = .int .i64 k ∧ Hid (NotS xs s k)) (fun i => xs.length - (intOf i).toNat)
  case atStart => exact ⟨0, Nat.zero_le _, rfl, NotS.zero⟩
  case round =>
    obtain ⟨k, hk, rfl, H0⟩ := hrel
    by_cases hlt : k < xs.length
    · obtain ⟨b, off, rfl, _, hok, hc, _⟩ := hx.cell1 rfl hlt rfl
      by_cases he : xs[k] = s
      · have HF := Lib.hid (inS hlt he)
        have e6 : (xs[k].toList == s.toList) = true := eqS_true.2 he
        clear he
        go_wp2
        go_ret
        exact ⟨ret_bool HF.out.symm, rfl⟩
      · have HS := Lib.hid (NotS.step hlt he H0.out)
        have e6 : (xs[k].toList == s.toList) = false := bytes_beq_false he
        clear he
        go_wp2
        go_round
        case rel => exact ⟨k + 1, by omega, by go_num, HS⟩
        case measure => simp [intOf]; omega
    · have HF := Lib.hid (NotS.none (by omega) H0.out)
      go_wp2
      go_ret
      exact ⟨ret_bool HF.out.symm, rfl⟩
end Go.Proofs.YtmlconbekkdahaaGreatDoor

namespace Go.Proofs.YtmlconbekkdahaaGreatDoor
open Go.RowKit
set_option linter.unusedVariables false

theorem lp_none {m : Int} (h : ¬ 0 ≤ m) : lpC m = 3 ∧ lpV m = 0 := ⟨by unfold lpC; rw [if_neg h], by unfold lpV; rw [if_neg h]⟩
theorem lp_some {m : Int} (h : 0 ≤ m) : lpC m = 0 ∧ lpV m = m := ⟨by unfold lpC; rw [if_pos h], by unfold lpV; rw [if_pos h]⟩
def shB (xs : List DWatch) (p : ByteArray) (L : List Nat) : Bool := L.any (fun m => decide ((xs.getD m watch0).person = p))
theorem shB_snoc (xs : List DWatch) (p : ByteArray) {L : List Nat} {k : Nat} (h : k < L.length) : shB xs p (L.take (k + 1)) = (shB xs p (L.take k) || decide ((xs.getD L[k] watch0).person = p)) := by
  unfold shB
  rw [take_snoc h, List.any_append]
  simp
theorem rowsW_get (L : List Nat) {k : Nat} (h : k < ((List.range L.length).map (rowW L)).length) (h2 : k < L.length) : ((List.range L.length).map (rowW L))[k] = [((L[k] : Nat) : Int), ((L[k] : Nat) : Int) + 1] := by
  rw [List.getElem_map, List.getElem_range]
  unfold rowW
  rw [List.getD_eq_getElem?_getD, List.getElem?_eq_getElem h2]; rfl
theorem memS_of {s : ByteArray} {L : List ByteArray} (h : s ∈ L) : memS s L = true := memS_true.2 h
set_option maxRecDepth 100000 in
set_option maxHeartbeats 16000000 in
theorem walkWatches (v0 : Value) (xs0 : List UInt8) (fp0 : List Nat) (v1 : Value) (xs1 : List UInt8) (fp1 : List Nat) (w : World) (hx0 : Sl fByte.cod w v0 xs0 fp0) (hx1 : Sl fByte.cod w v1 xs1 fp1) (hsh : w.ShapedOpen Tryz.prog) (hrd : RdTabs w) :
    Calls Tryz.prog 3 #[v0, v1] w fun e w' => YesR w e w' := by
  obtain ⟨mx, hm⟩ := maxLen_cell hsh
  clear hsh
  go_enter Tryz.func3, Tryz.ntmps3
  go_wp2_with fail
  refine (b10Long_any _ _ _ _ hx0).mono ?_
  rintro e w' ⟨rfl, rfl⟩
  cases hl0 : decide (1048576 < xs0.length)
  case true =>
    go_wp2
    go_ret
    exact ⟨rfl, Below.refl _ _⟩
  clear hl0
  go_wp2_with fail
  refine (b10Long_any _ _ _ _ hx1).mono ?_
  rintro e w' ⟨rfl, rfl⟩
  cases hl1 : decide (1048576 < xs1.length)
  case true =>
    go_wp2
    go_ret
    exact ⟨rfl, Below.refl _ _⟩
  clear hl1
  go_wp2_with fail
  refine (DrawAddWatch_any _ _ _ _ hx0).mono ?_
  rintro e w1 ⟨y0, ys, x, fq, rfl, hys, hsmy, hyl, hsm, hb1⟩
  have hokx := hsm.ok
  obtain ⟨A0, k0, rfl, _, _⟩ := hys.form
  have hAl : Below w1.heap.size w1 (w1.alloc (.cells #[.string x.person, .int .i64 x.start, .int .i64 x.hours, .bool x.onCall] 26)) := (Below.refl _ _).alloc (Nat.le_refl _) _
  have hp2 := PWatch.box w1 x 26
  unfold agWatch
  go_wp2_with fail
  refine (addWatch_any _ ys fq x _ (hys.below' hAl) hokx).mono ?_
  rintro e w2 ⟨vn, rfl, ⟨⟨fl, hsl, _, _⟩, hbN⟩⟩
  replace hp2 := hp2.below' hbN
  replace hbN : Below w1.heap.size w1 w2 := hAl.trans (hbN.mono (by simp))
  have hB2 := hb1.trans (hbN.mono hb1.size)
  have hys2 := hys.below' hbN
  replace hx1 := hx1.below' hB2
  replace hrd := hrd.below hB2
  replace hm := cell_below hB2 hm
  obtain ⟨A1, k1, rfl, _, _⟩ := hsl.form
  clear hAl hbN hb1 hys hsmy hx0
  generalize w1.heap.size = bx at *
  go_upto_if 46 with fail
  go_cut [7, 8, 9, 10, 11, 12, 13, 14, 15, 16, 17, 18] from 28 (fun _ _ _ _ _ _ _ _ _ _ _ _ wx => Below w2.heap.size w2 wx)
  case first => as_aux_lemma =>
    by_cases hc : addWatchC ys x = 0
    rotate_left
    · have e1 : (addWatchC ys x == 0) = false := by rw [beq_eq_false_iff_ne]; exact hc
      generalize addWatchC ys x = cc at *
      clear hc
      go_wp2
      go_meet
      case rel => exact Below.refl _ _
    obtain ⟨hvy, hox, hl32, hvn, hF⟩ := addWatch_ok hc
    rw [hc]
    rw [hF] at hsl ⊢
    have hlen := addWatchL_length (xs := ys) (x := x)
    have HSUM := Lib.hid (hrsW_add x.person ys x)
    have hxm := addWatchL_self ys x
    have hlen48 := watchsB_len hvn
    clear hc hF
    generalize addWatchL ys x = L at *
    have HLEN := Lib.hid hlen
    clear hlen
    have hbx := watchB_b hox
    have hin : inB x.start 0 10100 = true := inB_true.2 (by omega)
    have hCy : whC ys = 0 := by unfold whC; rw [hvy]; rfl
    have hVy : whV ys x.person = hrsW x.person ys := by unfold whV; rw [hvy]; rfl
    have hCL : whC L = 0 := by unfold whC; rw [hvn]; rfl
    have hVL : whV L x.person = hrsW x.person L := by unfold whV; rw [hvn]; rfl
    have hb1 := hrsW_bound (watchs_all hvy) x.person
    have hb2 := hrsW_bound (watchs_all hvn) x.person
    have HVN := Lib.hid hvn
    replace hvy := Lib.hid hvy
    clear hvn
    obtain ⟨c0, c1, c2, c3⟩ := id hp2
    go_wp2_with fail
    refine (WatchHours_any _ ys fq x.person _ hys2).mono ?_
    rintro e w3 ⟨rfl, hb3⟩
    rw [hCy, hVy]
    replace hsl := hsl.below' hb3
    replace hp2 := hp2.below' hb3
    replace hrd := hrd.below hb3
    replace hm := cell_below hb3 hm
    clear hCy hVy hys2 c0 c1 c2 c3
    obtain ⟨c0, c1, c2, c3⟩ := id hp2
    go_wp2_with fail
    refine (WatchHours_any _ L fl x.person _ hsl).mono ?_
    rintro e w4 ⟨rfl, hb4⟩
    rw [hCL, hVL]
    replace hsl := hsl.below' hb4
    replace hp2 := hp2.below' hb4
    replace hrd := hrd.below hb4
    replace hm := cell_below hb4 hm
    replace hb4 := hb3.trans (hb4.mono hb3.size)
    clear hCL hVL hb3 c0 c1 c2 c3
    generalize hrsW x.person ys = H1 at *
    generalize hrsW x.person L = H2 at *
    obtain ⟨c0, c1, c2, c3⟩ := id hp2
    go_wp2_with fail
    refine (OnWatch_of _ L fl x.start _ hsl HVN.out hin).mono ?_
    rintro e w5 ⟨vw, rfl, ⟨⟨fw, hsw, _, _⟩, hb5⟩⟩
    replace hsl := hsl.below' hb5
    replace hp2 := hp2.below' hb5
    replace hrd := hrd.below hb5
    replace hm := cell_below hb5 hm
    replace hb5 := hb4.trans (hb5.mono hb4.size)
    clear hb4 c0 c1 c2 c3
    have HMEM : Hid (x.onCall = false → memS x.person (persF x.start false L) = true) := fun h => by
      have := pers_mem hxm hox
      rw [h] at this
      exact memS_of this
    generalize persF x.start false L = PL at *
    obtain ⟨Aw, kw, rfl, _, _⟩ := hsw.form
    obtain ⟨c0, c1, c2, c3⟩ := id hp2
    go_wp2_with fail
    refine (CallAt_of _ L fl x.start _ hsl HVN.out hin).mono ?_
    rintro e w6 ⟨cs, cc, rfl, hcall, hb6⟩
    replace hsl := hsl.below' hb6
    replace hp2 := hp2.below' hb6
    replace hrd := hrd.below hb6
    replace hm := cell_below hb6 hm
    replace hsw := hsw.below' hb6
    replace hb6 := hb5.trans (hb6.mono hb5.size)
    clear hb5 c0 c1 c2 c3
    have HCALL : Hid (x.onCall = true → cc = 0 ∧ ltS x.person cs = false) := fun h => by
      obtain ⟨p, rest, h1, h2⟩ := call_first HVN.out hxm hox
      rw [h] at h1
      obtain ⟨rfl, h3⟩ := hcall _ _ h1
      exact ⟨h3, h2⟩
    clear hcall hin
    obtain ⟨c0, c1, c2, c3⟩ := id hp2
    go_wp2_with fail
    refine (WatchText_any x _ hox hokx hrd.tab).mono ?_
    rintro e w7 ⟨rfl, hb7⟩
    replace hsl := hsl.below' hb7
    replace hp2 := hp2.below' hb7
    replace hrd := hrd.below hb7
    replace hm := cell_below hb7 hm
    replace hsw := hsw.below' hb7
    replace hb7 := hb6.trans (hb7.mono hb6.size)
    clear hb6 c0 c1 c2 c3
    go_wp2_with fail
    refine (ReadWatch_of x _ hox hokx mx hm hrd).mono ?_
    rintro e w8 ⟨rfl, hb8⟩
    have hAl : Below w8.heap.size w8 (w8.alloc (.cells #[.string x.person, .int .i64 x.start, .int .i64 x.hours, .bool x.onCall] 26)) := (Below.refl _ _).alloc (Nat.le_refl _) _
    have hq9 := PWatch.box w8 x 26
    replace hb8 := hb8.trans (hAl.mono hb8.size)
    replace hsl := hsl.below' hb8
    replace hp2 := hp2.below' hb8
    replace hsw := hsw.below' hb8
    replace hb8 := hb7.trans (hb8.mono hb7.size)
    clear hb7 hm hrd hAl hokx hsm
    unfold agWatch
    go_wp2_with fail
    refine (specValidWatches_any _ L fl _ hsl).mono ?_
    rintro e w9 ⟨rfl, hb9⟩
    rw [HVN.out]
    replace hp2 := hp2.below' hb9
    replace hq9 := hq9.below' hb9
    replace hsw := hsw.below' hb9
    replace hb9 := hb8.trans (hb9.mono hb8.size)
    clear hb8 hsl
    have elen : ((L.length : Int) != (ys.length : Int) + 1) = false := by rw [HLEN.out]; simp
    have hyl32 : ys.length ≤ 40 := by omega
    have hLl : L.length ≤ 40 := by omega
    clear HLEN
    obtain ⟨c0, c1, c2, c3⟩ := id hp2
    obtain ⟨d0, d1, d2, d3⟩ := id hq9
    generalize hX : x = z at *
    cases hcb : z.onCall
    · have hz : H2 = H1 + z.hours := by rw [HSUM.out, if_pos (by simp [hcb])]
      have em := HMEM.out hcb
      have e2 : (H2 != H1 + z.hours) = false := by rw [hz]; simp
      clear hz HSUM HCALL HMEM
      rw [hcb] at c3 d3
      go_wp2_with fail
      refine (b10Inside_any _ PL fw _ _ hsw).mono ?_
      rintro e w' ⟨rfl, rfl⟩
      rw [show memS z.person PL = true from em]
      go_wp2
      go_meet
      case rel => exact hb9
    · have hz : H2 = H1 := by rw [HSUM.out, if_neg (fun h => by rw [hcb] at h; cases h.2)]; omega
      obtain ⟨rfl, hlt⟩ := HCALL.out hcb
      have e2 : (H2 != H1) = false := by rw [hz]; simp
      have e3 : (!Op.bytesLess cs.toList z.person.toList && !(cs.toList == z.person.toList)) = false := by rw [← Bool.not_or, leS_eq, hlt]; rfl
      clear hz HSUM HCALL HMEM hlt
      rw [hcb] at c3 d3
      go_wp2
      go_meet
      case rel => exact hb9
  case rest => as_aux_lemma =>
    replace hx1 := hx1.below' hcut
    have hB3 := hB2.trans (hcut.mono hB2.size)
    clear hsl hys2 hp2 hrd hm hsm hokx
    go_wp2_with fail
    refine (DrawShortPauses_any _ _ _ _ hx1).mono ?_
    rintro e w4 ⟨y2, zs, r, fz, rfl, hzs, hsmz, hzl, hr0, hr1, hb4⟩
    have hB4 := hB3.trans (hb4.mono hB3.size)
    obtain ⟨A2, k2, rfl, _, _⟩ := hzs.form
    clear hB3 hb4 hsmz hx1
    go_wp2_with fail
    refine (ShortPauses_any _ zs fz r _ hzs).mono ?_
    rintro e w5 ⟨vp, fr, rfl, hpr, hlo, hb5⟩
    have hB5 := hB4.trans (hb5.mono hB4.size)
    replace hzs := hzs.below' hb5
    obtain ⟨A3, k3, rfl, _, _⟩ := hpr.form
    clear hb5 hlo hB4
    by_cases hc : spC zs r = 0
    rotate_left
    · have hF := (sp_bad (xs := zs) (r := r) rfl hc).2
      have e1 : (spC zs r != 0) = true := by simp; exact hc
      have el : ((spF zs r).length : Int) = 0 := by rw [hF]; rfl
      generalize spC zs r = cc at *
      generalize (spF zs r).length = nn at *
      clear hc hF
      go_wp2
      go_ret
      exact ⟨by simp [el], hB5⟩
    have hv : watchsB zs = true := by
      cases h : watchsB zs with
      | true => rfl
      | false => unfold spC at hc; rw [h] at hc; cases hc
    have hF : spF zs r = (List.range (shortL zs r (zs.length - 1)).length).map (rowW (shortL zs r (zs.length - 1))) := by unfold spF; rw [if_pos hc]
    have hlaw := short_law hv r
    have hmemL : ∀ q ∈ shortL zs r (zs.length - 1), q + 1 < zs.length := fun q hq => by have := (shortL_mem.1 hq).1; omega
    have hzl2 := watchsB_len hv
    have HV := Lib.hid hv
    rw [hF] at hpr ⊢
    rw [hc]
    rw [show ((List.range (shortL zs r (zs.length - 1)).length).map (rowW (shortL zs r (zs.length - 1)))).length = (shortL zs r (zs.length - 1)).length by rw [List.length_map, List.length_range]] at hpr ⊢
    clear hc hF hv
    have hLn := shortL_len zs r (zs.length - 1)
    have hL40 : (shortL zs r (zs.length - 1)).length ≤ 40 := by omega
    generalize shortL zs r (zs.length - 1) = L at *
    generalize hm1 : zs.length - 1 = m1 at *
    have HM1 := Lib.hid hm1
    clear hm1
    go_wp2
    go_loopw [23] (fun i wr => ∃ j : Nat, j ≤ zs.length ∧ i = .int .i64 j ∧ Below w5.heap.size w5 wr) (fun i _ => zs.length - (intOf i).toNat)
    case atStart => exact ⟨0, Nat.zero_le _, rfl, Below.refl _ _⟩
    case round => as_aux_lemma =>
      obtain ⟨i, hi, rfl, hb⟩ := hrel
      rename World => wo
      by_cases hlt : i < zs.length
      · have hlti : (i : Int) < (zs.length : Int) := by omega
        obtain ⟨b, off, rfl, _, _, hp⟩ := PWatch.elem (hzs.below' hb) hlt
        obtain ⟨c0, c1, c2, c3⟩ := id hp
        go_wp2_with fail
        refine (LeastPause_of _ zs fz zs[i].person _ (hzs.below' hb) HV.out).mono ?_
        rintro e w6 ⟨rfl, hb6⟩
        have hb7 := hb.trans (hb6.mono hb.size)
        have hla := hlaw zs[i].person
        rw [HM1.out] at *
        have hzs7 := hzs.below' hb7
        have hpr7 := hpr.below' hb7
        clear hb6 hp c0 c1 c2 c3
        generalize leastP zs zs[i].person m1 = lp at *
        obtain ⟨nl, hnl⟩ : ∃ nl, nl = L.length := ⟨_, rfl⟩
        have HNL := Lib.hid hnl
        go_wp2
        go_loopw [26, 27] (fun s k wr => ∃ (k' : Nat) (sb : Bool), k' ≤ L.length ∧ k = .int .i64 k' ∧ s = .bool sb ∧ Hid (shB zs zs[i].person (L.take k') = sb) ∧ Below w6.heap.size w6 wr) (fun _ k _ => L.length - (intOf k).toNat)
        case atStart => exact ⟨0, false, Nat.zero_le _, rfl, rfl, rfl, Below.refl _ _⟩
        case round => as_aux_lemma =>
          obtain ⟨k, sb, hk, rfl, rfl, HSB, hbi⟩ := hrel
          by_cases hlk : k < L.length
          · have hlk' : (k : Int) < (L.length : Int) := by omega
            obtain ⟨bP, oP, vk, fk, rfl, hcP, hrow, _⟩ := (hpr7.below' hbi).elem (k := k) (by rw [List.length_map, List.length_range]; exact hlk)
            rw [rowsW_get L _ hlk] at hrow
            obtain ⟨AK, cK, rfl, hKl, hKc⟩ := hrow.form
            obtain ⟨bK, oK, rfl, _, _, p0, _⟩ := hrow.cell1 rfl (k := 0) (by simp) rfl
            obtain ⟨b9, o9, hA9, _, _, p1, _⟩ := hrow.cell1 rfl (k := 1) (by simp) rfl
            injection hA9 with hA9
            injection hA9 with hA91 hA92 _
            subst hA91 hA92
            have hmk := hmemL _ (List.getElem_mem hlk)
            have HS2 := Lib.hid (shB_snoc zs zs[i].person hlk)
            rw [HSB.out] at HS2
            obtain ⟨bq, oq, hA8, _, _, hpi⟩ := PWatch.elem (hzs7.below' hbi) hlt
            injection hA8 with hA8
            injection hA8 with hA81 hA82 _
            subst hA81 hA82
            obtain ⟨bq, oq, hA8, _, _, hpm⟩ := PWatch.elem (hzs7.below' hbi) (show L[k] < zs.length by omega)
            injection hA8 with hA8
            injection hA8 with hA81 hA82 _
            subst hA81 hA82
            rw [getD_of_lt (show L[k] < zs.length by omega)] at HS2
            replace p0 : wr.cell? ⟨bK, oK, none⟩ = some (.int .i64 (L[k] : Nat)) := by simpa using p0
            replace p1 : wr.cell? ⟨bK, oK + 1, none⟩ = some (.int .i64 ((L[k] : Nat) + 1)) := p1
            replace hcP : wr.cell? ⟨bP, oP + k, none⟩ = some (.slice (some ⟨bK, oK, none⟩) 2 cK) := hcP
            obtain ⟨c0, _, _, _⟩ := id hpi
            obtain ⟨d0, _, _, _⟩ := id hpm
            generalize zs[i].person = pi at *
            generalize zs[L[k]]'(by omega) = y at *
            generalize hmm : L[k] = mm at *
            have hmk2 : (mm : Int) + 1 < (zs.length : Int) := by omega
            have hmk3 : (mm : Int) < (zs.length : Int) := by omega
            have eg : decide ((zs.length : Int) ≤ (mm : Int) + 1) = false := decide_eq_false (by omega)
            have el : decide ((mm : Int) < 0) = false := decide_eq_false (by omega)
            clear hmm hrow hpi hpm hKl hKc
            go_wp2
            have ghcP := cell_regrown hcP
            have gp0 := cell_regrown p0
            have gp1 := cell_regrown p1
            refine wp_region_mix (C := fun w' => ∃ p : Regrown, w' = Go.Sort.grow (redrawn wr p.d) p.os) [true, true, true, true, true, true, true, true, true, true, true, true, true, true, true, true, true, true, true, true, true, true, true, true, true, true, true, true, true, true, true, true, true, true, true, true, true, true, true, true, true, true] (by kernel_rfl) (by kernel_rfl) (by kernel_rfl) (fun _ _ d _ _ h => by cases d <;> exact h) (regrown_of_below (Below.drew (Below.refl _ _))) ?_
            have hS0 : Below (wr.heap.size) wr wr.drew := Below.drew (Below.refl _ _)
            refine wpMix_pure (by kernel_rfl) (fun K hK => ?_); go_big_quiet_op; refine hK _ ?_; clear hK K
            refine wpMix_pure (by kernel_rfl) (fun K hK => ?_); go_big_quiet_op; refine hK _ ?_; clear hK K
            refine wpMix_pure (by kernel_rfl) (fun K hK => ?_); go_big_quiet_op; refine hK _ ?_; clear hK K
            refine wpMix_pure (by kernel_rfl) (fun K hK => ?_); go_big_quiet_op; refine hK _ ?_; clear hK K
            refine wpMix_pure (by kernel_rfl) (fun K hK => ?_); go_big_quiet_op; refine hK _ ?_; clear hK K
            refine wpMix_pure (by kernel_rfl) (fun K hK => ?_); go_big_quiet_op; refine hK _ ?_; clear hK K
            refine wpMix_pure (by kernel_rfl) (fun K hK => ?_); go_big_quiet_op; refine hK _ ?_; clear hK K
            refine wpMix_pure (by kernel_rfl) (fun K hK => ?_); go_big_quiet_op; refine hK _ ?_; clear hK K
            refine wpMix_pure (by kernel_rfl) (fun K hK => ?_); go_big_quiet_op; refine hK _ ?_; clear hK K
            refine wpMix_pure (by kernel_rfl) (fun K hK => ?_); go_big_quiet_op; refine hK _ ?_; clear hK K
            refine wpMix_pure (by kernel_rfl) (fun K hK => ?_); go_big_quiet_op; refine hK _ ?_; clear hK K
            refine wpMix_pure (by kernel_rfl) (fun K hK => ?_); go_big_quiet_op; refine hK _ ?_; clear hK K
            refine wpMix_pure (by kernel_rfl) (fun K hK => ?_); go_big_quiet_op; refine hK _ ?_; clear hK K
            refine wpMix_pure (by kernel_rfl) (fun K hK => ?_); go_big_quiet_op; refine hK _ ?_; clear hK K
            refine wpMix_pure (by kernel_rfl) (fun K hK => ?_); go_big_quiet_op; refine hK _ ?_; clear hK K
            refine wpMix_pure (by kernel_rfl) (fun K hK => ?_); go_big_quiet_op; refine hK _ ?_; clear hK K
            refine wpMix_pure (by kernel_rfl) (fun K hK => ?_); go_big_quiet_op; refine hK _ ?_; clear hK K
            refine wpMix_pure (by kernel_rfl) (fun K hK => ?_); go_big_quiet_op; refine hK _ ?_; clear hK K
            refine wpMix_pure (by kernel_rfl) (fun K hK => ?_); go_big_quiet_op; refine hK _ ?_; clear hK K
            refine wpMix_pure (by kernel_rfl) (fun K hK => ?_); go_big_quiet_op; refine hK _ ?_; clear hK K
            refine wpMix_pure (by kernel_rfl) (fun K hK => ?_); go_big_quiet_op; refine hK _ ?_; clear hK K
            refine wpMix_pure (by kernel_rfl) (fun K hK => ?_); go_big_quiet_op; refine hK _ ?_; clear hK K
            refine wpMix_pure (by kernel_rfl) (fun K hK => ?_); go_big_quiet_op; refine hK _ ?_; clear hK K
            refine wpMix_pure (by kernel_rfl) (fun K hK => ?_); go_big_quiet_op; refine hK _ ?_; clear hK K
            refine wpMix_pure (by kernel_rfl) (fun K hK => ?_); go_big_quiet_op; refine hK _ ?_; clear hK K
            refine wpMix_pure (by kernel_rfl) (fun K hK => ?_); go_big_quiet_op; refine hK _ ?_; clear hK K
            refine wpMix_pure (by kernel_rfl) (fun K hK => ?_); go_big_quiet_op; refine hK _ ?_; clear hK K
            refine wpMix_pure (by kernel_rfl) (fun K hK => ?_); go_big_quiet_op; refine hK _ ?_; clear hK K
            refine wpMix_pure (by kernel_rfl) (fun K hK => ?_); go_big_quiet_op; refine hK _ ?_; clear hK K
            refine wpMix_pure (by kernel_rfl) (fun K hK => ?_); go_big_quiet_op; refine hK _ ?_; clear hK K
            refine wpMix_pure (by kernel_rfl) (fun K hK => ?_); go_big_quiet_op; refine hK _ ?_; clear hK K
            refine wpMix_pure (by kernel_rfl) (fun K hK => ?_); go_big_quiet_op; refine hK _ ?_; clear hK K
            refine wpMix_pure (by kernel_rfl) (fun K hK => ?_); go_big_quiet_op; refine hK _ ?_; clear hK K
            refine wpMix_pure (by kernel_rfl) (fun K hK => ?_); go_big_quiet_op; refine hK _ ?_; clear hK K
            refine wpMix_pure (by kernel_rfl) (fun K hK => ?_); go_big_quiet_op; refine hK _ ?_; clear hK K
            refine wpMix_pure (by kernel_rfl) (fun K hK => ?_); go_big_quiet_op; refine hK _ ?_; clear hK K
            refine wpMix_pure (by kernel_rfl) (fun K hK => ?_); go_big_quiet_op; refine hK _ ?_; clear hK K
            refine wpMix_pure (by kernel_rfl) (fun K hK => ?_); go_big_quiet_op; refine hK _ ?_; clear hK K
            refine wpMix_pure (by kernel_rfl) (fun K hK => ?_); go_big_quiet_op; refine hK _ ?_; clear hK K
            refine wpMix_pure (by kernel_rfl) (fun K hK => ?_); go_big_quiet_op; refine hK _ ?_; clear hK K
            refine wpMix_pure (by kernel_rfl) (fun K hK => ?_); go_big_quiet_op; refine hK _ ?_; clear hK K
            refine wpMix_pure (by kernel_rfl) (fun K hK => ?_); go_big_quiet_op; refine hK _ ?_; clear hK K
            refine wpMix_nil ?_
            have hT : Below wr.heap.size wr wr.drew := hS0
            clear gp0 gp1 ghcP
            have p0 := (hT.cell (p := ⟨bK, oK, none⟩) (block_lt_of_cell p0)).trans p0
            have hcP := (hT.cell (p := ⟨bP, oP + k, none⟩) (block_lt_of_cell hcP)).trans hcP
            have c0 := (hT.cell (p := ⟨b, _, none⟩) (block_lt_of_cell c0)).trans c0
            have d0 := (hT.cell (p := ⟨b, _, none⟩) (block_lt_of_cell d0)).trans d0
            clear hS0
            generalize wr.drew = W9 at *
            go_wp2
            cases sb
            · skip
              have ghcP := cell_regrown hcP
              have gp0 := cell_regrown p0
              have gc0 := cell_regrown c0
              have gd0 := cell_regrown d0
              refine wp_region_mix (C := fun w' => ∃ p : Regrown, w' = Go.Sort.grow (redrawn W9 p.d) p.os) [true, true, true, true, true, true, true, true, true, true, true, true, true, true, true, true, true, true, true, true] (by kernel_rfl) (by kernel_rfl) (by kernel_rfl) (fun _ _ d _ _ h => by cases d <;> exact h) (regrown_of_below (Below.drew (Below.refl _ _))) ?_
              have hS0 : Below (W9.heap.size) W9 W9.drew := Below.drew (Below.refl _ _)
              refine wpMix_pure (by kernel_rfl) (fun K hK => ?_); go_big_quiet_op; refine hK _ ?_; clear hK K
              refine wpMix_pure (by kernel_rfl) (fun K hK => ?_); go_big_quiet_op; refine hK _ ?_; clear hK K
              refine wpMix_pure (by kernel_rfl) (fun K hK => ?_); go_big_quiet_op; refine hK _ ?_; clear hK K
              refine wpMix_pure (by kernel_rfl) (fun K hK => ?_); go_big_quiet_op; refine hK _ ?_; clear hK K
              refine wpMix_pure (by kernel_rfl) (fun K hK => ?_); go_big_quiet_op; refine hK _ ?_; clear hK K
              refine wpMix_pure (by kernel_rfl) (fun K hK => ?_); go_big_quiet_op; refine hK _ ?_; clear hK K
              refine wpMix_pure (by kernel_rfl) (fun K hK => ?_); go_big_quiet_op; refine hK _ ?_; clear hK K
              refine wpMix_pure (by kernel_rfl) (fun K hK => ?_); go_big_quiet_op; refine hK _ ?_; clear hK K
              refine wpMix_pure (by kernel_rfl) (fun K hK => ?_); go_big_quiet_op; refine hK _ ?_; clear hK K
              refine wpMix_pure (by kernel_rfl) (fun K hK => ?_); go_big_quiet_op; refine hK _ ?_; clear hK K
              refine wpMix_pure (by kernel_rfl) (fun K hK => ?_); go_big_quiet_op; refine hK _ ?_; clear hK K
              refine wpMix_pure (by kernel_rfl) (fun K hK => ?_); go_big_quiet_op; refine hK _ ?_; clear hK K
              refine wpMix_pure (by kernel_rfl) (fun K hK => ?_); go_big_quiet_op; refine hK _ ?_; clear hK K
              refine wpMix_pure (by kernel_rfl) (fun K hK => ?_); go_big_quiet_op; refine hK _ ?_; clear hK K
              refine wpMix_pure (by kernel_rfl) (fun K hK => ?_); go_big_quiet_op; refine hK _ ?_; clear hK K
              refine wpMix_pure (by kernel_rfl) (fun K hK => ?_); go_big_quiet_op; refine hK _ ?_; clear hK K
              refine wpMix_pure (by kernel_rfl) (fun K hK => ?_); go_big_quiet_op; refine hK _ ?_; clear hK K
              by_cases hq17 : y.person = pi
              · skip
                have e17 : (y.person.toList == pi.toList) = true := eqS_true.2 hq17
                replace hq17 := Lib.hid hq17
                refine wpMix_pure (by kernel_rfl) (fun K hK => ?_); go_big_quiet_op; refine hK _ ?_; clear hK K
                refine wpMix_pure (by kernel_rfl) (fun K hK => ?_); go_big_quiet_op; refine hK _ ?_; clear hK K
                refine wpMix_pure (by kernel_rfl) (fun K hK => ?_); go_big_quiet_op; refine hK _ ?_; clear hK K
                refine wpMix_nil ?_
                have HS3 : Hid (shB zs pi (L.take (k + 1)) = true) := by show _ = _; rw [HS2.out, decide_eq_true hq17.out]; try rfl
                have hbn := hbi.trans (hT.trans (hS0.mono hT.size) |>.mono hbi.size)
                clear HS2
                go_wp2
                go_roundw
                case rel => exact ⟨k + 1, _, by omega, by go_num, rfl, HS3, hbn⟩
                case measure => simp [intOf]; omega
              · skip
                have e17 : (y.person.toList == pi.toList) = false := bytes_beq_false hq17
                refine wpMix_pure (by kernel_rfl) (fun K hK => ?_); go_big_quiet_op; refine hK _ ?_; clear hK K
                refine wpMix_pure (by kernel_rfl) (fun K hK => ?_); go_big_quiet_op; refine hK _ ?_; clear hK K
                refine wpMix_pure (by kernel_rfl) (fun K hK => ?_); go_big_quiet_op; refine hK _ ?_; clear hK K
                refine wpMix_nil ?_
                have HS3 : Hid (shB zs pi (L.take (k + 1)) = false) := by show _ = _; rw [HS2.out, decide_eq_false hq17]; try rfl
                have hbn := hbi.trans (hT.trans (hS0.mono hT.size) |>.mono hbi.size)
                clear HS2
                go_wp2
                go_roundw
                case rel => exact ⟨k + 1, _, by omega, by go_num, rfl, HS3, hbn⟩
                case measure => simp [intOf]; omega
            · skip
              have ghcP := cell_regrown hcP
              have gp0 := cell_regrown p0
              have gc0 := cell_regrown c0
              have gd0 := cell_regrown d0
              refine wp_region_mix (C := fun w' => ∃ p : Regrown, w' = Go.Sort.grow (redrawn W9 p.d) p.os) [true, true, true, true, true, true, true, true, true, true, true, true, true, true, true, true, true, true, true, true] (by kernel_rfl) (by kernel_rfl) (by kernel_rfl) (fun _ _ d _ _ h => by cases d <;> exact h) (regrown_of_below (Below.drew (Below.refl _ _))) ?_
              have hS0 : Below (W9.heap.size) W9 W9.drew := Below.drew (Below.refl _ _)
              refine wpMix_pure (by kernel_rfl) (fun K hK => ?_); go_big_quiet_op; refine hK _ ?_; clear hK K
              refine wpMix_pure (by kernel_rfl) (fun K hK => ?_); go_big_quiet_op; refine hK _ ?_; clear hK K
              refine wpMix_skip (by kernel_rfl) (fun K hK => ?_)
              simp only [Act.put, List.setIfInBounds_toArray, List.set_cons_zero, List.set_cons_succ]
              refine hK _ ?_; clear hK K
              refine wpMix_skip (by kernel_rfl) (fun K hK => ?_)
              simp only [Act.put, List.setIfInBounds_toArray, List.set_cons_zero, List.set_cons_succ]
              refine hK _ ?_; clear hK K
              refine wpMix_skip (by kernel_rfl) (fun K hK => ?_)
              simp only [Act.put, List.setIfInBounds_toArray, List.set_cons_zero, List.set_cons_succ]
              refine hK _ ?_; clear hK K
              refine wpMix_skip (by kernel_rfl) (fun K hK => ?_)
              simp only [Act.put, List.setIfInBounds_toArray, List.set_cons_zero, List.set_cons_succ]
              refine hK _ ?_; clear hK K
              refine wpMix_skip (by kernel_rfl) (fun K hK => ?_)
              simp only [Act.put, List.setIfInBounds_toArray, List.set_cons_zero, List.set_cons_succ]
              refine hK _ ?_; clear hK K
              refine wpMix_skip (by kernel_rfl) (fun K hK => ?_)
              simp only [Act.put, List.setIfInBounds_toArray, List.set_cons_zero, List.set_cons_succ]
              refine hK _ ?_; clear hK K
              refine wpMix_skip (by kernel_rfl) (fun K hK => ?_)
              simp only [Act.put, List.setIfInBounds_toArray, List.set_cons_zero, List.set_cons_succ]
              refine hK _ ?_; clear hK K
              refine wpMix_skip (by kernel_rfl) (fun K hK => ?_)
              simp only [Act.put, List.setIfInBounds_toArray, List.set_cons_zero, List.set_cons_succ]
              refine hK _ ?_; clear hK K
              refine wpMix_skip (by kernel_rfl) (fun K hK => ?_)
              simp only [Act.put, List.setIfInBounds_toArray, List.set_cons_zero, List.set_cons_succ]
              refine hK _ ?_; clear hK K
              refine wpMix_skip (by kernel_rfl) (fun K hK => ?_)
              simp only [Act.put, List.setIfInBounds_toArray, List.set_cons_zero, List.set_cons_succ]
              refine hK _ ?_; clear hK K
              refine wpMix_skip (by kernel_rfl) (fun K hK => ?_)
              simp only [Act.put, List.setIfInBounds_toArray, List.set_cons_zero, List.set_cons_succ]
              refine hK _ ?_; clear hK K
              refine wpMix_skip (by kernel_rfl) (fun K hK => ?_)
              simp only [Act.put, List.setIfInBounds_toArray, List.set_cons_zero, List.set_cons_succ]
              refine hK _ ?_; clear hK K
              refine wpMix_skip (by kernel_rfl) (fun K hK => ?_)
              simp only [Act.put, List.setIfInBounds_toArray, List.set_cons_zero, List.set_cons_succ]
              refine hK _ ?_; clear hK K
              refine wpMix_skip (by kernel_rfl) (fun K hK => ?_)
              simp only [Act.put, List.setIfInBounds_toArray, List.set_cons_zero, List.set_cons_succ]
              refine hK _ ?_; clear hK K
              refine wpMix_skip (by kernel_rfl) (fun K hK => ?_)
              simp only [Act.put, List.setIfInBounds_toArray, List.set_cons_zero, List.set_cons_succ]
              refine hK _ ?_; clear hK K
              refine wpMix_skip (by kernel_rfl) (fun K hK => ?_)
              simp only [Act.put, List.setIfInBounds_toArray, List.set_cons_zero, List.set_cons_succ]
              refine hK _ ?_; clear hK K
              refine wpMix_pure (by kernel_rfl) (fun K hK => ?_); go_big_quiet_op; refine hK _ ?_; clear hK K
              refine wpMix_pure (by kernel_rfl) (fun K hK => ?_); go_big_quiet_op; refine hK _ ?_; clear hK K
              refine wpMix_nil ?_
              have HS3 : Hid (shB zs pi (L.take (k + 1)) = true) := by show _ = _; rw [HS2.out, Bool.true_or]; try rfl
              have hbn := hbi.trans (hT.trans (hS0.mono hT.size) |>.mono hbi.size)
              clear HS2
              go_wp2
              go_roundw
              case rel => exact ⟨k + 1, _, by omega, by go_num, rfl, HS3, hbn⟩
              case measure => simp [intOf]; omega
          · obtain rfl : k = L.length := by omega
            rw [List.take_length] at HSB
            have hb8 := hb7.trans (hbi.mono hb7.size)
            have hsb : sb = decide (0 ≤ lp ∧ lp < r) := by
              rw [← HSB.out]
              rw [Bool.eq_iff_iff, decide_eq_true_eq]
              exact hla
            have hB8 := hB5.trans (hb8.mono hB5.size)
            clear HSB hla hpr7 hzs7 hbi hb7
            by_cases hlp : 0 ≤ lp
            · rw [(lp_some hlp).1, (lp_some hlp).2]
              by_cases hlr : lp < r
              · obtain rfl : sb = true := by rw [hsb]; exact decide_eq_true ⟨hlp, hlr⟩
                have ed : decide (lp < r) = true := decide_eq_true hlr
                clear hsb
                go_wp2
                go_roundw
                case rel => exact ⟨i + 1, by omega, by go_num, hb8⟩
                case measure => simp [intOf]; omega
              · obtain rfl : sb = false := by rw [hsb]; exact decide_eq_false (fun h => hlr h.2)
                have ed : decide (lp < r) = false := decide_eq_false hlr
                clear hsb
                go_wp2
                go_roundw
                case rel => exact ⟨i + 1, by omega, by go_num, hb8⟩
                case measure => simp [intOf]; omega
            · rw [(lp_none hlp).1, (lp_none hlp).2]
              obtain rfl : sb = false := by rw [hsb]; exact decide_eq_false (fun h => hlp h.1)
              clear hsb
              go_wp2
              go_roundw
              case rel => exact ⟨i + 1, by omega, by go_num, hb8⟩
              case measure => simp [intOf]; omega
      · go_wp2
        go_ret
        exact ⟨rfl, hB5.trans (hb.mono hB5.size)⟩

end Go.Proofs.YtmlconbekkdahaaGreatDoor

namespace Go.Proofs.YtmlconbekkdahaaGreatDoor
open Go.RowKit Go.WideShapes Go.ChangeShapes Go.ChangeAt

set_option maxRecDepth 100000 in
theorem law_liftedL {F : FuncId} {fn : Func} {s : ChangeSpec} (laid : List (String × DataW Unit)) (os : Os) (started : os.Started) (H : Type) (enc : TypeId × Value → H)
    (hfn : Tryz.checked.prog.funcs[F]? = some fn) (noInit : Tryz.checked.prog.inits.idxOf? F = none)
    (witness : ∃ (w : World) (tape : Tape) (i : Input), w.os = os ∧ (w.forCall tape i).Shaped Tryz.checked.prog ∧ i.vars = [] ∧ Input.okWide Tryz.checked.prog (w.forCall tape i) .any w.heap.size F i ∧
      ((s.pre enc Tryz.checked.prog fn [] false (w.forCall tape i).memory i.args ∧ laidMetH Tryz.checked.prog laid (w.forCall tape i).memory) ∧ sizedMet enc Tryz.checked.prog fn (OpenSpec.ofChange s) false (w.forCall tape i).memory i.args) ∧ ({} : Assume).holds Tryz.checked.prog (lone (Frame.enter Tryz.checked.prog F i.args .normal) [] (w.forCall tape i)))
    (hs : s.vars = []) (hres : fn.resultTypes = #[4]) (hread : ∀ t ∈ fn.params.toList, Tryz.prog.readableRec t = true ∧ t < Tryz.prog.types.size)
    (hspec : ∀ ds : List (DataW H), ds.length = fn.params.toList.length → s.fn H ds = { results := [.lit (.bool true)], args := ds })
    (walk : ∀ (W : World) (args : Array Value) (ds : List (DataW H)) (p : List MemPlace), W.ShapedOpen Tryz.prog → laidMetH Tryz.prog laid W → (∀ (j : Nat) t v, fn.params[j]? = some t → args[j]? = some v → ∃ base, Value.okWide Tryz.prog W .any base t v) →
      DataW.TrodAll enc Tryz.prog W 0 (fun _ => true) true fn.params.toList args.toList ds p → W.noneFrozen p → Calls Tryz.prog F args W fun e W' => e = .returned (.bool true) ∧ Below W.heap.size W W') :
    ReturnsInHanded {} Tryz.checked os F .any (fun w args => (s.pre enc Tryz.checked.prog fn [] false w args ∧ laidMetH Tryz.checked.prog laid w) ∧ sizedMet enc Tryz.checked.prog fn (OpenSpec.ofChange s) false w args) (s.post enc Tryz.checked.prog fn false true false false) := by
  refine returnsInHanded_of_calls (C := Tryz.checked) Tryz.own started noInit witness ?_
  intro w tape i _ hsh _ hok hpre hholds
  obtain ⟨_, _, _, fn', hfn', _, _, _, _, hval⟩ := hok
  have e : fn' = fn := Option.some.inj (hfn'.symm.trans hfn)
  subst e
  obtain ⟨⟨⟨ds, gs, before, hw, hc⟩, hx⟩, hz⟩ := hpre
  have hW := DataW.Whole.of_heap (w' := w.forCall tape i) (by rfl) hw
  have hX : laidMetH Tryz.prog laid (w.forCall tape i) := laidMetH.of_heap (by rfl) hx
  generalize w.forCall tape i = W at *
  have hW' := hW
  obtain ⟨p, q, hA, hV, hpq, hfz, hnd⟩ := hW
  rw [hs] at hV
  obtain ⟨rfl, rfl⟩ := trodVars_none hV
  rw [List.append_nil] at hpq
  subst hpq
  refine (walk W i.args ds _ hsh hX (fun j t v h1 h2 => ⟨w.heap.size, hval j t v h1 h2⟩) hA hfz).mono fun e W' ⟨he, hb⟩ => ?_
  subst he
  have hsp : s.fn H (ds ++ []) = { results := [.lit (.bool true)], args := ds } := by
    rw [List.append_nil]; exact hspec ds (trodAll_len _ _ _ _ hA)
  have hlt := fun x hx => hW'.lt x hx
  refine ChangeSpec.post_blind (W := W) ?_
  refine post_of_below (pa := before) (pv := []) hW' (fun b sp hd => ?_) (fun sp h => ?_) (fun sp h => ?_) (by simp) hb ?_
  · rw [hsp, hres]; exact trodAll_mk1 (shut_bool Tryz.underlying4 _)
  · rw [hsp]; exact trodAll_below Tryz.laidOut hb _ _ _ _ hread hA hlt h
  · rw [hsp, hs]; rfl
  · rw [hres]; exact fun j t r h1 h2 => ok_one (f := fn') hres rfl (okWide_bool_mk Tryz.underlying4 _) j t r (by rw [hres]; exact h1) (by rw [hres]; exact h2)
end Go.Proofs.YtmlconbekkdahaaGreatDoor

namespace Go.Proofs.YtmlconbekkdahaaGreatDoor
noncomputable def doorWorld (os : Os) : World := (World.doorLaid Tryz.prog 72 os).setRow 1 (Go.Pinned.utf8FirstZ.map (fun z : Nat => Value.int .u8 (z : Int))).toArray
end Go.Proofs.YtmlconbekkdahaaGreatDoor

namespace Go.Proofs.YtmlconbekkdahaaGreatDoor
open Go.RowKit Go.WideShapes Go.ChangeShapes Go.ChangeAt Go.Deep

/-- Whatever the form's reader reads at type t reads by E. -/
def Opens {α : Type} (t : TypeId) (E : Cod α) : Prop :=
  ∀ {H : Type} {enc : TypeId × Value → H} {w : World} {n : Nat} {cs : List Value} {x : DataW H × List MemPlace},
    DataW.trod enc Tryz.prog w 0 (fun _ => true) true n t cs = some x → w.noneFrozen x.2 → ∃ y fp, E.rd w cs y fp

theorem opens_int {t : TypeId} (ht : Tryz.prog.underlying t = some (.int .i64)) : Opens t fInt.cod := by
  intro H enc w n cs x h _
  obtain ⟨k, rfl, rfl, wk⟩ := DataW.trod_int ht h
  refine ⟨k, [], rfl, ?_, rfl⟩
  exact bounds_i64 wk
theorem opens_str {t : TypeId} (ht : Tryz.prog.underlying t = some .string) : Opens t fStr.cod := by
  intro H enc w n cs x h _
  obtain ⟨s, rfl, rfl, hs⟩ := DataW.trod_string ht h
  exact ⟨s, [], rfl, by unfold maxLen at hs; exact hs, rfl⟩
theorem opens_bool {t : TypeId} (ht : Tryz.prog.underlying t = some .bool) : Opens t fBool.cod := by
  intro H enc w n cs x h _
  obtain ⟨s, rfl, rfl⟩ := DataW.trod_bool ht h
  exact ⟨s, [], rfl, trivial, rfl⟩

theorem add_none (b off x y : Nat) : ((⟨b, off, none⟩ : Addr).add x).add y = ⟨b, off + x + y, none⟩ := by
  unfold Addr.add
  by_cases hx : x = 0 <;> by_cases hy : y = 0 <;> simp [hx, hy]

theorem opens_slice {α : Type} {E : Cod α} {t e : TypeId} (ht : Tryz.prog.underlying t = some (.slice e)) (hn : Tryz.prog.cellsOf e = E.n) (he : Opens e E) : Opens t E.slice := by
  intro H enc w n cs x h hfz
  rcases open_slice ht h with ⟨rfl, rfl⟩ | ⟨a, len, cap, m, n', D, Pl, rfl, hb, hl, hm, hmm, hx, hi⟩
  · exact ⟨[], [], _, rfl, none, 0, rfl, by simp, by simp [maxLen], .inl ⟨rfl, rfl⟩⟩
  · simp only [if_true] at hmm
    subst hmm
    rcases Nat.eq_zero_or_pos len with h0 | h0
    · subst h0
      exact ⟨[], [], _, rfl, some a, m, rfl, by simp, hm, .inl ⟨rfl, rfl⟩⟩
    · rw [hn] at hi
      have hspot : a = ⟨a.block, a.off, none⟩ := by
        obtain ⟨cs', hc, _⟩ := hi 0 (by omega)
        obtain ⟨_, hcl, hat⟩ := World.cells?_some hc
        have h1 := hat 0 E.pos
        have hps := E.pos
        rw [List.getElem?_eq_getElem (by omega)] at h1
        have h2 : w.cell? a = some cs'[0] := by simpa [Addr.add] using h1
        have := World.cell?_spot h2
        cases a; simp_all
      have hel : ∀ i : Fin len, ∃ p : α × List Nat × List Value, (∀ j, j < E.n → w.cell? ⟨a.block, a.off + i.1 * E.n + j, none⟩ = p.2.2[j]?) ∧ (∀ j, j < E.n → w.frozen? ⟨a.block, a.off + i.1 * E.n + j, none⟩ = false) ∧ E.rd w p.2.2 p.1 p.2.1 := by
        intro ⟨i, hil⟩
        obtain ⟨cs', hc, htr⟩ := hi i (by omega)
        obtain ⟨_, hcl, hat⟩ := World.cells?_some hc
        have hsub : ∀ pl ∈ Pl i, pl ∈ x.2 := by
          intro pl hpl
          rw [hx]
          exact List.mem_append_right _ (List.mem_flatMap.2 ⟨i, by simp; omega, hpl⟩)
        obtain ⟨y, fp, hy⟩ := he htr (fun b off hmem => hfz b off (hsub _ hmem))
        refine ⟨⟨y, fp, cs'⟩, fun j hj => ?_, fun j hj => ?_, hy⟩
        · have := hat j hj
          rw [hspot, add_none] at this
          exact this
        · refine hfz _ _ ?_
          rw [hx]
          refine List.mem_append_left _ ?_
          unfold MemPlace.row
          refine List.mem_map.2 ⟨i * E.n + j, ?_, by rw [Nat.add_assoc]⟩
          rw [List.mem_range, hn]
          have : (i + 1) * E.n ≤ m * E.n := Nat.mul_le_mul_right _ (by omega)
          rw [Nat.succ_mul] at this
          omega
      obtain ⟨f, hf⟩ := Classical.axiomOfChoice hel
      have hblk : a.block < w.heap.size := by
        obtain ⟨h1, _, h3⟩ := hf ⟨0, h0⟩
        have h1 := h1 0 E.pos
        have h4 := E.len h3
        have hps := E.pos
        rw [List.getElem?_eq_getElem (by omega)] at h1
        exact block_lt_of_cell (a := ⟨a.block, _, none⟩) h1
      refine ⟨List.ofFn fun i => (f i).1, a.block :: (List.range len).flatMap fun i => if h : i < len then (f ⟨i, h⟩).2.1 else [], _, rfl, some a, m, by simp, by simpa using hl, hm,
        .inr ⟨a.block, a.off, _, by rw [← hspot], hblk, by rw [List.length_ofFn], fun i hil => ?_⟩⟩
      rw [List.length_ofFn] at hil
      obtain ⟨h1, h2, h3⟩ := hf ⟨i, hil⟩
      refine ⟨(f ⟨i, hil⟩).2.2, h1, h2, ?_⟩
      simpa [hil] using h3

/-- A struct of fields of one cell each. -/
theorem opens_fields {t : TypeId} {fs : Array Field} (ht : Tryz.prog.underlying t = some (.struct fs)) (hone : oneCellFields Tryz.prog fs = true) (hC : Tryz.prog.cellsOf t = fs.size)
    {H : Type} {enc : TypeId × Value → H} {w : World} {n : Nat} {cs : List Value} {x : DataW H × List MemPlace} (h : DataW.trod enc Tryz.prog w 0 (fun _ => true) true n t cs = some x) (hfz : w.noneFrozen x.2) :
    cs.length = fs.size ∧ ∀ (j : Nat) (f : Field), fs[j]? = some f → ∃ (v : Value) (m : Nat) (y : DataW H × List MemPlace), cs[j]? = some v ∧ DataW.trod enc Tryz.prog w 0 (fun _ => true) true m f.type [v] = some y ∧ w.noneFrozen y.2 := by
  obtain ⟨xs, n', rfl, hx, hl, hxl, hf⟩ := DataW.trod_struct ht h
  refine ⟨hl.trans hC, fun j f hj => ?_⟩
  have hjl : j < fs.size := (Array.getElem?_eq_some_iff.1 hj).1
  obtain ⟨ho, hk⟩ := hone_of hone j f hj
  have h1 := hf j f hj
  rw [ho, hk] at h1
  have hcl : j < cs.length := by rw [hl, hC]; exact hjl
  have e1 : (cs.drop j).take 1 = [cs[j]] := by
    rw [List.drop_eq_getElem_cons hcl]; rfl
  rw [e1, List.getElem?_eq_getElem (by omega)] at h1
  refine ⟨cs[j], n', xs[j], List.getElem?_eq_getElem hcl, h1, fun b off hm => hfz b off ?_⟩
  rw [hx]
  exact List.mem_flatMap.2 ⟨xs[j], List.getElem_mem _, hm⟩

/-- An argument that came in: its value reads. -/
theorem Opens.arg {α : Type} {t : TypeId} {E : Cod α} (ho : Opens t E) {H : Type} {enc : TypeId × Value → H} {w : World} {v : Value} {d : DataW H} {ps : List MemPlace}
    (h : DataW.Trod enc Tryz.prog w 0 (fun _ => true) true t v d ps) (hfz : w.noneFrozen ps) : ∃ y fp, E.rd w v.cells.toList y fp := by
  obtain ⟨n, hn⟩ := h
  exact ho hn hfz
theorem Opens.sl {α : Type} {t : TypeId} {E : Cod α} (ho : Opens t E.slice) {H : Type} {enc : TypeId × Value → H} {w : World} {v : Value} {d : DataW H} {ps : List MemPlace}
    (h : DataW.Trod enc Tryz.prog w 0 (fun _ => true) true t v d ps) (hfz : w.noneFrozen ps) {A : Option Addr} {len cap : Nat} (hv : v = .slice A len cap) : ∃ y fp, Sl E w v y fp := by
  obtain ⟨y, fp, u, hu, hs⟩ := ho.arg h hfz
  subst hv
  simp [Value.cells] at hu
  subst hu
  exact ⟨y, fp, hs⟩

end Go.Proofs.YtmlconbekkdahaaGreatDoor

namespace Go.Proofs.YtmlconbekkdahaaGreatDoor
open Go.RowKit Go.WideShapes Go.ChangeShapes Go.ChangeAt Go.Deep

set_option maxRecDepth 100000 in
set_option maxHeartbeats 400000 in
theorem opens_byte {t : TypeId} (ht : Tryz.prog.underlying t = some (.int .u8)) : Opens t fByte.cod := by
  intro H enc w n cs x h _
  obtain ⟨k, rfl, rfl, wk⟩ := DataW.trod_int ht h
  have hk : 0 ≤ k ∧ k ≤ 255 := by
    have h1 : IntKind.u8.min = 0 := by decide
    have h2 : IntKind.u8.max = 255 := by decide
    have := wk
    simp [Lit.wf, h1, h2] at this
    omega
  refine ⟨UInt8.ofNat k.toNat, [], ?_, trivial, rfl⟩
  show _ = [Value.int .u8 _]
  rw [UInt8.toNat_ofNat']
  congr 2
  omega
end Go.Proofs.YtmlconbekkdahaaGreatDoor
