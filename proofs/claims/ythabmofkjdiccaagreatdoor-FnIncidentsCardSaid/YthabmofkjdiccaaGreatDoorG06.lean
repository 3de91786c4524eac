/- Parts of the proof: Ic, Ln, Sv, Cl, Iter, Cm, Rl, Ix, Law, LawS, Rn, TVerified, PVerified, TObserved, PObserved, TTest, PTest, TStand, PStand, TShot, PShot, TWatch, PWatch, Ve. -/
import Derived.Test.YthabmofkjdiccaaGreatDoorG01
import Derived.Test.YthabmofkjdiccaaGreatDoorG05
import Derived.Test.YthabmofkjdiccaaGreatDoorG03
import Derived.RangeFuncBox
import Derived.RangeFuncLeaves
import Derived.Shelf.Abstract
import Derived.OwnWalkIn
import Derived.TacticsInMore
import Derived.LoopNIn
import Derived.LoopIn
import Derived.Maps.AppendAt
import Derived.Sort.OwnSorted
import Derived.Test.YthabmofkjdiccaaGreatDoorG04
import Derived.Deep.AppendLies
import Derived.Shelf.SlGeneric
import Derived.Shelf.SlIter.Nil
import Derived.Shelf.SlIter.Sorted
import Derived.Ground.GgzProg
import Derived.Test.YthabmofkjdiccaaGreatDoorProg
import Derived.Maps.OwnOps
import Derived.Maps.OwnSet
import Derived.StringKeys
import Derived.Lib.CutLaws
import Derived.ProofKit
import Derived.ChangeSame
import Derived.HandedShaped
import Derived.Shelf.Vars
import Derived.Test.YthabmofkjdiccaaGreatDoorG02
namespace Go.Proofs.YthabmofkjdiccaaGreatDoor
open Go.RowKit
set_option linter.unusedVariables false

theorem manyIncident (k : Nat) (bt : ByteArray) (h : k ≤ 100) (hb : bt.size = 1) : SmIncident ⟨9000 + (k : Int) / 2, (⟨#[98, 111, 119, 108]⟩ ++ bt), ⟨#[114, 97, 105, 110]⟩, 1 + (k : Int) % 5, ((k : Int) % 4), 0⟩ := by
  have hz : ((⟨#[98, 111, 119, 108]⟩ ++ bt) : ByteArray).size = 5 := by rw [ByteArray.size_append, hb]; rfl
  unfold SmIncident; simp only
  rw [hz]
  refine ⟨by omega, by omega, by decide, by omega, by omega, by omega⟩
theorem oneByte (n : Int) (W : World) : (convert 22 9 (.slice (some ⟨W.heap.size, 0, none⟩) 1 1)).run Tryz.prog (W.alloc (.cells #[.int .u8 n] 5)) = .ok (.string ⟨#[UInt8.ofNat n.toNat]⟩) (W.alloc (.cells #[.int .u8 n] 5)) :=
  run_convert_bytes_arg _ _ _ Tryz.underlying22 Tryz.underlying5 W.heap.size 0 1 1 [n] rfl (fun i hi => by (obtain rfl : i = 0 := by omega); simp) _ Tryz.underlying9
set_option maxRecDepth 100000 in
set_option maxHeartbeats 8000000 in
theorem l28DrawO_any (n g : Nat) (w : World) (hs : SrcD n g w) (hn : n ≤ 999999970000) :
    Calls Tryz.prog 60 #[.pointer (some ⟨g, 0, none⟩)] w fun e w' => ∃ (v : Value) (xs : List DIncident), e = .returned v ∧ Own fIncident w' w.heap.size 48 v xs ∧ (∀ x ∈ xs, SmIncident x) ∧ xs.length ≤ 70 ∧ SrcD (n + 2000) g w' ∧ Only [g] w w' := by
  have hg := hs.lt
  obtain ⟨i0, hi, hz0, hz1, hz2⟩ := info_parts infoIncidentK
  have hB0 : Below w.heap.size w (w.alloc (.cells #[] 48)) := (Below.refl _ _).alloc (Nat.le_refl _) _
  go_enter Tryz.func60, Tryz.ntmps60
  go_wp2_with fail
  refine (pick_any _ g 12 _ (hs.below hB0) (by omega) (by omega)).mono ?_
  rintro e w2 ⟨q, rfl, ⟨q0, q1, _⟩, hs2, ho2⟩
  replace q1 := q1 (by omega)
  obtain ⟨j0, rfl⟩ : ∃ j : Nat, q = j := ⟨q.toNat, by omega⟩
  have hown : Own fIncident w2 w.heap.size 48 (.slice (some ⟨w.heap.size, 0, none⟩) 0 0) [] := (Own.lit0 fIncident w _).only ho2 (fun b hb => by simp at hb; subst hb; exact hg)
  have hO1 : Only [g] w w2 := Only.later hB0 ho2
  clear hB0 ho2 hs
  go_wp2
  go_loopw [3, 4] (fun v kv wr => ∃ (j : Nat) (L : List DIncident), kv = .int .i64 j ∧ j + L.length ≤ 11 ∧ j ≤ 11 ∧ Own fIncident wr w.heap.size 48 v L ∧ (∀ x ∈ L, SmIncident x) ∧ SrcD (n + 4 + 30 * (11 - j)) g wr ∧ Only [g] w wr) (fun _ kv _ => (intOf kv).toNat)
  case atStart => exact ⟨j0, [], rfl, by rw [List.length_nil]; omega, by omega, hown, by simp, hs2.mono (by omega), hO1⟩
  case round =>
    clear hown hs2 hO1 q0 q1
    obtain ⟨j, L, rfl, hj, hj2, ho, hsm, hsr, hor⟩ := hrel
    cases j with
    | zero =>
      go_wp2_with fail
      refine (pick_any _ g 20 _ hsr (by omega) (by omega)).mono ?_
      rintro e w3 ⟨q, rfl, ⟨q0, q1, _⟩, hs3, ho3⟩
      replace q1 := q1 (by omega)
      replace hor := hor.trans ho3
      replace ho := ho.only ho3 (fun b hb => by simp at hb; subst hb; exact hg)
      clear ho3 hsr
      by_cases hq0 : q = 0
      · subst hq0
        go_wp2_with fail
        refine (l28DrawOne_any _ g _ hs3 (by omega)).mono ?_
        rintro e w4 ⟨x0, rfl, ⟨hx0, hx1⟩, hs4, ho4⟩
        go_wp2_with fail
        refine (l28Bend_any _ g x0 _ hs4 (by omega) ⟨hx0, by omega⟩).mono ?_
        rintro e w5 ⟨x, rfl, hx, hs5, ho5⟩
        have hor2 := hor.trans (ho4.trans ho5)
        have hsz2 := hor2.size
        have hoW : w5.ownsRow w.heap.size 48 6 u3 L.length (L.flatMap fIncident.enc) := (ho.only ho4 (fun b hb => by simp at hb; subst hb; exact hg)).only ho5 (fun b hb => by simp at hb; subst hb; exact hg)
        clear ho hor ho4 ho5 hs4
        unfold agIncident
        go_wp2_with (at_builtin; refine wpList_append_one rfl _ _ 46 rfl w.heap.size 48 i0 (.agg #[.int .i64 0, .string ⟨#[]⟩, .string ⟨#[]⟩, .int .i64 0, .int .i64 0, .int .i64 0]) 6 64 Tryz.underlying46 hi hz0 hz1 hz2 rfl (by decide) u3 L.length _ rfl hoW [.int .i64 x.day, .string x.place, .string x.cause, .int .i64 x.level, .int .i64 x.caught, .int .i64 x.buried] rfl (by intro u hu; simp only [List.mem_cons, List.not_mem_nil, or_false] at hu; rcases hu with rfl | rfl | rfl | rfl | rfl | rfl <;> rfl) rfl (by omega) (by decide) hsz2 ?_)
        intro v' u hown hbu _ _
        have hoD : Own fIncident u w.heap.size 48 v' (L ++ [x]) := Own.push _ (by omega) hown
        clear hown
        go_wp2
        go_ret
        exact ⟨_, _, rfl, hoD, fun y hy => by
          rcases List.mem_append.1 hy with hy | hy
          · exact hsm y hy
          · rw [List.mem_singleton] at hy; subst hy; exact hx, by rw [List.length_append, List.length_singleton]; omega, (hs5.belowB hbu hg).mono (by omega), hor2.then hbu⟩
      · have e0 : (q == 0) = false := by rw [beq_eq_false_iff_ne]; exact hq0
        by_cases hq1 : q = 1
        · subst hq1
          have hBL : Below w3.heap.size w3 (w3.alloc (.cells #[.int .i64 48, .int .i64 49] 2)) := (Below.refl _ _).alloc (Nat.le_refl _) _
          have hgl := hs3.lt
          go_wp2_with fail
          refine (among_any _ g _ [48, 49] [w3.heap.size] _ (hs3.below hBL) (by omega) (slLitI w3 2 [48, 49] _ rfl (by decide) (by decide) (by decide) _ _ rfl rfl) (by simp; omega) (by decide) (by decide)).mono ?_
          rintro e w4 ⟨t, ht, rfl, hs4, ho4⟩
          have hor2 := hor.trans (Only.later hBL ho4)
          have hsz2 := hor2.size
          clear hBL hgl hor ho hs3 ho4
          obtain ⟨M, rfl⟩ : ∃ M : Nat, t = M := ⟨t.toNat, by simp at ht; omega⟩
          have hM : M ≤ 49 := by simp at ht; omega
          have hown : Own fIncident (w4.alloc (.cells #[] 48)) w.heap.size 48 (.slice (some ⟨w4.heap.size, 0, none⟩) 0 0) [] := Own.lit0m fIncident hsz2
          have hB4 : Below w4.heap.size w4 (w4.alloc (.cells #[] 48)) := (Below.refl _ _).alloc (Nat.le_refl _) _
          replace hor2 := hor2.then (hB4.mono hsz2)
          replace hs4 := hs4.below hB4
          clear hB4 ht hsm hsz2
          go_wp2
          rename World => wo
          go_loopw [3, 8] (fun v kv wr => ∃ (k : Nat) (X : List DIncident), kv = .int .i64 k ∧ k ≤ M ∧ X.length = k ∧ Own fIncident wr w.heap.size 48 v X ∧ (∀ x ∈ X, SmIncident x) ∧ SrcD (n + 600) g wr ∧ Only [g] w wr) (fun _ kv _ => M - (intOf kv).toNat)
          case atStart => exact ⟨0, [], rfl, Nat.zero_le _, rfl, hown, by simp, hs4.mono (by omega), hor2⟩
          case round =>
            clear hown hs4 hor2
            obtain ⟨k, X, rfl, hk, hX, ho, hsm, hsr, hor⟩ := hrel
            by_cases hlt : k < M
            · have hcv0 := oneByte (97 + (k : Int) % 2) wr
              obtain ⟨bt, hbt, hbz⟩ : ∃ bt : ByteArray, bt = ⟨#[UInt8.ofNat (97 + (k : Int) % 2).toNat]⟩ ∧ bt.size = 1 := ⟨_, rfl, rfl⟩
              have hsmk := Lib.hid (manyIncident k bt (by omega) hbz)
              have hk100 : k ≤ 100 := by omega
              have hBb : Below wr.heap.size wr (wr.alloc (.cells #[.int .u8 (97 + (k : Int) % 2)] 5)) := (Below.refl _ _).alloc (Nat.le_refl _) _
              have hcv := hcv0
              rw [← hbt] at hcv
              clear hcv0 hbt
              have hszr := hor.size
              have hsz2 : w.heap.size ≤ (wr.alloc (.cells #[.int .u8 (97 + (k : Int) % 2)] 5)).heap.size := by simp; omega
              have hoW : (wr.alloc (.cells #[.int .u8 (97 + (k : Int) % 2)] 5)).ownsRow w.heap.size 48 6 u3 X.length (X.flatMap fIncident.enc) := ho.below hBb
              replace hsr := hsr.below hBb
              replace hor := hor.then (hBb.mono hszr)
              clear ho hBb
              go_wp2_with (at_builtin; refine wpList_append_oneA (wr.heap.size + 1) (by simp) rfl _ _ 46 rfl w.heap.size 48 i0 (.agg #[.int .i64 0, .string ⟨#[]⟩, .string ⟨#[]⟩, .int .i64 0, .int .i64 0, .int .i64 0]) 6 64 Tryz.underlying46 hi hz0 hz1 hz2 rfl (by decide) u3 X.length _ rfl hoW [.int .i64 (9000 + (k : Int) / 2), .string (⟨#[98, 111, 119, 108]⟩ ++ bt), .string ⟨#[114, 97, 105, 110]⟩, .int .i64 (1 + (k : Int) % 5), .int .i64 ((k : Int) % 4), .int .i64 0] rfl (by intro u hu; simp only [List.mem_cons, List.not_mem_nil, or_false] at hu; rcases hu with rfl | rfl | rfl | rfl | rfl | rfl <;> rfl) rfl (by omega) (by decide) hsz2 ?_)
              intro v' u hown hbu _ _
              have hoD : Own fIncident u w.heap.size 48 v' (X ++ [⟨9000 + (k : Int) / 2, (⟨#[98, 111, 119, 108]⟩ ++ bt), ⟨#[114, 97, 105, 110]⟩, 1 + (k : Int) % 5, ((k : Int) % 4), 0⟩]) := Own.push _ (by omega) hown
              clear hown
              have hs5 := hsr.belowB hbu hg
              have hor5 := hor.then hbu
              go_wp2
              go_roundw
              case rel => exact ⟨k + 1, _, by go_num, by omega, by rw [List.length_append, hX, List.length_singleton], hoD, fun y hy => by
                rcases List.mem_append.1 hy with hy | hy
                · exact hsm y hy
                · rw [List.mem_singleton] at hy; subst hy; exact hsmk.out, hs5, hor5⟩
              case measure => simp [intOf]; omega
            · obtain ⟨A9, c9, rfl⟩ := ho.form
              go_wp2
              go_ret
              exact ⟨_, _, rfl, ho, hsm, by omega, hsr.mono (by omega), hor⟩
        · have e1 : (q == 1) = false := by rw [beq_eq_false_iff_ne]; exact hq1
          obtain ⟨A9, c9, rfl⟩ := ho.form
          go_wp2
          go_ret
          exact ⟨_, _, rfl, ho, hsm, by omega, hs3.mono (by omega), hor⟩
    | succ j =>
      go_wp2_with fail
      refine (l28DrawOne_any _ g _ hsr (by omega)).mono ?_
      rintro e w3 ⟨x, rfl, ⟨hx, hx9⟩, hs3, ho3⟩
      clear hx9
      have hor3 := hor.trans ho3
      have ho3' := ho.only ho3 (fun b hb => by simp at hb; subst hb; exact hg)
      have hoks : ∀ y ∈ L, fIncident.ok y := fun y hy => (hsm y hy).ok
      obtain ⟨fp, hsl, hlo, hnd⟩ := Sl.of_own (n := L.length) rfl ho3' hoks
      clear ho hor ho3 hsr hoks
      unfold agIncident
      go_wp2_with fail
      refine (specAddIncident_any _ L fp x _ hsl hx.ok).mono ?_
      rintro e w4 ⟨v4, rfl, hown4, hb4⟩
      have hsz3 := hor3.size
      have hor4 := hor3.then (hb4.mono hsz3)
      have hs4 := hs3.below hb4
      have ho4 := ho3'.below hb4
      replace hown4 : Own fIncident w4 w.heap.size 48 v4 (addIncidentF L x) := ownM_ hown4 hsz3
      clear hsl hlo hnd ho3' hs3 hor3 hb4
      by_cases hc : addIncidentC L x = 0
      · have hlen := addIncident_length (xs := L) (x := x)
        have hsm4 : ∀ y ∈ addIncidentF L x, SmIncident y := fun y hy => by
          rcases addIncident_mem hy with hy | rfl
          · exact hsm y hy
          · exact hx
        rw [hc]
        generalize addIncidentF L x = L4 at *
        clear hc ho4 hsm
        go_wp2
        go_roundw
        case rel => exact ⟨j, L4, by go_num, by omega, by omega, hown4, hsm4, hs4.mono (by omega), hor4⟩
        case measure => simp [intOf]
      · have e1 : (addIncidentC L x == 0) = false := by rw [beq_eq_false_iff_ne]; exact hc
        generalize addIncidentC L x = cc at *
        clear hc hown4
        go_wp2
        go_roundw
        case rel => exact ⟨j, L, by go_num, by omega, by omega, ho4, hsm, hs4.mono (by omega), hor4⟩
        case measure => simp [intOf]
theorem Sl.far_cell {α : Type} {E : Cod α} {w : World} {v : Value} {xs : List α} {fp : List Nat} {g j : Nat} {u : Value} (h : Sl E w v xs fp) (hp : ∀ b ∈ fp, b ≠ g) : Sl E (w.setCell ⟨g, j, none⟩ u) v xs fp :=
  h.only ((Only.refl [g] w).set j u) (fun b hb => by simpa using hp b hb)
set_option maxRecDepth 100000 in
set_option maxHeartbeats 4000000 in
theorem DrawAddIncident_any (v : Value) (xs : List UInt8) (fp : List Nat) (w : World) (hx : Sl fByte.cod w v xs fp) :
    Calls Tryz.prog 18 #[v] w fun e w' => ∃ (y : Value) (ys : List DIncident) (x : DIncident) (fq : List Nat), e = .returned (.tuple #[y, agIncident x]) ∧ Sl fIncident.cod w' y ys fq ∧ (∀ z ∈ ys, SmIncident z) ∧ ys.length ≤ 70 ∧ SmIncident x ∧ Below w.heap.size w w' := by
  have hB0 : Below w.heap.size w (w.alloc (.cells #[.int .i64 0, .string ⟨#[]⟩, .string ⟨#[]⟩, .int .i64 0, .int .i64 0, .int .i64 0] 48)) := (Below.refl _ _).alloc (Nat.le_refl _) _
  go_enter Tryz.func18, Tryz.ntmps18
  go_wp2_with fail
  refine (l00From_any v xs fp _ (hx.below' hB0)).mono ?_
  rintro e w1 ⟨rfl, hs, hb1⟩
  have hbx := (BxIncident.new w 48).belowB hb1 (by simp)
  have hB1 := hB0.trans (hb1.mono (by simp))
  have hgw : w.heap.size < (w.alloc (.cells #[.int .i64 0, .string ⟨#[]⟩, .string ⟨#[]⟩, .int .i64 0, .int .i64 0, .int .i64 0] 48)).heap.size := by simp
  generalize (w.alloc (.cells #[.int .i64 0, .string ⟨#[]⟩, .string ⟨#[]⟩, .int .i64 0, .int .i64 0, .int .i64 0] 48)).heap.size = g at *
  have hof : ∀ b ∈ [g], w.heap.size ≤ b := by simp; omega
  have hg1 := hs.lt
  clear hB0 hb1 hx
  go_wp2_with fail
  refine (l28DrawO_any _ g _ hs (by omega)).mono ?_
  rintro e w2 ⟨y, ys, rfl, hown, hsm, hl, hs2, ho2⟩
  obtain ⟨fq, hsl, hlo, hnd⟩ := Sl.of_own (n := ys.length) rfl hown (fun y hy => (hsm y hy).ok)
  have hgq : ∀ b ∈ fq, b ∉ [g] := fun b hb => by have := hlo b hb; simp; omega
  obtain ⟨A, cap, rfl, _, _⟩ := hsl.form
  replace hbx := hbx.keep (ho2.block w.heap.size hbx.lt (by simp; omega))
  have hne : ∀ b ∈ fq, b ≠ w.heap.size := fun b hb => by have := hlo b hb; have := hB1.size; have := hg1; omega
  have hrr := Nat.le_refl w.heap.size
  clear hown hs hlo hnd
  by_cases h0 : ys.length = 0
  · obtain rfl : ys = [] := List.eq_nil_of_length_eq_zero h0
    clear h0
    go_wp2_with fail
    refine (l28DrawOne_any _ g _ hs2 (by omega)).mono ?_
    rintro e w4 ⟨x0, rfl, ⟨hx0, hx1⟩, hs4, ho4⟩
    replace hbx := hbx.keep (ho4.block w.heap.size hbx.lt (by simp; omega))
    go_wp2_with fail
    refine (l28Bend_any _ g x0 _ hs4 (by omega) ⟨hx0, by omega⟩).mono ?_
    rintro e w5 ⟨x, rfl, hx4, hs5, ho5⟩
    replace hbx := hbx.keep (ho5.block w.heap.size hbx.lt (by simp; omega))
    have hsl4 := hsl.only (ho4.trans ho5) hgq
    have hB4 := hB1.trans ((ho2.trans (ho4.trans ho5)).below hB1.size hof)
    clear hsl ho2 ho4 ho5 hB1 hs2 hs4 hs5
    obtain ⟨d0, d1, d2, d3, d4, d5, z0, z1, z2, z3, z4, z5⟩ := hbx
    unfold agIncident
    go_wp2
    refine bodyPost_ret (v := .tuple #[.slice A 0 cap, agIncident x]) (by simp [agIncident, results, hit_cellX, d0, d1, d2, d3, d4, d5, Tryz.results18, go_sem]) rfl ⟨_, [], x, fq, rfl, ?_, hsm, hl, hx4, by (repeat (refine Below.setCell ?_ hrr _)); exact hB4⟩
    repeat (refine Sl.far_cell ?_ hne)
    exact hsl4
  · have e0 : 0 < (ys.length : Int) := by omega
    go_wp2_with fail
    refine (one_any _ g 8 _ hs2 (by omega) (by omega)).mono ?_
    rintro e w3 ⟨t, rfl, hs3, ho3⟩
    replace hbx := hbx.keep (ho3.block w.heap.size hbx.lt (by simp; omega))
    replace hsl := hsl.only ho3 hgq
    replace ho2 := ho2.trans ho3
    clear hs2 ho3
    cases t
    · skip
      go_wp2_with fail
      refine (l28DrawOne_any _ g _ hs3 (by omega)).mono ?_
      rintro e w4 ⟨x0, rfl, ⟨hx0, hx1⟩, hs4, ho4⟩
      replace hbx := hbx.keep (ho4.block w.heap.size hbx.lt (by simp; omega))
      go_wp2_with fail
      refine (l28Bend_any _ g x0 _ hs4 (by omega) ⟨hx0, by omega⟩).mono ?_
      rintro e w5 ⟨x, rfl, hx4, hs5, ho5⟩
      replace hbx := hbx.keep (ho5.block w.heap.size hbx.lt (by simp; omega))
      have hsl4 := hsl.only (ho4.trans ho5) hgq
      have hB4 := hB1.trans ((ho2.trans (ho4.trans ho5)).below hB1.size hof)
      clear hsl ho2 ho4 ho5 hB1 hs3 hs4 hs5
      obtain ⟨d0, d1, d2, d3, d4, d5, z0, z1, z2, z3, z4, z5⟩ := hbx
      unfold agIncident
      go_wp2
      refine bodyPost_ret (v := .tuple #[.slice A ys.length cap, agIncident x]) (by simp [agIncident, results, hit_cellX, d0, d1, d2, d3, d4, d5, Tryz.results18, go_sem]) rfl ⟨_, ys, x, fq, rfl, ?_, hsm, hl, hx4, by (repeat (refine Below.setCell ?_ hrr _)); exact hB4⟩
      repeat (refine Sl.far_cell ?_ hne)
      exact hsl4
    · obtain ⟨bb, off, rfl, _, _, hp⟩ := PIncident.elem hsl (show 0 < ys.length by omega)
      have hsx := hsm ys[0] (List.getElem_mem (by omega))
      obtain ⟨c0, c1, c2, c3, c4, c5⟩ := id hp
      obtain ⟨d0, d1, d2, d3, d4, d5, z0, z1, z2, z3, z4, z5⟩ := hbx
      have hB4 := hB1.trans (ho2.below hB1.size hof)
      have hsl4 := hsl
      generalize ys[0]'(by omega) = x at *
      simp only [Nat.zero_mul, Nat.add_zero] at c0 c1 c2 c3 c4 c5
      clear hp hsl ho2 hs3 hB1
      go_wp2
      have gc0 := cell_regrown c0
      have gc1 := cell_regrown c1
      have gc2 := cell_regrown c2
      have gc3 := cell_regrown c3
      have gc4 := cell_regrown c4
      have gc5 := cell_regrown c5
      refine wp_region_sink (C := fun w' => ∃ p : Regrown, w' = Go.Sort.grow (redrawn w3 p.d) p.os) [0, 1, 2, 3, 4, 5] [true, true, true, true, true, false] 5 (by kernel_rfl) (by kernel_rfl) (by kernel_rfl) (fun _ _ d _ _ h => by cases d <;> exact h) (regrown_of_below (Below.drew (Below.refl _ _))) ?_
      simp only [List.map_cons, List.map_nil, List.getD_cons_zero, List.getD_cons_succ]
      have hS0 : Below (w3.heap.size) w3 w3.drew := Below.drew (Below.refl _ _)
      refine wpMixS_pure (by kernel_rfl) (fun K hK => ?_)
      go_big_quiet_op
      refine hK _ ?_; clear hK K
      refine wpMixS_pure (by kernel_rfl) (fun K hK => ?_)
      go_big_quiet_op
      refine hK _ ?_; clear hK K
      refine wpMixS_pure (by kernel_rfl) (fun K hK => ?_)
      go_big_quiet_op
      refine hK _ ?_; clear hK K
      refine wpMixS_pure (by kernel_rfl) (fun K hK => ?_)
      go_big_quiet_op
      refine hK _ ?_; clear hK K
      refine wpMixS_pure (by kernel_rfl) (fun K hK => ?_)
      go_big_quiet_op
      refine hK _ ?_; clear hK K
      refine wpMixS_last (by kernel_rfl) (fun K hK => ?_)
      go_big_op
      try simp only [Act.put, List.setIfInBounds_toArray, List.set_cons_zero, List.set_cons_succ]
      refine hK _ _ ?_
      clear hK K
      clear gc0 gc1 gc2 gc3 gc4 gc5 c0 c1 c2 c3 c4 c5 z0 z1 z2 z3 z4 z5 hS0
      have hdr : ∀ (W : World) (p : Addr), W.drew.cell? p = W.cell? p := fun _ _ => rfl
      go_wp2
      refine bodyPost_ret (v := .tuple #[.slice (some ⟨bb, off, none⟩) ys.length cap, agIncident x]) (by simp [agIncident, results, hit_cellX, hdr, d0, d1, d2, d3, d4, d5, Tryz.results18, go_sem]) rfl ⟨_, ys, x, fq, rfl, ?_, hsm, hl, hsx, Below.drew (by (repeat (refine Below.setCell ?_ hrr _)); exact hB4)⟩
      refine Sl.below' ?_ (Below.drew (Below.refl _ _))
      repeat (refine Sl.far_cell ?_ hne)
      exact hsl4
theorem infoInt64M : (Tryz.prog.info? 2).map (fun i => (i.zero, i.size, i.bytes)) = some (some (.int .i64 0), 1, 8) := by kernel_rfl
set_option maxRecDepth 100000 in
set_option maxHeartbeats 8000000 in
theorem DrawMostDangerous_any (v : Value) (xs : List UInt8) (fp : List Nat) (w : World) (hx : Sl fByte.cod w v xs fp) :
    Calls Tryz.prog 28 #[v] w fun e w' => ∃ (y v2 : Value) (ys : List DIncident) (ds : List Int) (fq fd : List Nat), e = .returned (.tuple #[y, v2]) ∧ Sl fIncident.cod w' y ys fq ∧ Sl fInt.cod w' v2 ds fd ∧ (∀ z ∈ ys, SmIncident z) ∧ ys.length ≤ 70 ∧ ds.length ≤ 10 ∧ (∀ d ∈ ds, 0 ≤ d ∧ d ≤ 1001) ∧ Below w.heap.size w w' := by
  obtain ⟨j0, hj, hy0, hy1, hy2⟩ := info_parts infoInt64M
  go_enter Tryz.func28, Tryz.ntmps28
  go_wp2_with fail
  refine (l00From_any v xs fp _ hx).mono ?_
  rintro e w1 ⟨rfl, hs, hb1⟩
  have hgw := Nat.le_refl w.heap.size
  generalize hg0 : w.heap.size = g at hs hgw ⊢
  have hge : w.heap.size ≤ g := by omega
  clear hg0 hgw
  have hg1 := hs.lt
  clear hx
  go_wp2_with fail
  refine (l28DrawO_any _ g _ hs (by omega)).mono ?_
  rintro e w2 ⟨y, ys, rfl, hown, hsm, hl, hs2, ho2⟩
  obtain ⟨fq, hsl, hlo, hnd⟩ := Sl.of_own (n := ys.length) rfl hown (fun y hy => (hsm y hy).ok)
  have hgq : ∀ b ∈ fq, b ∉ [g] := fun b hb => by have := hlo b hb; simp; omega
  obtain ⟨A, cap, rfl, _, _⟩ := hsl.form
  have hB2 : Below w.heap.size w w2 := hb1.trans (ho2.below hb1.size (by intro b hb; simp at hb; subst hb; exact hge))
  have hg2 := hs2.lt
  have hfl := hsl.lt
  clear hown hs hlo hnd hb1 ho2
  have hsz : w.heap.size ≤ w2.heap.size := hB2.size
  have hBm : Below w2.heap.size w2 (w2.alloc (.cells #[] 2)) := (Below.refl _ _).alloc (Nat.le_refl _) _
  have hom : Own fInt (w2.alloc (.cells #[] 2)) w2.heap.size 2 (.slice (some ⟨w2.heap.size, 0, none⟩) 0 0) [] := Own.lit0 fInt w2 _
  replace hs2 := hs2.below hBm
  replace hsl := hsl.below' hBm
  replace hB2 := hB2.trans (hBm.mono hsz)
  go_wp2
  go_loopw [6, 7] (fun d i wr => ∃ (k : Nat) (X : List Int), i = .int .i64 k ∧ k ≤ 5 ∧ X.length ≤ k ∧ k ≤ X.length ∧ Own fInt wr w2.heap.size 2 d X ∧ (∀ z ∈ X, 0 ≤ z ∧ z ≤ 1001) ∧ SrcD (4000 + 4 * k) g wr ∧ Sl fIncident.cod wr (.slice A ys.length cap) ys fq ∧ Below w.heap.size w wr ∧ w2.heap.size ≤ wr.heap.size) (fun _ i _ => 5 - (intOf i).toNat)
  case atStart => exact ⟨0, [], rfl, by decide, Nat.le_refl _, Nat.le_refl _, hom, by simp, hs2.mono (by omega), hsl, hB2, hBm.size⟩
  case round =>
    clear hom hs2 hsl hB2 hBm
    obtain ⟨k, X, rfl, hk, hX1, hX2, ho, hz, hsr, hsl, hB, hszr⟩ := hrel
    by_cases hlt : k < 5
    · have hk5 : (k : Int) < 5 := by omega
      go_wp2_with fail
      refine (pick_any _ g 60 _ hsr (by omega) (by omega)).mono ?_
      rintro e w3 ⟨q, rfl, ⟨q0, q1, _⟩, hs3, ho3⟩
      replace q1 := q1 (by omega)
      have hsl3 := hsl.only ho3 hgq
      have hB3 := hB.trans (ho3.below hB.size (by intro b hb; simp at hb; subst hb; exact hge))
      have hsz3 : w2.heap.size ≤ w3.heap.size := by have := ho3.size; omega
      have hoW : w3.ownsRow w2.heap.size 2 1 u6 X.length (X.flatMap fInt.enc) := ho.only ho3 (fun b hb => by simp at hb; subst hb; exact hg2)
      clear ho ho3 hsr hsl hB
      go_wp2_with (at_builtin; refine wpList_append_one rfl _ _ 30 rfl w2.heap.size 2 j0 (.int .i64 0) 1 8 Tryz.underlying30 hj hy0 hy1 hy2 rfl (by decide) u6 X.length _ rfl hoW [.int .i64 (1 + q)] rfl (by intro u hu; rw [List.mem_singleton] at hu; subst hu; rfl) rfl (by omega) (by decide) hsz3 ?_)
      intro v' u hown hbu _ _
      have hoD : Own fInt u w2.heap.size 2 v' (X ++ [1 + q]) := Own.push _ (by omega) hown
      clear hown
      have hs5 := hs3.belowB hbu hg2
      have hsl5 := hsl3.below hbu hfl
      have hB5 := hB3.trans (hbu.mono hsz)
      have hsz5 := Nat.le_trans hsz3 hbu.size
      go_wp2
      go_roundw
      case rel => exact ⟨k + 1, _, by go_num, by omega, by rw [List.length_append, List.length_singleton]; omega, by rw [List.length_append, List.length_singleton]; omega, hoD, fun z hz' => by
        rcases List.mem_append.1 hz' with h | h
        · exact hz z h
        · rw [List.mem_singleton] at h; subst h; omega, hs5.mono (by omega), hsl5, hB5, hsz5⟩
      case measure => simp [intOf]; omega
    · obtain rfl : k = 5 := by omega
      go_wp2_with fail
      refine (pick_any _ g 14 _ hsr (by omega) (by omega)).mono ?_
      rintro e w3 ⟨q, rfl, ⟨q0, q1, _⟩, hs3, ho3⟩
      replace q1 := q1 (by omega)
      have hsl3 := hsl.only ho3 hgq
      have hB3 := hB.trans (ho3.below hB.size (by intro b hb; simp at hb; subst hb; exact hge))
      have hsz3 : w2.heap.size ≤ w3.heap.size := by have := ho3.size; omega
      have ho4 := ho.only ho3 (fun b hb => by simp at hb; subst hb; exact hg2)
      clear ho ho3 hsr hsl hB
      by_cases hq0 : q = 0
      · subst hq0
        have hoW : w3.ownsRow w2.heap.size 2 1 u6 X.length (X.flatMap fInt.enc) := ho4
        go_wp2_with (at_builtin; refine wpList_append_one rfl _ _ 30 rfl w2.heap.size 2 j0 (.int .i64 0) 1 8 Tryz.underlying30 hj hy0 hy1 hy2 rfl (by decide) u6 X.length _ rfl hoW [.int .i64 5] rfl (by intro u hu; rw [List.mem_singleton] at hu; subst hu; rfl) rfl (by omega) (by decide) hsz3 ?_)
        intro v' u hown hbu _ _
        have hoD : Own fInt u w2.heap.size 2 v' (X ++ [5]) := Own.push _ (by omega) hown
        have hz5 : ∀ z ∈ X ++ [5], 0 ≤ z ∧ z ≤ 1001 := fun z hz' => by
          rcases List.mem_append.1 hz' with h | h
          · exact hz z h
          · rw [List.mem_singleton] at h; subst h; omega
        obtain ⟨fd, hsd, _, _⟩ := Sl.of_own (E := fInt) (xs := X ++ ([5] : List Int)) (n := (X ++ ([5] : List Int)).length) rfl hoD (fun z hz' => by have := hz5 z hz'; show _ ∧ _; omega)
        obtain ⟨A5, c5, rfl⟩ := hoD.form
        have hsl5 := hsl3.below hbu hfl
        have hB5 := hB3.trans (hbu.mono hsz)
        go_wp2
        go_ret2
        exact ⟨_, _, _, _, fq, fd, rfl, hsl5, hsd, hsm, hl, by rw [List.length_append, List.length_singleton]; omega, hz5, hB5⟩
      · have e0 : (q == 0) = false := by rw [beq_eq_false_iff_ne]; exact hq0
        by_cases hq1 : q = 1
        · subst hq1
          clear e0 hq0
          have hBL : Below w3.heap.size w3 (w3.alloc (.cells #[.int .i64 0, .int .i64 1000, .int .i64 1001] 2)) := (Below.refl _ _).alloc (Nat.le_refl _) _
          have hgl := hs3.lt
          go_wp2_with fail
          refine (among_any _ g _ [0, 1000, 1001] [w3.heap.size] _ (hs3.below hBL) (by omega) (slLitI w3 2 [0, 1000, 1001] _ rfl (by decide) (by decide) (by decide) _ _ rfl rfl) (by simp; omega) (by decide) (by decide)).mono ?_
          rintro e w4 ⟨t, ht, rfl, hs4, ho5⟩
          have hoA := Only.later hBL ho5
          have hsl4 := hsl3.only hoA hgq
          have hB4 := hB3.trans (hoA.below hB3.size (by intro b hb; simp at hb; subst hb; exact hge))
          have ho6 := ho4.only hoA (fun b hb => by simp at hb; subst hb; exact hg2)
          have htb : 0 ≤ t ∧ t ≤ 1001 := by simp at ht; omega
          clear hBL hgl ht hs4 ho5 hoA ho4
          obtain ⟨A5, c5, rfl⟩ := ho6.form
          obtain ⟨g', rfl, hg'⟩ : ∃ g', A5 = some ⟨g', 0, none⟩ ∧ w2.heap.size ≤ g' := by
            have ho2 := ho6.2
            rcases ho2 with ⟨hv, h0⟩ | ⟨g1, cap1, cur, hv, hg1, _⟩
            · injection hv with _ h1 _
              omega
            · injection hv with h1 _ _
              exact ⟨g1, h1, by first | exact hg1 | exact hg1.1 | omega⟩
          have hX0 : 0 < X.length := by omega
          have c1 : w4.cell? ⟨g', 0, none⟩ = some (.int .i64 X[0]) := ho6.cellF (k := 0) (j := 0) hX0 (by decide) rfl
          have f1 : w4.frozen? ⟨g', 0, none⟩ = false := ho6.frozenF _
          have HO1 : Own fInt (w4.setCell ⟨g', 0, none⟩ (.int .i64 t)) w2.heap.size 2 (.slice (some ⟨g', 0, none⟩) X.length c5) (X.set 0 t) := ho6.setF (k := 0) hX0 0 (by decide) _ _ rfl
          have hbb : Below w2.heap.size w4 (w4.setCell ⟨g', 0, none⟩ (.int .i64 t)) := (Below.refl _ _).setCell (p := ⟨g', 0, none⟩) hg' _
          have hsl5 := hsl4.below hbb hfl
          have hB5 := hB4.trans (hbb.mono hsz)
          have hz5 : ∀ z ∈ X.set 0 t, 0 ≤ z ∧ z ≤ 1001 := fun z hz' => by
            rcases List.mem_or_eq_of_mem_set hz' with h | rfl
            · exact hz z h
            · exact htb
          obtain ⟨fd, hsd, _, _⟩ := Sl.of_own (E := fInt) (xs := X.set 0 t) (n := X.length) (by rw [List.length_set]) (by have h := HO1; unfold Own at h; rw [List.length_set] at h; exact h) (fun z hz' => by have := hz5 z hz'; show _ ∧ _; omega)
          clear ho6 hsl4 hsl3
          go_wp2
          go_ret2
          exact ⟨_, _, _, _, fq, fd, rfl, hsl5, hsd, hsm, hl, by rw [List.length_set]; omega, hz5, hB5⟩
        · have e1 : (q == 1) = false := by rw [beq_eq_false_iff_ne]; exact hq1
          obtain ⟨fd, hsd, _, _⟩ := Sl.of_own (E := fInt) (n := X.length) rfl ho4 (fun z hz' => by have := hz z hz'; show _ ∧ _; omega)
          obtain ⟨A5, c5, rfl⟩ := ho4.form
          go_wp2
          go_ret2
          exact ⟨_, _, _, _, fq, fd, rfl, hsl3, hsd, hsm, hl, by omega, hz, hB3⟩

end Go.Proofs.YthabmofkjdiccaaGreatDoor

namespace Go.Proofs.YthabmofkjdiccaaGreatDoor
open Go.RowKit


def okByte (lo hi : Int) (c : UInt8) : Bool := decide (lo ≤ (c.toNat : Int)) && decide ((c.toNat : Int) ≤ hi)
def bwAll (l : List UInt8) (lo hi : Int) : Bool := l.all (okByte lo hi)
theorem take_snoc (s : ByteArray) (k : Nat) (h : k < s.size) : s.data.toList.take (k + 1) = s.data.toList.take k ++ [s[k]] := by
  rw [List.take_succ_eq_append_getElem (by simpa using h)]; rfl
theorem bwAll_step {s : ByteArray} {k : Nat} {lo hi : Int} (h : k < s.size) (h0 : bwAll (s.data.toList.take k) lo hi = true) (h1 : lo ≤ (s[k].toNat : Int)) (h2 : (s[k].toNat : Int) ≤ hi) : bwAll (s.data.toList.take (k + 1)) lo hi = true := by
  rw [take_snoc s k h]; unfold bwAll at *; rw [List.all_append, h0]; simp [okByte, h1, h2]
theorem bwAll_bad {s : ByteArray} {k : Nat} {lo hi : Int} (h : k < s.size) (h1 : (s[k].toNat : Int) < lo ∨ hi < (s[k].toNat : Int)) : bwAll s.data.toList lo hi = false := by
  unfold bwAll
  rw [List.all_eq_false]
  refine ⟨s[k], ?_, ?_⟩
  · exact Array.mem_toList_iff.2 (Array.getElem_mem _)
  · simp [okByte]; omega
theorem bwAll_full {s : ByteArray} {k : Nat} {lo hi : Int} (h : s.size ≤ k) (h0 : bwAll (s.data.toList.take k) lo hi = true) : bwAll s.data.toList lo hi = true := by
  rwa [List.take_of_length_le (by simpa using h)] at h0

def lineB (s : ByteArray) : Bool := bwAll s.data.toList 32 126 && decide (s.size ≤ 100)

def linesB (l : List ByteArray) : Bool := l.all lineB && decide (l.length ≤ 200)
theorem linesAll_step {l : List ByteArray} {k : Nat} (h : k < l.length) (h0 : (l.take k).all lineB = true) (h1 : lineB l[k] = true) : (l.take (k + 1)).all lineB = true := by
  rw [List.take_succ_eq_append_getElem h, List.all_append, h0]; simp [h1]
theorem linesAll_bad {l : List ByteArray} {k : Nat} (h : k < l.length) (h1 : lineB l[k] = false) : l.all lineB = false := by
  rw [List.all_eq_false]; exact ⟨l[k], List.getElem_mem h, by simp [h1]⟩
theorem linesAll_full {l : List ByteArray} {k : Nat} (h : l.length ≤ k) (h0 : (l.take k).all lineB = true) : l.all lineB = true := by
  rwa [List.take_of_length_le h] at h0

end Go.Proofs.YthabmofkjdiccaaGreatDoor

namespace Go.Proofs.YthabmofkjdiccaaGreatDoor
open Go.RowKit Go.Shelf Go.Sort
set_option linter.unusedVariables false
attribute [local go_sem] Oper.semAt_some

/-! ### slices.Sort -/
theorem encStr_map (L : List ByteArray) : L.flatMap fStr.enc = (L.map (fun x : ByteArray => x.data.toList)).map encStr := by
  induction L with
  | nil => rfl
  | cons x L ih => rw [List.flatMap_cons, ih]; rfl
theorem srtF_map (L : List ByteArray) : (srtF L).map (fun x : ByteArray => x.data.toList) = (L.map (fun x : ByteArray => x.data.toList)).mergeSort (fun x y => decide (x ≤ y)) := by
  unfold srtF
  refine List.map_mergeSort (fun a _ b _ => ?_)
  rw [ltS_eq, Bool.eq_iff_iff]
  simp only [Bool.not_eq_true', decide_eq_false_iff_not, decide_eq_true_eq]
  exact Iff.rfl
theorem sortS_any (g cap base : Nat) (L : List ByteArray) (w : World) (h : Own fStr w base 9 (.slice (some ⟨g, 0, none⟩) L.length cap) L) (hl : L.length ≤ 1000000) :
    Calls Tryz.prog 123 #[.slice (some ⟨g, 0, none⟩) L.length cap] w fun e w' => e = .returned (.tuple #[]) ∧ Own fStr w' base 9 (.slice (some ⟨g, 0, none⟩) L.length cap) (srtF L) ∧ Below base w w' := by
  rcases h.2 with ⟨hv, _⟩ | ⟨g', cap', cur, hv, hg, hh, hnc, hcm, hsz, hxs⟩
  · cases hv
  · injection hv with hv1 _ hv2
    injection hv1 with hv1
    injection hv1 with hv1 _ _
    subst hv1 hv2
    have hgl : g < w.heap.size := (Array.getElem?_eq_some_iff.1 hh).1
    have hll : (L.map (fun x : ByteArray => x.data.toList)).length = L.length := List.length_map _
    have hH : Holds encStr w g 0 (L.map (fun x : ByteArray => x.data.toList)).toArray := holds_of_block hh (by rw [hll, ← encStr_map]; have e1 : fStr.n = 1 := rfl; rw [e1, Nat.mul_one] at hxs; exact hxs)
    have c := Tryz.slices_Sort_string g 0 cap (L.map (fun x : ByteArray => x.data.toList)) w hH hgl (by rw [hll]; omega)
    rw [hll, ← srtF_map] at c
    refine c.mono ?_
    rintro e w' ⟨rfl, n, os, rfl⟩
    refine ⟨rfl, ?_, (Below.refl base w).grown (grownBy_sorted _) (by omega) (fun j hj => by cases hj; exact hg)⟩
    have h2 := ownsRow_sorted (n := n) (os := os) (w := w) (base := base) (ss := L.map (fun x : ByteArray => x.data.toList)) (ts := (srtF L).map (fun x : ByteArray => x.data.toList)) (by simp [srtF_len]) hg hh (by rw [hll]; exact hnc) hcm hsz
    rw [hll, ← encStr_map] at h2
    show World.ownsRow _ base _ 1 _ (srtF L).length _
    rw [srtF_len]
    exact h2
theorem map_flat (L : List ByteArray) : L.map Value.string = L.flatMap fStr.enc := by
  induction L with
  | nil => rfl
  | cons x L ih => rw [List.map_cons, List.flatMap_cons, ih]; rfl
def slC (xs : List ByteArray) : Int := if linesB xs then 0 else 1
def slF (xs : List ByteArray) : List ByteArray := if linesB xs then srtF xs else []
theorem slF_len {xs : List ByteArray} (h : xs.length ≤ 1048576) : (slF xs).length ≤ 100000000000 := by
  unfold slF; split
  · rw [srtF_len]; omega
  · simp
theorem srtF_ok {xs : List ByteArray} (h : ∀ x ∈ xs, fStr.ok x) : ∀ x ∈ srtF xs, fStr.ok x := fun x hx => h x ((srtF_perm xs).mem_iff.1 hx)
theorem linesB_len {xs : List ByteArray} (h : linesB xs = true) : xs.length ≤ 200 := by
  unfold linesB at h
  simp only [Bool.and_eq_true, decide_eq_true_eq] at h
  exact h.2

end Go.Proofs.YthabmofkjdiccaaGreatDoor

namespace Go.Proofs.YthabmofkjdiccaaGreatDoor
open Go.RowKit
set_option linter.unusedVariables false

/-! ### different lines in order, and how many of each -/
def cntS (L : List ByteArray) (s : ByteArray) : Nat := L.countP (fun x => decide (x = s))
theorem cntS_snoc (L : List ByteArray) (x s : ByteArray) : cntS (L ++ [x]) s = cntS L s + if x = s then 1 else 0 := by
  unfold cntS; rw [List.countP_append]; simp [List.countP_cons]
theorem cntS_zero {L : List ByteArray} {s : ByteArray} (h : s ∉ L) : cntS L s = 0 := by
  unfold cntS; rw [List.countP_eq_zero]; intro x hx he; simp at he; exact h (he ▸ hx)
theorem cntS_le (L : List ByteArray) (s : ByteArray) : cntS L s ≤ L.length := List.countP_le_length
theorem cntS_perm {L M : List ByteArray} (h : L.Perm M) (s : ByteArray) : cntS L s = cntS M s := h.countP_eq _
def SSrt (L : List ByteArray) : Prop := L.Pairwise (fun a b => ltS a b = true)
theorem SSrt.nodup {L : List ByteArray} (h : SSrt L) : L.Nodup := by
  refine List.Pairwise.imp ?_ h
  intro a b h e; subst e; rw [ltS_irrefl] at h; cases h
theorem SSrt.srt {L : List ByteArray} (h : SSrt L) : Srt L := h.imp (fun h => ltS_asymm h)
theorem ssrt_of {L : List ByteArray} (h : Srt L) (hn : L.Nodup) : SSrt L := by
  unfold SSrt
  have h2 := List.Pairwise.and h hn
  refine h2.imp ?_
  rintro a b ⟨h1, h3⟩
  cases h4 : ltS a b with
  | true => rfl
  | false => exact absurd (ltS_tri h4 h1) h3
theorem ssrt_unique {a b : List ByteArray} (ha : SSrt a) (hb : SSrt b) (h : ∀ s, s ∈ a ↔ s ∈ b) : a = b :=
  srt_unique ha.srt hb.srt ((List.perm_ext_iff_of_nodup ha.nodup hb.nodup).2 h)
def insU (x : ByteArray) (L : List ByteArray) : List ByteArray := if L.any (fun y => decide (y = x)) = true then L else x :: L
theorem insU_spec (xs : List ByteArray) : (xs.foldr insU []).Nodup ∧ ∀ s, s ∈ xs.foldr insU [] ↔ s ∈ xs := by
  induction xs with
  | nil => simp
  | cons x xs ih =>
    obtain ⟨h1, h2⟩ := ih
    rw [List.foldr_cons]
    generalize xs.foldr insU [] = M at *
    unfold insU
    split
    · rename_i h
      replace h : x ∈ M := by
        rw [List.any_eq_true] at h
        obtain ⟨y, hy, e⟩ := h
        simp at e; exact e ▸ hy
      refine ⟨h1, fun s => ?_⟩
      rw [h2, List.mem_cons]
      exact ⟨.inr, fun hs => by rcases hs with rfl | hs; exact (h2 _).1 h; exact hs⟩
    · rename_i h
      replace h : x ∉ M := fun hx => h (List.any_eq_true.2 ⟨x, hx, by simp⟩)
      exact ⟨List.nodup_cons.2 ⟨h, h1⟩, fun s => by rw [List.mem_cons, List.mem_cons]; exact or_congr Iff.rfl (h2 s)⟩
/-- The different lines, in order. -/
def cdF (xs : List ByteArray) : List ByteArray := srtF (xs.foldr insU [])
theorem cdF_ssrt (xs : List ByteArray) : SSrt (cdF xs) := ssrt_of (srtF_srt _) ((srtF_perm _).nodup_iff.2 (insU_spec xs).1)
theorem cdF_mem (xs : List ByteArray) (s : ByteArray) : s ∈ cdF xs ↔ s ∈ xs := ((srtF_perm _).mem_iff).trans ((insU_spec xs).2 s)
theorem cdF_of {xs L : List ByteArray} (h : SSrt L) (hm : ∀ s, s ∈ L ↔ s ∈ xs) : L = cdF xs := ssrt_unique h (cdF_ssrt xs) (fun s => (hm s).trans (cdF_mem xs s).symm)
theorem insU_len (xs : List ByteArray) : (xs.foldr insU []).length ≤ xs.length := by
  induction xs with
  | nil => simp
  | cons x xs ih =>
    rw [List.foldr_cons]
    generalize xs.foldr insU [] = M at *
    unfold insU
    split
    · simp; omega
    · simp; omega
theorem cdF_len (xs : List ByteArray) : (cdF xs).length ≤ xs.length := by
  unfold cdF; rw [srtF_len]; exact insU_len xs
def cmF (xs : List ByteArray) : List Int := (cdF xs).map (fun s => (cntS xs s : Int))
/-- The rounds over sorted lines. -/
structure Grp (ys : List ByteArray) (k : Nat) (out : List ByteArray) : Prop where
  srt : SSrt out
  mem : ∀ s, s ∈ out ↔ s ∈ ys.take k
  last : ∀ j, k = j + 1 → out.getLast? = ys[j]?
  len : out.length ≤ k
theorem Grp.zero (ys : List ByteArray) : Grp ys 0 [] := ⟨List.Pairwise.nil, by simp, by omega, by simp⟩
theorem Grp.first {ys : List ByteArray} (h : 0 < ys.length) : Grp ys 1 [ys[0]] := by
  refine ⟨List.pairwise_singleton _ _, fun s => ?_, fun j hj => ?_, by simp⟩
  · rw [List.take_succ_eq_append_getElem h]; simp
  · obtain rfl : j = 0 := by omega
    simp [h]
theorem Grp.new_notmem {ys out : List ByteArray} {j : Nat} (hs : Srt ys) (h : Grp ys (j + 1) out) (hj : j + 1 < ys.length) (hne : ys[j + 1] ≠ ys[j]) : ∀ s ∈ out, ltS s ys[j + 1] = true := by
  intro s hm
  have hlt : ltS ys[j] ys[j + 1] = true := by
    cases h1 : ltS ys[j] ys[j + 1] with
    | true => rfl
    | false => exact absurd (ltS_tri h1 (List.pairwise_iff_getElem.1 hs j (j + 1) (by omega) hj (by omega))).symm hne
  obtain ⟨m, hm1, rfl⟩ := List.getElem_of_mem ((h.mem s).1 hm)
  simp at hm1
  rw [List.getElem_take]
  rcases Nat.lt_or_ge m j with h2 | h2
  · have h3 := List.pairwise_iff_getElem.1 hs m j (by omega) (by omega) h2
    cases h4 : ltS ys[m] ys[j + 1] with
    | true => rfl
    | false =>
      have := leS_trans h3 (ltS_asymm hlt)
      rw [ltS_tri h4 this] at h3
      rw [hlt] at h3; cases h3
  · obtain rfl : m = j := by omega
    exact hlt
theorem Grp.new {ys out : List ByteArray} {j : Nat} (hs : Srt ys) (h : Grp ys (j + 1) out) (hj : j + 1 < ys.length) (hne : ys[j + 1] ≠ ys[j]) : Grp ys (j + 2) (out ++ [ys[j + 1]]) := by
  refine ⟨?_, fun s => ?_, fun i hi => ?_, by have := h.len; simp; omega⟩
  · unfold SSrt
    rw [List.pairwise_append]
    refine ⟨h.srt, List.pairwise_singleton _ _, ?_⟩
    intro a ha b hb
    rw [List.mem_singleton] at hb
    subst hb
    exact h.new_notmem hs hj hne a ha
  · rw [List.mem_append, h.mem, List.take_succ_eq_append_getElem hj, List.mem_append]
  · obtain rfl : i = j + 1 := by omega
    simp [hj]
theorem Grp.same {ys out : List ByteArray} {j : Nat} (h : Grp ys (j + 1) out) (hj : j + 1 < ys.length) (he : ys[j + 1] = ys[j]) : Grp ys (j + 2) out := by
  refine ⟨h.srt, fun s => ?_, fun i hi => ?_, by have := h.len; omega⟩
  · rw [h.mem, List.take_succ_eq_append_getElem hj, List.mem_append]
    constructor
    · exact .inl
    · rintro (h1 | h1)
      · exact h1
      · rw [List.mem_singleton] at h1
        subst h1
        rw [he]
        exact List.mem_take_iff_getElem.2 ⟨j, by omega, rfl⟩
  · obtain rfl : i = j + 1 := by omega
    rw [h.last j rfl, List.getElem?_eq_getElem (by omega), List.getElem?_eq_getElem hj, he]
/-- The numbers. -/
def nmF (ys out : List ByteArray) (k : Nat) : List Int := out.map (fun s => (cntS (ys.take k) s : Int))
theorem nmF_len (ys out : List ByteArray) (k : Nat) : (nmF ys out k).length = out.length := List.length_map _
theorem nmF_first {ys : List ByteArray} (h : 0 < ys.length) : nmF ys [ys[0]] 1 = [(0 : Int) + 1] := by
  unfold nmF; rw [List.take_succ_eq_append_getElem h]; simp [cntS]
theorem nmF_new {ys out : List ByteArray} {j : Nat} (hs : Srt ys) (h : Grp ys (j + 1) out) (hj : j + 1 < ys.length) (hne : ys[j + 1] ≠ ys[j]) :
    (nmF ys out (j + 1) ++ [0]).set out.length (0 + 1) = nmF ys (out ++ [ys[j + 1]]) (j + 2) := by
  have hl := nmF_len ys out (j + 1)
  rw [← hl, List.set_append_right _ _ (Nat.le_refl _), Nat.sub_self, List.set_cons_zero]
  unfold nmF
  rw [List.map_append, List.take_succ_eq_append_getElem hj]
  congr 1
  · refine List.map_congr_left (fun s hm => ?_)
    rw [cntS_snoc, if_neg]
    · simp
    · intro e; have := h.new_notmem hs hj hne s hm; rw [e, ltS_irrefl] at this; cases this
  · have hz : cntS (ys.take (j + 1)) ys[j + 1] = 0 := cntS_zero (fun hm => by have := h.new_notmem hs hj hne _ ((h.mem _).2 hm); rw [ltS_irrefl] at this; cases this)
    rw [List.map_cons, List.map_nil, cntS_snoc, hz]; simp
theorem nmF_same {ys out : List ByteArray} {j m : Nat} (h : Grp ys (j + 1) out) (hj : j + 1 < ys.length) (he : ys[j + 1] = ys[j]) (hm : out.length = m + 1) :
    ∃ c : Nat, (nmF ys out (j + 1))[m]? = some (c : Int) ∧ c ≤ ys.length ∧ (nmF ys out (j + 1)).set m ((c : Int) + 1) = nmF ys out (j + 2) := by
  have hlast : out[m]? = some ys[j] := by
    have := h.last j rfl
    rw [List.getLast?_eq_getElem?, hm, Nat.add_sub_cancel] at this
    rw [this, List.getElem?_eq_getElem (by omega)]
  have hml : m < out.length := by omega
  have hx : out[m] = ys[j] := by rw [List.getElem?_eq_getElem hml] at hlast; exact Option.some.inj hlast
  refine ⟨cntS (ys.take (j + 1)) ys[j], ?_, ?_, ?_⟩
  · unfold nmF; rw [List.getElem?_map, hlast]; rfl
  · have := cntS_le (ys.take (j + 1)) ys[j]; rw [List.length_take] at this; omega
  · apply List.ext_getElem?
    intro i
    rw [List.getElem?_set]
    unfold nmF
    simp only [List.length_map, List.getElem?_map]
    rw [List.take_succ_eq_append_getElem hj]
    by_cases hi : m = i
    · subst hi
      rw [if_pos rfl, if_pos hml, hlast, Option.map_some, cntS_snoc, if_pos he]
      simp
    · rw [if_neg hi]
      rcases Nat.lt_or_ge i out.length with h2 | h2
      · rw [List.getElem?_eq_getElem h2, Option.map_some, Option.map_some, cntS_snoc, if_neg]
        · simp
        · intro e
          have h3 := List.pairwise_iff_getElem.1 h.srt.nodup
          rw [he, ← hx] at e
          rcases Nat.lt_or_ge m i with h4 | h4
          · exact h3 m i hml h2 h4 e
          · exact h3 i m h2 hml (by omega) e.symm
      · rw [List.getElem?_eq_none h2]; rfl
/-- Another block is written. -/
theorem Own.other {α : Type} {E : Flat α} {w : World} {base : Nat} {e : TypeId} {g n cap : Nat} {L : List α} (h : Own E w base e (.slice (some ⟨g, 0, none⟩) n cap) L) {g' j : Nat} (hne : g ≠ g') (u : Value) : Own E (w.setCell ⟨g', j, none⟩ u) base e (.slice (some ⟨g, 0, none⟩) n cap) L :=
  World.ownsRow.kept (w' := w.setCell ⟨g', j, none⟩ u) (row := some g') h ⟨rfl, rfl, rfl, by simp, fun k _ hk => heap_setCell_other w ⟨g', j, none⟩ k u (fun e => hk (by simp [e]))⟩ (.inr (fun e => hne (Option.some.inj e)))
theorem Own.blk {α : Type} {E : Flat α} {w : World} {base : Nat} {e : TypeId} {g n cap : Nat} {L : List α} (h : Own E w base e (.slice (some ⟨g, 0, none⟩) n cap) L) : base ≤ g ∧ g < w.heap.size ∧ n = L.length ∧ n ≤ cap ∧ cap ≤ 9223372036854775807 := by
  rcases h.2 with ⟨hv, _⟩ | ⟨g', cap', cur, hv, hg, hh, h1, h2, _⟩
  · cases hv
  · injection hv with hv1 hv2 hv3
    injection hv1 with hv1
    injection hv1 with hv1
    subst hv1 hv3
    unfold maxLen at h2
    exact ⟨hg, (Array.getElem?_eq_some_iff.1 hh).1, hv2, by omega, h2⟩
theorem Own.cellI {w : World} {base : Nat} {e : TypeId} {g n cap : Nat} {L : List Int} (h : Own fInt w base e (.slice (some ⟨g, 0, none⟩) n cap) L) {k : Nat} {x : Int} (hx : L[k]? = some x) : w.cell? ⟨g, k, none⟩ = some (.int .i64 x) := by
  obtain ⟨_, _, hn, _⟩ := h.blk
  have h' : w.ownsRow base e 1 (.slice (some ⟨g, 0, none⟩) L.length cap) L.length (L.flatMap fInt.enc) := by rw [hn] at h; exact h
  have hk : k < L.length := by
    rcases Nat.lt_or_ge k L.length with h | h
    · exact h
    · rw [List.getElem?_eq_none h] at hx; cases hx
  rw [h'.cellAt k (by omega)]
  have := flat_get fInt.enc 1 L (fun x _ => fInt.len x) k hk 0 (by omega)
  simp only [Nat.mul_one, Nat.add_zero] at this
  rw [this]
  have e1 : L[k] = x := by rw [List.getElem?_eq_getElem hk] at hx; exact Option.some.inj hx
  rw [e1]; rfl
/-- Two new slices and a code. -/
def New2R (w : World) (xs : List ByteArray) (ys : List Int) (c : Int) (e : Ending) (w' : World) : Prop :=
  ∃ v1 v2, e = .returned (.tuple #[v1, v2, .int .i64 c]) ∧ ∃ fp1 fp2, Sl fStr.cod w' v1 xs fp1 ∧ Sl fInt.cod w' v2 ys fp2 ∧ (∀ b ∈ fp1, w.heap.size ≤ b) ∧ (∀ b ∈ fp2, w.heap.size ≤ b) ∧ fp1.Nodup ∧ fp2.Nodup ∧ (∀ b ∈ fp1, b ∉ fp2) ∧ Below w.heap.size w w'
theorem New2R.nil {w w' : World} (h : Below w.heap.size w w') : New2R w [] [] 1 (.returned (.tuple #[.slice none 0 0, .slice none 0 0, .int .i64 1])) w' :=
  ⟨_, _, rfl, [], [], ⟨none, 0, rfl, by simp, by simp [maxLen], .inl ⟨rfl, rfl⟩⟩, ⟨none, 0, rfl, by simp, by simp [maxLen], .inl ⟨rfl, rfl⟩⟩, by simp, by simp, by simp, by simp, by simp, h⟩
theorem Own.fp {α : Type} {E : Flat α} {w : World} {base : Nat} {e : TypeId} {v : Value} {L : List α} (h : Own E w base e v L) (hok : ∀ x ∈ L, E.ok x) :
    ∃ fp, Sl E.cod w v L fp ∧ (∀ b ∈ fp, base ≤ b) ∧ fp.Nodup ∧ ∀ b ∈ fp, v.ownBlock = some b := by
  obtain ⟨fp, h1, h2, h3⟩ := Sl.of_own (n := L.length) rfl h hok
  rcases Nat.eq_zero_or_pos L.length with h0 | h0
  · obtain rfl := List.eq_nil_of_length_eq_zero h0
    refine ⟨[], ?_, by simp, by simp, by simp⟩
    obtain ⟨A, cap, hv, hl, hc, _⟩ := h1
    exact ⟨A, cap, hv, hl, hc, .inl ⟨rfl, rfl⟩⟩
  · refine ⟨fp, h1, h2, h3, fun b hb => ?_⟩
    obtain ⟨A, cap, rfl, _, _⟩ := h1.form
    obtain ⟨b', off, hA, hfp, _⟩ := h1.cells h0
    subst hA
    rw [hfp] at hb
    rw [List.mem_singleton] at hb
    subst hb
    rfl
theorem New2R.of {w w' : World} {v1 v2 : Value} {xs : List ByteArray} {ys : List Int} {b1 b2 : Nat} {T1 T2 : TypeId} {c : Int} (h1 : Own fStr w' b1 T1 v1 xs) (h2 : Own fInt w' b2 T2 v2 ys) (hb1 : w.heap.size ≤ b1) (hb2 : w.heap.size ≤ b2) (hne : v1.ownBlock ≠ v2.ownBlock ∨ v1.ownBlock = none ∨ v2.ownBlock = none)
    (ok1 : ∀ x ∈ xs, fStr.ok x) (ok2 : ∀ y ∈ ys, fInt.ok y) (hb : Below w.heap.size w w') : New2R w xs ys c (.returned (.tuple #[v1, v2, .int .i64 c])) w' := by
  obtain ⟨f1, a1, a2, a3, a4⟩ := h1.fp ok1
  obtain ⟨f2, c1, c2, c3, c4⟩ := h2.fp ok2
  refine ⟨_, _, rfl, f1, f2, a1, c1, fun b h => Nat.le_trans hb1 (a2 b h), fun b h => Nat.le_trans hb2 (c2 b h), a3, c3, fun b h h' => ?_, hb⟩
  have e1 := a4 b h
  have e2 := c4 b h'
  rcases hne with hne | hne | hne
  · exact hne (e1.trans e2.symm)
  · rw [e1] at hne; cases hne
  · rw [e2] at hne; cases hne
theorem infoInt3 : (Tryz.prog.info? 2).map (fun i => (i.zero, i.size, i.bytes)) = some (some (.int .i64 0), 1, 8) := by kernel_rfl
def clC (xs : List ByteArray) : Int := if linesB xs then 0 else 1
def clD (xs : List ByteArray) : List ByteArray := if linesB xs then cdF xs else []
def clM (xs : List ByteArray) : List Int := if linesB xs then cmF xs else []
theorem clD_len {xs : List ByteArray} (h : xs.length ≤ 1048576) : (clD xs).length ≤ 100000000000 := by
  unfold clD; split
  · have := cdF_len xs; omega
  · simp
theorem clM_len {xs : List ByteArray} (h : xs.length ≤ 1048576) : (clM xs).length ≤ 100000000000 := by
  unfold clM; split
  · unfold cmF; rw [List.length_map]; have := cdF_len xs; omega
  · simp
theorem clM_ok {xs : List ByteArray} (h : xs.length ≤ 1000000) : ∀ y ∈ cmF xs, fInt.ok y := by
  intro y hy
  obtain ⟨s, _, rfl⟩ := List.mem_map.1 hy
  have := cntS_le xs s
  show -9223372036854775808 ≤ _ ∧ _ ≤ _
  omega

end Go.Proofs.YthabmofkjdiccaaGreatDoor

namespace Go.Proofs
open Go.Shelf
def Tryz.keysLay_ren : Go.Shelf.Ren := ⟨fun | 7 => 104 | 10 => 124 | n => n, fun | 23 => 130 | 26 => 9 | 3 => 2 | 28 => 134 | 0 => 0 | 27 => 133 | 33 => 126 | 4 => 4 | n => n, fun | n => n⟩
theorem Tryz.keysLay : Go.Proofs.SlLaysZ.n7 Tryz.prog Tryz.keysLay_ren := {
  mixed := by kernel_rfl
  f7 := ⟨Tryz.f104.name, by decide, Tryz.func104.trans (congrArg some (by kernel_rfl))⟩
  f10 := ⟨Tryz.f124.name, by decide, Tryz.func124.trans (congrArg some (by kernel_rfl))⟩
  t0 := Tryz.underlying0
  a0 := Tryz.isAgg0
  z0 := Tryz.sizeOf0
  v0 := Tryz.zeroValue0
  t4 := Tryz.underlying4
  a4 := Tryz.isAgg4
  z4 := Tryz.sizeOf4
  v4 := Tryz.zeroValue4
  t23 := Tryz.underlying130
  a23 := Tryz.isAgg130
  z23 := Tryz.sizeOf130
  v23 := Tryz.zeroValue130
  t26 := Tryz.underlying9
  a26 := Tryz.isAgg9
  z26 := Tryz.sizeOf9
  v26 := Tryz.zeroValue9
  t27 := Tryz.underlying133
  a27 := Tryz.isAgg133
  z27 := Tryz.sizeOf133
  v27 := Tryz.zeroValue133
  t28 := Tryz.underlying134
  a28 := Tryz.isAgg134
  z28 := Tryz.sizeOf134
  v28 := Tryz.zeroValue134
  t33 := Tryz.underlying126
  a33 := Tryz.isAgg126
  z33 := Tryz.sizeOf126
  v33 := Tryz.zeroValue126 }
def Tryz.sortedLay_ren : Go.Shelf.Ren := ⟨fun | 6 => 103 | 8 => 122 | 9 => 123 | 11 => 140 | 13 => 142 | 12 => 141 | 23 => 170 | 24 => 171 | 14 => 161 | 15 => 162 | 16 => 163 | 17 => 164 | 18 => 165 | 19 => 166 | 20 => 167 | 21 => 168 | 22 => 169 | 25 => 187 | 26 => 188 | 27 => 189 | 28 => 190 | 29 => 191 | 30 => 119 | 31 => 199 | n => n, fun | 26 => 9 | 28 => 134 | 24 => 53 | 0 => 0 | 3 => 3 | 37 => 112 | 48 => 189 | 50 => 108 | 4 => 4 | 40 => 182 | 39 => 181 | 45 => 79 | 5 => 5 | 9 => 9 | 51 => 205 | 55 => 209 | 57 => 220 | 58 => 221 | 33 => 126 | n => n, fun | n => n⟩
theorem Tryz.sortedLay : Go.Proofs.SlLaysZ.n6 Tryz.prog Tryz.sortedLay_ren := {
  mixed := by kernel_rfl
  f6 := ⟨Tryz.f103.name, by decide, Tryz.func103.trans (congrArg some (by kernel_rfl))⟩
  f8 := ⟨Tryz.f122.name, by decide, Tryz.func122.trans (congrArg some (by kernel_rfl))⟩
  f11 := ⟨Tryz.f140.name, by decide, Tryz.func140.trans (congrArg some (by kernel_rfl))⟩
  t0 := Tryz.underlying0
  a0 := Tryz.isAgg0
  z0 := Tryz.sizeOf0
  v0 := Tryz.zeroValue0
  t24 := Tryz.underlying53
  a24 := Tryz.isAgg53
  z24 := Tryz.sizeOf53
  v24 := Tryz.zeroValue53
  t26 := Tryz.underlying9
  a26 := Tryz.isAgg9
  z26 := Tryz.sizeOf9
  v26 := Tryz.zeroValue9
  t28 := Tryz.underlying134
  a28 := Tryz.isAgg134
  z28 := Tryz.sizeOf134
  v28 := Tryz.zeroValue134
  i26 := by kernel_rfl }
end Go.Proofs

namespace Go.Proofs.YthabmofkjdiccaaGreatDoor
open Go.RowKit Go.Shelf Go.Sort Go.Maps
set_option linter.unusedVariables false
attribute [local go_sem] Oper.semAt_some

abbrev DU := DataW Unit
theorem insert_perm_ (x : Lit × DU) : ∀ l : List (Lit × DU), (DataW.insert x l).Perm (x :: l)
  | [] => List.Perm.refl _
  | y :: l => by
    unfold DataW.insert
    split
    · exact List.Perm.refl _
    · exact ((insert_perm_ x l).cons y).trans (List.Perm.swap x y l)
def litS (s : ByteArray) : Lit := .string s.data.toList
theorem litS_inj {a b : ByteArray} (h : litS a = litS b) : a = b := by
  unfold litS at h; injection h with h; exact data_inj h
def numW (n : Nat) : DU := .lit (.int .i64 (n : Int))
/-- The map's entries after the lines L. -/
structure CntD (es : List (Lit × DU)) (L : List ByteArray) : Prop where
  val : ∀ p ∈ es, ∃ s : ByteArray, p.1 = litS s ∧ s ∈ L ∧ p.2 = numW (cntS L s)
  has : ∀ s ∈ L, ∃ p ∈ es, p.1 = litS s
  nd : (es.map (fun p => p.1)).Nodup
theorem CntD.nil : CntD [] [] := ⟨by simp, by simp, by simp⟩
theorem CntD.at_ {es : List (Lit × DU)} {L : List ByteArray} (h : CntD es L) (s : ByteArray) : (DataW.map es : DU).atKey (litS s) (.lit (.int .i64 0)) = numW (cntS L s) := by
  simp only [DataW.atKey]
  cases hf : es.find? (fun p => p.1.sameKey (litS s)) with
  | some p =>
    have hp := List.mem_of_find?_eq_some hf
    have hk := List.find?_some hf
    obtain ⟨s', e1, _, e2⟩ := h.val p hp
    rw [e1] at hk
    have : s' = s := by
      simp only [litS, Lit.sameKey, beq_iff_eq] at hk
      exact data_inj hk
    subst this
    exact e2
  | none =>
    rw [List.find?_eq_none] at hf
    have hn : s ∉ L := fun hm => by
      obtain ⟨p, hp, e⟩ := h.has s hm
      have := hf p hp
      rw [e] at this
      simp [litS, Lit.sameKey] at this
    rw [cntS_zero hn]; rfl
theorem CntD.put {es : List (Lit × DU)} {L : List ByteArray} (h : CntD es L) (s : ByteArray) : ∃ es', (DataW.map es : DU).put (litS s) (numW (cntS L s + 1)) = .map es' ∧ CntD es' (L ++ [s]) := by
  refine ⟨_, DataW.put_eq es _ _, ?_⟩
  have hp := insert_perm_ (litS s, numW (cntS L s + 1)) (es.filter (Go.ChangeMaps.notKey (litS s)))
  have hnk : ∀ p ∈ es, Go.ChangeMaps.notKey (litS s) p = true ↔ p.1 ≠ litS s := fun p hp => by
    obtain ⟨s', e1, _, _⟩ := h.val p hp
    exact Go.ChangeMaps.notKey_iff ⟨_, rfl⟩ ⟨_, e1⟩
  have hmem : ∀ p, p ∈ Go.ChangeMaps.putKey (litS s) (numW (cntS L s + 1)) es ↔ p = (litS s, numW (cntS L s + 1)) ∨ (p ∈ es ∧ p.1 ≠ litS s) := fun p => by
    refine (hp.mem_iff).trans ?_
    rw [List.mem_cons, List.mem_filter]
    exact or_congr Iff.rfl ⟨fun ⟨a, b⟩ => ⟨a, (hnk p a).1 b⟩, fun ⟨a, b⟩ => ⟨a, (hnk p a).2 b⟩⟩
  refine ⟨fun p hp' => ?_, fun t ht => ?_, ?_⟩
  · rcases (hmem p).1 hp' with rfl | ⟨h1, h2⟩
    · exact ⟨s, rfl, by simp, by rw [cntS_snoc, if_pos rfl]⟩
    · obtain ⟨s', e1, e2, e3⟩ := h.val p h1
      refine ⟨s', e1, by simp [e2], ?_⟩
      rw [cntS_snoc, if_neg (fun e => h2 (by rw [e1, e]))]
      exact e3
  · rcases List.mem_append.1 ht with ht | ht
    · by_cases e : t = s
      · exact ⟨_, (hmem _).2 (.inl rfl), by rw [e]⟩
      · obtain ⟨p, h1, h2⟩ := h.has t ht
        exact ⟨p, (hmem p).2 (.inr ⟨h1, fun e' => e (litS_inj (h2.symm.trans e'))⟩), h2⟩
    · rw [List.mem_singleton] at ht
      subst ht
      exact ⟨_, (hmem _).2 (.inl rfl), rfl⟩
  · have h2 := (hp.map (fun p => p.1)).nodup_iff.2 (by
      rw [List.map_cons, List.nodup_cons]
      refine ⟨fun hm => ?_, (List.filter_sublist.map _).nodup h.nd⟩
      obtain ⟨p, h3, h4⟩ := List.mem_map.1 hm
      rw [List.mem_filter] at h3
      exact (hnk p h3.1).1 h3.2 h4)
    exact h2
/-- The keys, in order, are the different lines. -/
theorem CntD.keys {es : List (Lit × DU)} {L : List ByteArray} (h : CntD es L) {ss : List (List UInt8)} (hp : ss.Perm (strKeys (DataW.map es : DU))) :
    (ss.mergeSort (fun x y => decide (x ≤ y))).map encStr = (cdF L).flatMap fStr.enc ∧ ss.length = (cdF L).length := by
  obtain ⟨M, hM⟩ : ∃ M : List ByteArray, M = ss.map (fun l => (⟨l.toArray⟩ : ByteArray)) := ⟨_, rfl⟩
  have e1 : ss = M.map (fun x : ByteArray => x.data.toList) := by rw [hM, List.map_map]; simp [Function.comp_def]
  have hmem : ∀ s, s ∈ M ↔ s ∈ L := fun s => by
    rw [hM, List.mem_map]
    constructor
    · rintro ⟨l, hl, rfl⟩
      have := (hp.mem_iff).1 hl
      obtain ⟨p, h1, rfl⟩ := List.mem_map.1 this
      obtain ⟨s', e1, e2, _⟩ := h.val p h1
      rw [e1]
      have : (⟨(strOf (litS s')).toArray⟩ : ByteArray) = s' := by simp [strOf, litS]
      rw [this]; exact e2
    · intro hs
      obtain ⟨p, h1, h2⟩ := h.has s hs
      refine ⟨s.data.toList, (hp.mem_iff).2 (List.mem_map.2 ⟨p, h1, by rw [h2]; rfl⟩), by simp⟩
  have hnd : M.Nodup := by
    have h1 : (strKeys (DataW.map es : DU)).Nodup := by
      show (es.map fun p => strOf p.1).Nodup
      have h2 := h.nd
      rw [List.nodup_iff_pairwise_ne] at *
      rw [List.pairwise_map] at *
      refine List.Pairwise.imp_of_mem ?_ h2
      intro a b ha hb hab e
      obtain ⟨s1, e1, _, _⟩ := h.val a ha
      obtain ⟨s2, e2, _, _⟩ := h.val b hb
      rw [e1, e2] at hab e
      have e' : s1.data.toList = s2.data.toList := e
      exact hab (by unfold litS; rw [e'])
    have h2 := (hp.nodup_iff).2 h1
    rw [e1] at h2
    rw [List.nodup_iff_pairwise_ne] at *
    rw [List.pairwise_map] at h2
    exact h2.imp (fun h e => h (by rw [e]))
  have e2 : srtF M = cdF L := cdF_of (ssrt_of (srtF_srt M) ((srtF_perm M).nodup_iff.2 hnd)) (fun s => ((srtF_perm M).mem_iff).trans (hmem s))
  refine ⟨?_, ?_⟩
  · rw [e1, ← srtF_map, ← encStr_map, e2]
  · rw [← e2, srtF_len, e1, List.length_map]
theorem own_monoE {α : Type} {E : Flat α} {w : World} {base base' : Nat} {e : TypeId} {v : Value} {L : List α} (h : Own E w base e v L) (hb : base' ≤ base) : Own E w base' e v L := by
  obtain ⟨h1, h2⟩ := h
  refine ⟨h1, ?_⟩
  rcases h2 with h2 | ⟨g, cap, cur, hv, hg, r⟩
  · exact .inl h2
  · exact .inr ⟨g, cap, cur, hv, by omega, r⟩
theorem ownsMap_below {P : Program} {k : TypeId} {R : Value → Option (DU × List MemPlace)} {w w' : World} {b n B : Nat} {D : DU} (h : w.ownsMap P k R b n D) (hb : Below B w w') (hB : b < B) : w'.ownsMap P k R b n D := by
  obtain ⟨es, clock, h1, r⟩ := h
  exact ⟨es, clock, (hb.block b hB).trans h1, r⟩
theorem sortsIn_any (m : Nat) : AnyZ.SortsIn Tryz.prog Tryz.sortedLay_ren Fence.wide m :=
  ⟨fun blk off cap ss W hH hblk hsz => callsIn_wide.2 (Tryz.slices_Sort_string blk off cap ss W hH hblk hsz), fun p cap W => callsIn_wide.2 (Tryz.slices_Sort_string_none p cap W)⟩
theorem keysM_any (b : Nat) (w : World) : Calls Tryz.prog 104 #[.map (some b)] w fun e w' => e = .returned (.func (.func 124) #[] #[.pointer (some ⟨w.heap.size, 0, none⟩)]) ∧ w' = w.alloc (.cells #[.map (some b)] 130) :=
  (callsIn_wide (n := 5)).1 (AnyZ.keys_in Tryz.keysLay Fence.wide 5 trivial rfl (some b) w)
set_option maxHeartbeats 1000000 in
theorem sortedKeys_any (b nn : Nat) (es : List (Lit × DU)) (L : List ByteArray) (R : Value → Option (DU × List MemPlace)) (w : World) (hown : w.ownsMap Tryz.prog 9 R b nn (.map es)) (hn : nn ≤ 1000000) (hc : CntD es L) :
    Calls Tryz.prog 103 #[.func (.func 124) #[] #[.pointer (some ⟨w.heap.size, 0, none⟩)]] (w.alloc (.cells #[.map (some b)] 130)) fun e w' => OwnRS fStr 9 (w.alloc (.cells #[.map (some b)] 130)) (cdF L) e w' := by
  have hbl := hown.lt
  have hsize := hown.size_le
  have hseq : SeqGives Fence.wide 2 Tryz.prog 124 #[.pointer (some ⟨w.heap.size, 0, none⟩)] encStr (fun ss => ss.Perm (strKeys (DataW.map es : DU))) (Maps.size (DataW.map es : DU)) (w.alloc (.cells #[.map (some b)] 130)) :=
    AnyZ.keys_gives (ρ := Tryz.keysLay_ren) { Tryz.keysLay with } Fence.wide _ trivial rfl (by omega) w.heap.size b nn _ _ (by simp) (by simp) (by
      obtain ⟨es', clock, hb, Ft, hs, hD⟩ := hown
      exact ⟨es', clock, (Below.heap_alloc _ _ b hbl).trans hb, Ft, hs, hD⟩)
  refine ((callsIn_wide (n := 5)).1 (AnyZ.sorted_in Tryz.sortedLay Fence.wide 5 trivial trivial trivial trivial rfl (by omega) (sortsIn_any _) (enters_of Tryz.func123 (by kernel_rfl) rfl) 124 #[.pointer (some ⟨w.heap.size, 0, none⟩)] trivial (enters_of Tryz.func124 (by kernel_rfl) rfl) _ _ (by unfold maxLen; omega) (by omega) _ hseq)).mono ?_
  rintro e w' ⟨v, ss, rfl, hS, hrow, _, hb⟩
  obtain ⟨e1, e2⟩ := hc.keys hS
  rw [e1, e2] at hrow
  exact ⟨v, rfl, hrow, hb⟩

theorem New2R.of' {w w3 w' : World} {v1 v2 : Value} {xs : List ByteArray} {ys : List Int} {b1 : Nat} {T1 T2 : TypeId} {c : Int} (h1 : Own fStr w3 b1 T1 v1 xs) (h2 : Own fInt w' w3.heap.size T2 v2 ys) (hb1 : w.heap.size ≤ b1) (hw3 : w.heap.size ≤ w3.heap.size) (hb3 : Below w3.heap.size w3 w')
    (ok1 : ∀ x ∈ xs, fStr.ok x) (ok2 : ∀ y ∈ ys, fInt.ok y) (hb : Below w.heap.size w w') : New2R w xs ys c (.returned (.tuple #[v1, v2, .int .i64 c])) w' := by
  refine New2R.of (h1.below hb3) h2 hb1 hw3 ?_ ok1 ok2 hb
  rcases h2.2 with ⟨hv, _⟩ | ⟨g2, _, _, hv, hg2, _⟩
  · subst hv; exact .inr (.inr rfl)
  · rcases h1.2 with ⟨hv1, _⟩ | ⟨g1, _, _, hv1, _, hh, _⟩
    · subst hv1; exact .inr (.inl rfl)
    · subst hv hv1
      have := (Array.getElem?_eq_some_iff.1 hh).1
      exact .inl (by simp [Value.ownBlock]; omega)
theorem mapT_under : Tryz.prog.underlying 130 = some (.map 9 2) := by kernel_rfl
theorem int64T_under : Tryz.prog.underlying 2 = some (.int .i64) := by kernel_rfl
theorem strT_under : Tryz.prog.underlying 9 = some .string := by kernel_rfl
theorem zeroI_run (w : World) : (zeroValue 2).run Tryz.prog w = .ok (.int .i64 0) w := by kernel_rfl

end Go.Proofs.YthabmofkjdiccaaGreatDoor

namespace Go.Proofs.YthabmofkjdiccaaGreatDoor
open Go.RowKit
set_option linter.unusedVariables false

/-- Pieces without the byte, joined, are divided again. -/
theorem splL_app (c : UInt8) : ∀ (x l : List UInt8), (∀ b ∈ x, b ≠ c) → splL c (x ++ c :: l) = x :: splL c l
  | [], l, _ => by show (if c = c then [] :: splL c l else _) = _; rw [if_pos rfl]
  | b :: x, l, h => by
    have ih := splL_app c x l (fun y hy => h y (by simp [hy]))
    show (if b = c then [] :: splL c (x ++ c :: l) else match splL c (x ++ c :: l) with | [] => [[b]] | q :: r => (b :: q) :: r) = _
    rw [if_neg (h b (by simp)), ih]
theorem spl_joinX : ∀ (L : List (List UInt8)), L ≠ [] → (∀ x ∈ L, ∀ b ∈ x, b ≠ 44) → splL 44 (joinX L) = L
  | [], h, _ => absurd rfl h
  | [x], _, h => by rw [joinX_one]; exact splL_none (h x (by simp))
  | x :: y :: r, _, h => by
    have e : joinX (x :: y :: r) = x ++ 44 :: joinX (y :: r) := by simp [joinX]
    rw [e, splL_app 44 x _ (h x (by simp)), spl_joinX (y :: r) (by simp) (fun z hz => h z (by simp [hz]))]
theorem joinX_cat (P : List (List UInt8)) (q : List UInt8) : joinX (P ++ [q]) = (P.flatMap fun p => p ++ [44]) ++ q := by
  induction P with
  | nil => simp [joinX]
  | cons a P ih =>
    cases P with
    | nil => simp [joinX]
    | cons b P =>
      have e : joinX (a :: b :: P ++ [q]) = a ++ 44 :: joinX (b :: P ++ [q]) := by simp [joinX]
      rw [e, ih]; simp
theorem joinX_spl (l : List UInt8) : joinX (splL 44 l) = l := by
  obtain ⟨P, q, h⟩ : ∃ P q, splL 44 l = P ++ [q] := ⟨_, _, (List.dropLast_concat_getLast (splL_ne 44 l)).symm⟩
  rw [h, joinX_cat, splL_join 44 l P q h]
open Go.Lib in
theorem splitK_more (c : UInt8) : ∀ (l : List UInt8) (k : Nat), (splL c l).length ≤ k + 1 → splitK [c] 0 k l = splL c l
  | [], k, _ => by
    have h : index ([] : List UInt8) [c] = -1 := rfl
    cases k with
    | zero => rfl
    | succ k => rw [splitK, h]; rfl
  | b :: l, k, hk => by
    have hi := index_one c b l
    unfold splL at hk ⊢
    by_cases e : b = c
    · rw [if_pos e] at hi hk ⊢
      obtain ⟨j, rfl⟩ : ∃ j, k = j + 1 := ⟨k - 1, by have := splL_ne c l; have h2 : 0 < (splL c l).length := List.length_pos_iff.2 this; rw [List.length_cons] at hk; omega⟩
      rw [splitK, hi]
      have ih := splitK_more c l j (by rw [List.length_cons] at hk; omega)
      simp [ih]
    · rw [if_neg e] at hi hk ⊢
      have hk2 : (splL c l).length ≤ k + 1 := by
        cases hs : splL c l with
        | nil => simp
        | cons q r => rw [hs] at hk; simpa using hk
      have ih := splitK_more c l k hk2
      cases k with
      | zero =>
        have ih' : [l] = splL c l := ih
        rw [← ih']; rfl
      | succ k =>
        rcases index_spec l [c] with ⟨h1, _⟩ | ⟨i, h1, _⟩
        · rw [h1] at hi
          have hm : index (b :: l) [c] = -1 := hi
          rw [splitK, h1] at ih
          have ih' : [l] = splL c l := ih
          rw [splitK, hm, ← ih']; rfl
        · have hm : index (b :: l) [c] = ((i + 1 : Nat) : Int) := by
            rw [hi, h1, if_neg (by rw [beq_iff_eq]; omega)]; omega
          rw [splitK, h1, if_neg (by rw [beq_iff_eq]; omega)] at ih
          rw [splitK, hm, if_neg (by rw [beq_iff_eq]; omega), ← ih]
          simp
def inR (n : Int) : Bool := inB n (-1000000000000) 1000000000000
def pieceB (p : ByteArray) : Bool := numOk p && inR (numV p)
def minusS : ByteArray := ⟨#[45]⟩
/-- The list that a text is of. -/
def rlF (s : ByteArray) : Option (List Int) := if s = minusS then some [] else if decide ((splS 44 s).length ≤ 64) && (splS 44 s).all pieceB then some ((splS 44 s).map numV) else none
theorem num_parts {p : ByteArray} (h : numOk p = true) : Lib.itoa (numV p) = p.data.toList ∧ numL p.data.toList = some (numV p) := by
  unfold numOk at h
  cases hn : numL p.data.toList with
  | none => rw [hn] at h; cases h
  | some v =>
    have hv := (num_some hn).2
    rw [hv]
    exact ⟨(numL_back hn).1, rfl⟩
theorem itoa_bytes (v : Int) : ∀ b ∈ Lib.itoa v, b ≠ 44 ∧ b ≠ 32 := by
  have hd : ∀ u, ∀ b ∈ dig u, b ≠ 44 ∧ b ≠ 32 := fun u b hb => by
    have := List.all_eq_true.1 (dig_all u) b hb
    unfold digB at this
    simp only [Bool.and_eq_true, decide_eq_true_eq] at this
    constructor <;> (intro e; subst e; revert this; decide)
  intro b hb
  by_cases h0 : v = 0
  · subst h0; rw [itoa_zeroL] at hb; simp at hb; subst hb; decide
  · rw [itoa_ne h0, List.mem_append] at hb
    rcases hb with hb | hb
    · split at hb
      · simp at hb; subst hb; decide
      · cases hb
    · exact hd _ b hb
theorem listS_data {xs : List Int} (h : xs ≠ []) : (listS xs).data.toList = joinX (xs.map Lib.itoa) := by unfold listS; rw [if_neg h]
theorem splS_list {xs : List Int} (h : xs ≠ []) : splS 44 (listS xs) = xs.map decS := by
  refine (splS_of ?_).symm
  rw [listS_data h, spl_joinX _ (by simpa using h) (fun x hx b hb => by
    obtain ⟨v, _, rfl⟩ := List.mem_map.1 hx
    exact (itoa_bytes v b hb).1), List.map_map]
  congr 1
theorem numOk_dec {v : Int} (h : inR v = true) : numOk (decS v) = true ∧ numV (decS v) = v := by
  have hb : v.natAbs < 10 ^ 18 := by
    unfold inR inB at h
    simp only [Bool.and_eq_true, decide_eq_true_eq] at h
    have : (10 : Nat) ^ 18 = 1000000000000000000 := by decide
    omega
  exact num_some (by rw [show (decS v).data.toList = Lib.itoa v from by unfold decS; simp]; exact numL_itoa v hb)
/-- A text that is a list's text is read as that list. -/
theorem rlF_list {xs : List Int} (h : fitsL xs = true) : rlF (listS xs) = some xs := by
  unfold fitsL at h
  simp only [Bool.and_eq_true, decide_eq_true_eq] at h
  unfold rlF
  by_cases hn : xs = []
  · subst hn; rfl
  · have hm : ¬ listS xs = minusS := by
      intro e
      have hs := splS_list hn
      rw [e, show splS 44 minusS = [minusS] from rfl] at hs
      cases xs with
      | nil => exact hn rfl
      | cons x r =>
        rw [List.map_cons] at hs
        injection hs with h1 _
        have h2 := congrArg (fun s : ByteArray => s.data.toList) h1
        have h3 : ([45] : List UInt8) = Lib.itoa x := by simpa [decS, minusS] using h2
        by_cases h0 : x = 0
        · subst h0; rw [itoa_zeroL] at h3; cases h3
        · have h4 := dig_first x.natAbs (by omega)
          obtain ⟨c, r', h5⟩ := h4
          have h6 := List.all_eq_true.1 (dig_all x.natAbs) c (by rw [h5]; simp)
          rw [itoa_ne h0, h5] at h3
          split at h3
          · simp at h3
          · simp at h3; rw [← h3.1] at h6; revert h6; decide
    rw [if_neg hm, splS_list hn, List.length_map, decide_eq_true h.1, List.map_map]
    have ha : (xs.map decS).all pieceB = true := by
      rw [List.all_eq_true]
      intro y hy
      obtain ⟨v, hv, rfl⟩ := List.mem_map.1 hy
      have hr : inR v = true := List.all_eq_true.1 h.2 v hv
      obtain ⟨h1, h2⟩ := numOk_dec hr
      unfold pieceB; rw [h1, h2, hr]; rfl
    rw [ha, if_pos (by rfl)]
    congr 1
    have : (xs.map (numV ∘ decS)) = xs.map id := List.map_congr_left (fun v hv => (numOk_dec (List.all_eq_true.1 h.2 v hv)).2)
    rw [this, List.map_id]
/-- What is read spells the text. -/
theorem rlF_text {s : ByteArray} {xs : List Int} (h : rlF s = some xs) : fitsL xs = true ∧ listS xs = s := by
  unfold rlF at h
  split at h
  · rename_i hm
    injection h with h
    subst h
    exact ⟨rfl, by rw [hm]; rfl⟩
  · split at h
    · rename_i hc
      simp only [Bool.and_eq_true, decide_eq_true_eq] at hc
      injection h with h
      have hall := List.all_eq_true.1 hc.2
      subst h
      constructor
      · unfold fitsL
        rw [List.length_map, decide_eq_true hc.1, Bool.true_and, List.all_eq_true]
        intro y hy
        obtain ⟨p, hp, rfl⟩ := List.mem_map.1 hy
        have := hall p hp
        unfold pieceB at this
        simp only [Bool.and_eq_true] at this
        exact this.2
      · have hne : (splS 44 s).map numV ≠ [] := by
          have := splS_data 44 s
          intro e
          have h2 : splS 44 s = [] := by simpa using e
          rw [h2] at this
          exact splL_ne 44 _ this.symm
        refine data_inj ?_
        rw [listS_data hne, List.map_map]
        have : (splS 44 s).map (Lib.itoa ∘ numV) = (splS 44 s).map (fun x : ByteArray => x.data.toList) := List.map_congr_left (fun p hp => by
          have := hall p hp
          unfold pieceB at this
          simp only [Bool.and_eq_true] at this
          exact (num_parts this.1).1)
        rw [this, splS_data, joinX_spl]
    · cases h
theorem splS_len (c : UInt8) (s : ByteArray) : (splS c s).length ≤ s.size + 1 := by
  have hl : ∀ l : List UInt8, (splL c l).length ≤ l.length + 1 := by
    intro l
    induction l with
    | nil => simp [splL]
    | cons b l ih =>
      unfold splL
      split
      · rw [List.length_cons, List.length_cons]; omega
      · cases hs : splL c l with
        | nil => simp
        | cons q r => rw [hs] at ih; rw [List.length_cons] at ih ⊢; rw [List.length_cons]; omega
  unfold splS; rw [List.length_map]
  have := hl s.data.toList
  rwa [dataL_len] at this
/-- The pieces that SplitN(s, ",", 65) gives. -/
def cutN (s : ByteArray) : List ByteArray := Lib.splitB ⟨#[44]⟩ 0 (min 65 (s.size + 1) - 1) s
theorem cutN_data (s : ByteArray) : (cutN s).map (fun x : ByteArray => x.data.toList) = Lib.splitK [44] 0 (min 65 (s.size + 1) - 1) s.data.toList := Lib.splitB_data ⟨#[44]⟩ 0 _ s
theorem cutN_few {s : ByteArray} (h : (splS 44 s).length ≤ 64) : cutN s = splS 44 s := by
  refine splS_of ?_
  have h2 := splS_len 44 s
  have h3 : (splL 44 s.data.toList).length = (splS 44 s).length := by unfold splS; rw [List.length_map]
  rw [cutN_data]
  exact splitK_more 44 s.data.toList _ (by omega)
theorem splitB_len (sep : ByteArray) : ∀ (k : Nat) (s : ByteArray), (Lib.splitB sep 0 k s).length ≤ k + 1 ∧ ∀ x ∈ Lib.splitB sep 0 k s, x.size ≤ s.size
  | 0, s => ⟨by rw [Lib.splitB_zero]; simp, by intro x hx; rw [Lib.splitB_zero, List.mem_singleton] at hx; subst hx; omega⟩
  | k + 1, s => by
    unfold Lib.splitB
    split
    · exact ⟨by simp, by intro x hx; rw [List.mem_singleton] at hx; subst hx; omega⟩
    · obtain ⟨h1, h2⟩ := splitB_len sep k (s.extract ((Lib.indexB s sep).toNat + sep.size) s.size)
      refine ⟨by rw [List.length_cons]; omega, ?_⟩
      intro x hx
      rcases List.mem_cons.1 hx with rfl | hx
      · rw [ByteArray.size_extract]; omega
      · have := h2 x hx
        rw [ByteArray.size_extract] at this
        omega
theorem cutN_len (s : ByteArray) : (cutN s).length ≤ 65 := by have := (splitB_len ⟨#[44]⟩ (min 65 (s.size + 1) - 1) s).1; unfold cutN; omega
theorem cutN_size (s : ByteArray) : ∀ x ∈ cutN s, x.size ≤ s.size := (splitB_len ⟨#[44]⟩ _ s).2
theorem cutN_empty : cutN ⟨#[]⟩ = [⟨#[]⟩] := rfl
theorem rlF_bad {s : ByteArray} {k : Nat} (hm : ¬ s = minusS) (hk : k < (cutN s).length) (h : numOk (cutN s)[k] = false) : rlF s = none := by
  unfold rlF; rw [if_neg hm]
  split
  · rename_i hc
    simp only [Bool.and_eq_true, decide_eq_true_eq] at hc
    have e := cutN_few hc.1
    have := List.all_eq_true.1 hc.2 (cutN s)[k] (by rw [← e]; exact List.getElem_mem hk)
    unfold pieceB at this
    rw [h] at this; cases this
  · rfl
theorem rlF_end {s : ByteArray} (hm : ¬ s = minusS) (hall : ∀ x ∈ cutN s, numOk x = true) : (listT ((cutN s).map numV) = s → rlF s = some ((cutN s).map numV)) ∧ (¬ listT ((cutN s).map numV) = s → rlF s = none) := by
  constructor
  · intro h
    unfold listT at h
    split at h
    · rename_i hf
      have := rlF_list hf
      rw [h] at this
      exact this
    · subst h
      have := hall ⟨#[]⟩ (by rw [cutN_empty]; simp)
      exact absurd this (by decide)
  · intro h
    cases hr : rlF s with
    | none => rfl
    | some xs =>
      obtain ⟨h1, h2⟩ := rlF_text hr
      have hlen : (splS 44 s).length ≤ 64 ∧ xs = (splS 44 s).map numV := by
        unfold rlF at hr
        rw [if_neg hm] at hr
        split at hr
        · rename_i hc
          simp only [Bool.and_eq_true, decide_eq_true_eq] at hc
          injection hr with hr
          exact ⟨hc.1, hr.symm⟩
        · cases hr
      refine absurd ?_ h
      rw [cutN_few hlen.1, ← hlen.2]
      unfold listT; rw [if_pos h1, h2]
def RlR (w : World) (s : ByteArray) (e : Ending) (w' : World) : Prop := ∃ v, e = .returned (.tuple #[v, .bool (rlF s).isSome]) ∧ New fInt.cod w v ((rlF s).getD []) w'
theorem RlR.none_ {w w' : World} {s : ByteArray} (h : rlF s = none) (hb : Below w.heap.size w w') : RlR w s (.returned (.tuple #[.slice none 0 0, .bool false])) w' := ⟨_, by rw [h]; rfl, by rw [h]; exact New.nil hb⟩
theorem RlR.some_ {w w' : World} {s : ByteArray} {v : Value} {xs : List Int} (h : rlF s = some xs) (hn : New fInt.cod w v xs w') : RlR w s (.returned (.tuple #[v, .bool true])) w' := ⟨_, by rw [h]; rfl, by rw [h]; exact hn⟩
theorem infoIntR : (Tryz.prog.info? 2).map (fun i => (i.zero, i.size, i.bytes)) = some (some (.int .i64 0), 1, 8) := by kernel_rfl
theorem numV_ok (p : ByteArray) : fInt.ok (numV p) := by
  unfold numV
  cases h : numL p.data.toList with
  | none => show _ ∧ _; simp
  | some v =>
    have := (numL_back h).2.1
    have e : (10 : Nat) ^ 18 = 1000000000000000000 := by decide
    show _ ∧ _
    simp only [Option.getD_some]
    omega
theorem numVs_ok (L : List ByteArray) : ∀ x ∈ L.map numV, fInt.ok x := by
  intro x hx; obtain ⟨p, _, rfl⟩ := List.mem_map.1 hx; exact numV_ok p
theorem spl_sizeR (c : UInt8) (s : ByteArray) : ∀ x ∈ splS c s, x.size ≤ s.size := by
  intro x hx
  obtain ⟨P, q, h1, h2⟩ := splS_cut c s
  have h3 := congrArg List.length h2
  rw [List.length_append, dataL_len, dataL_len] at h3
  rw [h1, List.mem_append] at hx
  rcases hx with hx | hx
  · obtain ⟨A, B, e⟩ := List.append_of_mem hx
    rw [e, List.flatMap_append, List.flatMap_cons, List.length_append, List.length_append, List.length_append, dataL_len] at h3
    omega
  · rw [List.mem_singleton] at hx; subst hx; omega
theorem cutN_any (s : ByteArray) (m : Int) (w : World) (hs : s.size ≤ 1048576) (hm : w.cell? ⟨0, 0, none⟩ = some (.int .i64 m)) :
    Calls Tryz.prog 113 #[.string s, .string ⟨#[44]⟩, .int .i64 65] w fun e w' => ∃ v fp, e = .returned v ∧ Sl fStr.cod w' v (cutN s) fp ∧ Below w.heap.size w w' := by
  have hlen := cutN_len s
  have hsz := cutN_size s
  have hl2 := (splitB_len ⟨#[44]⟩ (min 65 (s.size + 1) - 1) s).1
  refine (Tryz.strings_SplitN s ⟨#[44]⟩ 65 m w (by omega) hm (Nat.le_refl 1) (by decide) (by decide)).mono ?_
  rintro e w' ⟨rfl, rfl⟩
  refine ⟨_, [w.heap.size], rfl, ?_, (Below.refl _ _).alloc (Nat.le_refl _) _⟩
  have hpos : 0 < (cutN s).length := by
    unfold cutN
    cases hk : (min 65 (s.size + 1) - 1) with
    | zero => rw [Lib.splitB_zero]; simp
    | succ k => unfold Lib.splitB; split <;> simp
  refine Sl.of_cells (by show (cutN s).length ≤ _; unfold cutN at hpos ⊢; omega) (by omega) (by simp) (fun j hj => ⟨?_, ?_⟩) (fun x hx => by have := hsz x hx; show x.size ≤ 9223372036854775807; omega) hpos
  · have e1 : (cutN s).flatMap fStr.enc = (cutN s).map Value.string := by
      generalize cutN s = L
      induction L with
      | nil => rfl
      | cons x L ih => rw [List.flatMap_cons, List.map_cons, ih]; rfl
    have hj2 : j < (cutN s).length := by
      have h : j < ((cutN s).flatMap fStr.enc).length := hj
      rw [e1, List.length_map] at h; exact h
    rw [World.cell?_alloc_at _ _ _ _ rfl]
    show (Lib.cellsOf (cutN s) (min 65 (s.size + 1)))[0 + j]? = ((cutN s).flatMap fStr.enc)[j]?
    rw [e1, Nat.zero_add]
    unfold Lib.cellsOf
    rw [List.getElem?_toArray, List.getElem?_append_left (by rw [List.length_map]; exact hj2)]
  · rw [World.frozen?_alloc_at _ _ _ _ rfl]
set_option maxRecDepth 100000 in
set_option maxHeartbeats 4000000 in
theorem implReadList_any (s : ByteArray) (m : Int) (w : World) (hs : s.size ≤ 1048576) (hm9 : w.cell? ⟨0, 0, none⟩ = some (.int .i64 m)) (ht : RdTabs w) :
    Calls Tryz.prog 89 #[.string s] w fun e w' => RlR w s e w' := by
  obtain ⟨i0, hi, hz0, hz1, hz2⟩ := info_parts infoIntR
  by_cases hm : s = minusS
  · have e1 : (s.toList == [45]) = true := by rw [hm, beq_iff_eq]; unfold minusS; simp [ByteArray.toList_eq]
    have HR := Lib.hid (show rlF s = some [] from by unfold rlF; rw [if_pos hm])
    clear hm
    go_enter Tryz.func89, Tryz.ntmps89
    go_wp2
    go_ret2
    exact RlR.some_ HR.out (New.nil (Below.refl _ _))
  · have e1 : (s.toList == [45]) = false := by
      rw [beq_eq_false_iff_ne]; intro e
      exact hm (bytes_toList_inj (e.trans (by unfold minusS; simp [ByteArray.toList_eq])))
    have hsz := cutN_size s
    have hl65 := cutN_len s
    have HBAD : Hid (∀ k (hk : k < (cutN s).length), numOk (cutN s)[k] = false → rlF s = none) := fun k hk h => rlF_bad hm hk h
    have HEND : Hid ((∀ x ∈ cutN s, numOk x = true) → (listT ((cutN s).map numV) = s → rlF s = some ((cutN s).map numV)) ∧ (¬ listT ((cutN s).map numV) = s → rlF s = none)) := fun h => rlF_end hm h
    clear hm
    go_enter Tryz.func89, Tryz.ntmps89
    go_wp2_with fail
    refine (cutN_any s m _ hs hm9).mono ?_
    rintro e w1 ⟨v1, fp1, rfl, hsl, hb1⟩
    have ht1 := ht.below hb1
    generalize cutN s = P at *
    obtain ⟨A, cap, rfl, hle, hca⟩ := hsl.form
    go_wp2
    go_loopw [4, 14] (fun v i wr => ∃ k : Nat, k ≤ P.length ∧ i = .int .i64 k ∧ Hid ((P.take k).all numOk = true) ∧ Own fInt wr w1.heap.size 2 v ((P.map numV).take k) ∧ Below w1.heap.size w1 wr) (fun _ i _ => P.length - (intOf i).toNat)
    case atStart => exact ⟨0, Nat.zero_le _, rfl, rfl, Own.nil fInt _ _ _, Below.refl _ _⟩
    case round =>
      obtain ⟨k, hk, rfl, HA, ho, hb⟩ := hrel
      by_cases hlt : k < P.length
      · obtain ⟨b, off, rfl, _, _, hc, _⟩ := (hsl.below' hb).cell1 rfl hlt rfl
        have hps := hsz P[k] (List.getElem_mem hlt)
        have hkl : ((P.map numV).take k).length ≤ 65 := by rw [List.length_take, List.length_map]; omega
        go_wp2_with fail
        refine (ReadDecimal_any P[k] _ (by omega) (ht1.below hb)).mono ?_
        rintro e w2 ⟨rfl, hb2⟩
        have hB2 := hb.trans (hb2.mono hb.size)
        cases hn : numOk P[k]
        · have HN := Lib.hid (HBAD.out k hlt hn)
          clear ho hn
          go_wp2
          go_ret2
          exact RlR.none_ HN.out (hb1.trans (hB2.mono hb1.size))
        · have HA2 : Hid ((P.take (k + 1)).all numOk = true) := by
            show _ = _
            rw [List.take_succ_eq_append_getElem hlt, List.all_append, HA.out]; simp [hn]
          have HST : Hid ((P.map numV).take (k + 1) = (P.map numV).take k ++ [numV P[k]]) := by show _ = _; rw [List.take_succ_eq_append_getElem (by rw [List.length_map]; exact hlt), List.getElem_map]
          have ho3 : w2.ownsRow w1.heap.size 2 1 u4 ((P.map numV).take k).length (((P.map numV).take k).flatMap fInt.enc) := ho.below hb2
          have hs2 := hB2.size
          clear ho hn
          go_wp2_with (at_builtin; refine wpList_append_one rfl _ _ 30 rfl w1.heap.size 2 i0 (.int .i64 0) 1 8 Tryz.underlying30 hi hz0 hz1 hz2 rfl (by decide) u4 ((P.map numV).take k).length _ rfl ho3 [.int .i64 (numV P[k])] rfl (by intro u hu; rw [List.mem_singleton] at hu; subst hu; rfl) rfl (by omega) (by decide) hs2 ?_)
          intro v' u hown hbu _ _
          have hbu' := hB2.trans hbu
          have ho4 : Own fInt u w1.heap.size 2 v' ((P.map numV).take (k + 1)) := by rw [HST.out]; exact Own.push _ (by rw [List.length_take, List.length_map]; omega) hown
          clear hown
          go_wp2
          go_roundw
          case rel => exact ⟨k + 1, by omega, by go_num, HA2, ho4, hbu'⟩
          case measure => simp [intOf]; omega
      · obtain rfl : k = P.length := by omega
        rw [← List.length_map (f := numV), List.take_length] at ho
        have hall : ∀ x ∈ P, numOk x = true := by
          have h := HA.out
          rw [List.take_length] at h
          exact List.all_eq_true.1 h
        obtain ⟨hE1, hE2⟩ := HEND.out hall
        have hoks := numVs_ok P
        obtain ⟨fpy, hsy, hlo, hnd⟩ := Sl.of_own (n := (P.map numV).length) rfl ho hoks
        have hls := listT_size hoks (by rw [List.length_map]; omega)
        clear hall
        go_wp2_with fail
        refine (ListText_any _ (P.map numV) fpy _ hsy (ht1.below hb).tab).mono ?_
        rintro e w2 ⟨rfl, hb2⟩
        have hB2 := hb.trans (hb2.mono hb.size)
        by_cases hq : listT (P.map numV) = s
        · have HY := Lib.hid (hE1 hq)
          have e2 : ((listT (P.map numV)).toList == s.toList) = true := eqS_true.2 hq
          have hnew := ((ho.below hb2).new hB2 hoks).later hb1
          clear hE1 hE2 hq hsy ho
          go_wp2
          go_ret2
          exact RlR.some_ HY.out hnew
        · have HN := Lib.hid (hE2 hq)
          have e2 : ((listT (P.map numV)).toList == s.toList) = false := bytes_beq_false hq
          clear hE1 hE2 hq hsy ho
          go_wp2
          go_ret2
          exact RlR.none_ HN.out (hb1.trans (hB2.mono hb1.size))

end Go.Proofs.YthabmofkjdiccaaGreatDoor

namespace Go.Proofs.YthabmofkjdiccaaGreatDoor
open Go.RowKit
set_option linter.unusedVariables false

def ixL (c : UInt8) : List UInt8 → Nat
  | [] => 0
  | b :: l => if b = c then 0 else ixL c l + 1
theorem ixL_cons (c b : UInt8) (l : List UInt8) : ixL c (b :: l) = if b = c then 0 else ixL c l + 1 := rfl
theorem ixL_le (c : UInt8) : ∀ l, ixL c l ≤ l.length
  | [] => Nat.le_refl _
  | b :: l => by
    rw [ixL_cons]; split
    · simp
    · have := ixL_le c l; simp; omega
theorem ixL_index (c : UInt8) : ∀ l, Lib.index l [c] = if ixL c l < l.length then (ixL c l : Int) else -1
  | [] => rfl
  | b :: l => by
    rw [index_one, ixL_index c l, ixL_cons]
    by_cases e : b = c
    · rw [if_pos e, if_pos e, if_pos (by simp)]; rfl
    · rw [if_neg e, if_neg e]
      by_cases h : ixL c l < l.length
      · rw [if_pos h, if_neg (by rw [beq_iff_eq]; omega), if_pos (by simp; omega)]; push_cast; rfl
      · rw [if_neg h, if_pos (by decide), if_neg (by simp; omega)]
theorem ixL_hit {c : UInt8} {l : List UInt8} {k : Nat} (hk : k < l.length) (h : l[k] = c) : ixL c (l.drop k) = 0 := by
  rw [List.drop_eq_getElem_cons hk, ixL_cons, if_pos h]
theorem ixL_no {c : UInt8} {l : List UInt8} {k : Nat} (hk : k < l.length) (h : l[k] ≠ c) : ixL c (l.drop k) = ixL c (l.drop (k + 1)) + 1 := by
  rw [List.drop_eq_getElem_cons hk, ixL_cons, if_neg h]
theorem ixL_end {c : UInt8} {l : List UInt8} {k : Nat} (hk : l.length ≤ k) : ixL c (l.drop k) = 0 := by
  rw [List.drop_of_length_le hk]; rfl
theorem indexB_one (c : UInt8) (s : ByteArray) : Lib.indexB s ⟨#[c]⟩ = if ixL c s.data.toList < s.size then (ixL c s.data.toList : Int) else -1 := by
  have h := ixL_index c s.data.toList
  have h2 : s.data.toList.length = s.size := by simp
  rw [h2] at h
  exact h

end Go.Proofs.YthabmofkjdiccaaGreatDoor

namespace Go.Proofs.YthabmofkjdiccaaGreatDoor
open Go.RowKit Go.WideShapes Go.ChangeShapes Go.ChangeAt

theorem Tryz.own : ownKnob Tryz.prog.godebug = none := by kernel_rfl
theorem Tryz.laidOut : laidOutB Tryz.prog = true := by kernel_rfl

section
variable {H : Type} {enc : TypeId × Value → H} {P : Program}
theorem post_of_below {f : Func} {s : ChangeSpec} {apart fresh handsOn again : Bool} {W W' : World} {args : Array Value} {v : Value} {ds gs : List (DataW H)} {before pa pv : List MemPlace}
    (hW : DataW.Whole enc P f.params.toList s.vars apart W args.toList ds gs before)
    (hres : ∀ (b : Nat) (sp : Nat → Bool) (hd : Bool), DataW.TrodAll enc P W' b sp hd f.resultTypes.toList (v.resultList f.resultTypes.size) (s.fn H (ds ++ gs)).results [])
    (hargs : ∀ sp : Nat → Bool, (∀ p ∈ before, sp p.block = true) → DataW.TrodAll enc P W' 0 sp true f.params.toList args.toList (s.fn H (ds ++ gs)).args pa)
    (hvars : ∀ sp : Nat → Bool, (∀ p ∈ before, sp p.block = true) → DataW.TrodVars enc P W' sp s.vars (s.fn H (ds ++ gs)).vars pv)
    (hps : before = pa ++ pv) (hb : Below W.heap.size W W')
    (hok : ∀ (j : Nat) (t : TypeId) (r : Value), f.resultTypes[j]? = some t → (v.resultList f.resultTypes.size)[j]? = some r → Value.okWide P W' .any 0 t r) :
    s.post enc P f apart fresh handsOn again W args v W' := by
  have hlt : ∀ p ∈ before, p.block < W.heap.size := fun p hp => hW.lt p hp
  have hold : ∀ p ∈ before, (fun b => decide (b < W.heap.size)) p.block = true := fun p hp => by simpa using hlt p hp
  refine ⟨ds, gs, before, [], pa, pv, hW, hres _ _ _, hargs _ hold, hvars _ hold, World.keptBut_mono (fun p hp => ⟨hp, ?_⟩) (hb.frame (· ∈ before)), fun _ => ?_⟩
  · rw [hps, List.mem_append] at hp
    exact Or.inr hp
  · obtain ⟨_, _, _, _, _, hz, hn⟩ := hW
    refine ⟨hok, _, _, ([] ++ pa) ++ pv, ⟨[] ++ pa, pv, trodAll_append (hargs _ (fun _ _ => rfl)) (hres _ _ _), hvars _ (fun _ _ => rfl), rfl, ?_, ?_⟩, ?_⟩
    · intro b off hp
      have hin : MemPlace.cell b off ∈ before := by rw [hps]; simpa using hp
      rw [hb.frozen (hlt _ hin)]
      exact hz b off hin
    · intro ha
      have := hn ha
      rw [hps] at this
      simpa using this
    · intro p hp _
      rw [hps]
      simpa using hp
end

theorem trodAll_below {H : Type} {enc : TypeId × Value → H} {P : Program} (hl : laidOutB P = true) {W W' : World} (hb : Below W.heap.size W W') {sp : Nat → Bool} :
    ∀ (ts : List TypeId) (vs : List Value) (ds : List (DataW H)) (ps : List MemPlace), (∀ t ∈ ts, P.readableRec t = true ∧ t < P.types.size) → DataW.TrodAll enc P W 0 (fun _ => true) true ts vs ds ps → (∀ x ∈ ps, x.block < W.heap.size) → (∀ x ∈ ps, sp x.block = true) → DataW.TrodAll enc P W' 0 sp true ts vs ds ps
  | [], [], [], ps, _, h, _, _ => h
  | t :: ts, v :: vs, d :: ds, ps, hr, h, hlt, hsp => by
    obtain ⟨p, q, h1, h2, rfl⟩ := h
    obtain ⟨r1, r2⟩ := hr t (by simp)
    exact ⟨p, q, WideElems.Trod_stays hl r1 r2 h1 (fun x hx => hb.same (hlt x (by simp [hx]))) (fun x hx => hsp x (by simp [hx])), trodAll_below hl hb ts vs ds q (fun t ht => hr t (by simp [ht])) h2 (fun x hx => hlt x (by simp [hx])) (fun x hx => hsp x (by simp [hx])), rfl⟩
  | [], _ :: _, _, _, _, h, _, _ => by cases h
  | [], [], _ :: _, _, _, h, _, _ => by cases h
  | _ :: _, [], _, _, _, h, _, _ => by cases h
  | _ :: _, _ :: _, [], _, _, h, _, _ => by cases h

theorem trodAll_len {H : Type} {enc : TypeId × Value → H} {P : Program} {W : World} {b : Nat} {sp : Nat → Bool} {hd : Bool} : ∀ (ts : List TypeId) (vs : List Value) (ds : List (DataW H)) (ps : List MemPlace), DataW.TrodAll enc P W b sp hd ts vs ds ps → ds.length = ts.length
  | [], [], [], _, _ => rfl
  | _ :: ts, _ :: vs, _ :: ds, _, h => by obtain ⟨p, q, h1, h2, rfl⟩ := h; simp [trodAll_len ts vs ds q h2]
  | [], _ :: _, _, _, h => by cases h
  | [], [], _ :: _, _, h => by cases h
  | _ :: _, [], _, _, h => by cases h
  | _ :: _, _ :: _, [], _, h => by cases h

set_option maxRecDepth 100000 in
theorem law_lifted {F : FuncId} {fn : Func} {s : ChangeSpec} (os : Os) (started : os.Started) (H : Type) (enc : TypeId × Value → H)
    (hfn : Tryz.checked.prog.funcs[F]? = some fn) (noInit : Tryz.checked.prog.inits.idxOf? F = none)
    (witness : ∃ (w : World) (tape : Tape) (i : Input), w.os = os ∧ (w.forCall tape i).Shaped Tryz.checked.prog ∧ i.vars = [] ∧ Input.okWide Tryz.checked.prog (w.forCall tape i) .any w.heap.size F i ∧
      s.pre6 enc Tryz.checked.prog fn [] false (w.forCall tape i).memory i.args ∧ ({} : Assume).holds Tryz.checked.prog (lone (Frame.enter Tryz.checked.prog F i.args .normal) [] (w.forCall tape i)))
    (hs : s.vars = []) (hres : fn.resultTypes = #[4]) (hread : ∀ t ∈ fn.params.toList, Tryz.prog.readableRec t = true ∧ t < Tryz.prog.types.size)
    (hspec : ∀ ds : List (DataW H), ds.length = fn.params.toList.length → s.fn H ds = { results := [.lit (.bool true)], args := ds })
    (walk : ∀ (W : World) (args : Array Value) (ds : List (DataW H)) (p : List MemPlace), (∀ (j : Nat) t v, fn.params[j]? = some t → args[j]? = some v → ∃ base, Value.okWide Tryz.prog W .any base t v) →
      DataW.TrodAll enc Tryz.prog W 0 (fun _ => true) true fn.params.toList args.toList ds p → W.noneFrozen p → Calls Tryz.prog F args W fun e W' => e = .returned (.bool true) ∧ Below W.heap.size W W') :
    ReturnsInHanded {} Tryz.checked os F .any (s.pre6 enc Tryz.checked.prog fn [] false) (s.post enc Tryz.checked.prog fn false true false false) := by
  refine returnsInHanded_of_change (C := Tryz.checked) Tryz.own started noInit hfn witness ?_
  intro W base args ds gs before hval hW hcnd _
  have hW' := hW
  obtain ⟨p, q, hA, hV, hpq, hfz, hnd⟩ := hW
  rw [hs] at hV
  obtain ⟨rfl, rfl⟩ := trodVars_none hV
  rw [List.append_nil] at hpq
  subst hpq
  refine (walk W args ds _ (fun j t v h1 h2 => ⟨base, hval j t v h1 h2⟩) hA hfz).mono fun e W' ⟨he, hb⟩ => ?_
  subst he
  have hsp : s.fn H (ds ++ []) = { results := [.lit (.bool true)], args := ds } := by
    rw [List.append_nil]; exact hspec ds (trodAll_len _ _ _ _ hA)
  have hlt := fun x hx => hW'.lt x hx
  refine ⟨_, rfl, post_of_below (pa := before) (pv := []) hW' (fun b sp hd => ?_) (fun sp h => ?_) (fun sp h => ?_) (by simp) hb ?_⟩
  · rw [hsp, hres]; exact trodAll_mk1 (shut_bool Tryz.underlying4 _)
  · rw [hsp]; exact trodAll_below Tryz.laidOut hb _ _ _ _ hread hA hlt h
  · rw [hsp, hs]; rfl
  · rw [hres]; exact fun j t r h1 h2 => ok_one (f := fn) hres rfl (okWide_bool_mk Tryz.underlying4 _) j t r (by rw [hres]; exact h1) (by rw [hres]; exact h2)

end Go.Proofs.YthabmofkjdiccaaGreatDoor

namespace Go.Proofs.YthabmofkjdiccaaGreatDoor
open Go.RowKit Go.WideShapes Go.ChangeShapes Go.ChangeAt

set_option maxRecDepth 100000 in
theorem law_liftedS {F : FuncId} {fn : Func} {s : ChangeSpec} (os : Os) (started : os.Started) (H : Type) (enc : TypeId × Value → H)
    (hfn : Tryz.checked.prog.funcs[F]? = some fn) (noInit : Tryz.checked.prog.inits.idxOf? F = none)
    (witness : ∃ (w : World) (tape : Tape) (i : Input), w.os = os ∧ (w.forCall tape i).Shaped Tryz.checked.prog ∧ i.vars = [] ∧ Input.okWide Tryz.checked.prog (w.forCall tape i) .any w.heap.size F i ∧
      s.pre6 enc Tryz.checked.prog fn [] false (w.forCall tape i).memory i.args ∧ ({} : Assume).holds Tryz.checked.prog (lone (Frame.enter Tryz.checked.prog F i.args .normal) [] (w.forCall tape i)))
    (hs : s.vars = []) (hres : fn.resultTypes = #[4]) (hread : ∀ t ∈ fn.params.toList, Tryz.prog.readableRec t = true ∧ t < Tryz.prog.types.size)
    (hspec : ∀ ds : List (DataW H), ds.length = fn.params.toList.length → s.fn H ds = { results := [.lit (.bool true)], args := ds })
    (walk : ∀ (W : World) (args : Array Value) (ds : List (DataW H)) (p : List MemPlace), W.ShapedOpen Tryz.prog → (∀ (j : Nat) t v, fn.params[j]? = some t → args[j]? = some v → ∃ base, Value.okWide Tryz.prog W .any base t v) →
      DataW.TrodAll enc Tryz.prog W 0 (fun _ => true) true fn.params.toList args.toList ds p → W.noneFrozen p → Calls Tryz.prog F args W fun e W' => e = .returned (.bool true) ∧ Below W.heap.size W W') :
    ReturnsInHanded {} Tryz.checked os F .any (s.pre6 enc Tryz.checked.prog fn [] false) (s.post enc Tryz.checked.prog fn false true false false) := by
  refine returnsInHanded_of_change_shaped (C := Tryz.checked) Tryz.own started noInit hfn witness ?_
  intro W base args ds gs before hval hW hcnd _ hsh _
  have hW' := hW
  obtain ⟨p, q, hA, hV, hpq, hfz, hnd⟩ := hW
  rw [hs] at hV
  obtain ⟨rfl, rfl⟩ := trodVars_none hV
  rw [List.append_nil] at hpq
  subst hpq
  refine (walk W args ds _ hsh (fun j t v h1 h2 => ⟨base, hval j t v h1 h2⟩) hA hfz).mono fun e W' ⟨he, hb⟩ => ?_
  subst he
  have hsp : s.fn H (ds ++ []) = { results := [.lit (.bool true)], args := ds } := by
    rw [List.append_nil]; exact hspec ds (trodAll_len _ _ _ _ hA)
  have hlt := fun x hx => hW'.lt x hx
  refine ⟨_, rfl, post_of_below (pa := before) (pv := []) hW' (fun b sp hd => ?_) (fun sp h => ?_) (fun sp h => ?_) (by simp) hb ?_⟩
  · rw [hsp, hres]; exact trodAll_mk1 (shut_bool Tryz.underlying4 _)
  · rw [hsp]; exact trodAll_below Tryz.laidOut hb _ _ _ _ hread hA hlt h
  · rw [hsp, hs]; rfl
  · rw [hres]; exact fun j t r h1 h2 => ok_one (f := fn) hres rfl (okWide_bool_mk Tryz.underlying4 _) j t r (by rw [hres]; exact h1) (by rw [hres]; exact h2)

/-- A variable of the library's own holds some number. -/
theorem maxLen_cell {w : World} (h : w.ShapedOpen Tryz.prog) : ∃ m, w.cell? ⟨0, 0, none⟩ = some (.int .i64 m) :=
  Go.Proofs.cell_of_shapedOpen_int (zero := #[.int .i64 0]) (t := 3) h (of_decide_eq_true (by kernel_rfl)) (by kernel_rfl) rfl (by kernel_rfl) (by kernel_rfl) Tryz.underlying3
theorem cell_below {w w' : World} {a : Addr} {v : Value} (h : Below w.heap.size w w') (c : w.cell? a = some v) : w'.cell? a = some v := (h.cell (block_lt_of_cell c)).trans c
end Go.Proofs.YthabmofkjdiccaaGreatDoor

namespace Go.Proofs.YthabmofkjdiccaaGreatDoor
open Go.RowKit
set_option linter.unusedVariables false

def oneK (k : Nat) (b : ByteArray) : Bool := match rlF b with | some xs => decide (xs.length = k) | none => false
def numK (k : Nat) (b : ByteArray) : List Int := match rlF b with | some xs => if xs.length = k then xs else List.replicate k 0 | none => List.replicate k 0
theorem oneK_some {k : Nat} {b : ByteArray} {xs : List Int} (h : rlF b = some xs) : oneK k b = decide (xs.length = k) := by unfold oneK; rw [h]
theorem oneK_none {k : Nat} {b : ByteArray} (h : rlF b = none) : oneK k b = false := by unfold oneK; rw [h]
theorem numK_some {k : Nat} {b : ByteArray} {xs : List Int} (h : rlF b = some xs) (hl : xs.length = k) : numK k b = xs := by unfold numK; rw [h]; exact if_pos hl
theorem oneK_yes {k : Nat} {b : ByteArray} (h : oneK k b = true) : rlF b = some (numK k b) ∧ (numK k b).length = k := by
  cases hr : rlF b with
  | none => rw [oneK_none hr] at h; cases h
  | some xs =>
    rw [oneK_some hr] at h
    have hl : xs.length = k := of_decide_eq_true h
    rw [numK_some hr hl]
    exact ⟨rfl, hl⟩
theorem oneK_no {k : Nat} {b : ByteArray} (h : oneK k b = false) : numK k b = List.replicate k 0 := by
  cases hr : rlF b with
  | none => unfold numK; rw [hr]
  | some xs =>
    rw [oneK_some hr] at h
    have hl : ¬ xs.length = k := of_decide_eq_false h
    unfold numK; rw [hr]; exact if_neg hl
theorem numK_len (k : Nat) (b : ByteArray) : (numK k b).length = k := by
  cases h : oneK k b
  · rw [oneK_no h]; simp
  · exact (oneK_yes h).2
theorem numK_ok {k : Nat} {b : ByteArray} : ∀ x ∈ numK k b, fInt.ok x := by
  cases h : oneK k b
  · rw [oneK_no h]; intro x hx
    have := List.eq_of_mem_replicate hx
    subst this; show _ ∧ _; simp
  · have h1 := (rlF_text (oneK_yes h).1).1
    intro x hx
    unfold fitsL at h1
    simp only [Bool.and_eq_true] at h1
    have := inB_true.1 (List.all_eq_true.1 h1.2 x hx)
    show _ ∧ _
    omega
theorem name_noblank {x : ByteArray} (h : nameB x = true) : ∀ b ∈ x.data.toList, b ≠ 32 := by
  intro b hb e
  subst e
  unfold nameB at h
  simp only [Bool.and_eq_true] at h
  have ha : allNm x.data.toList = true := by first | exact h.2 | exact h.1.2 | exact h.1.1.2 | exact h.1.1.1
  unfold allNm at ha
  have := List.all_eq_true.1 ha 32 hb
  revert this; decide
theorem joinX_bytes : ∀ (L : List (List UInt8)), (∀ x ∈ L, ∀ b ∈ x, b ≠ 32) → ∀ b ∈ joinX L, b ≠ 32
  | [], _, b, hb => by simp [joinX] at hb
  | x :: r, h, b, hb => by
    unfold joinX at hb
    rw [List.mem_append, List.mem_flatMap] at hb
    rcases hb with hb | ⟨y, hy, hb⟩
    · exact h x (by simp) b hb
    · rcases List.mem_cons.1 hb with rfl | hb
      · decide
      · exact h y (by simp [hy]) b hb
theorem listS_noblank (xs : List Int) : ∀ b ∈ (listS xs).data.toList, b ≠ 32 := by
  by_cases h : xs = []
  · subst h; intro b hb; have : b = 45 := by simpa [listS] using hb
    subst this; decide
  · rw [listS_data h]
    exact joinX_bytes _ (fun y hy b hb => by obtain ⟨v, _, rfl⟩ := List.mem_map.1 hy; exact (itoa_bytes v b hb).2)
/-- A list of numbers that was read has the text that it was read from. -/
theorem numK_text {k : Nat} {b : ByteArray} (h : oneK k b = true) : listT (numK k b) = b ∧ ∀ y ∈ b.data.toList, y ≠ 32 := by
  obtain ⟨h1, h2⟩ := rlF_text (oneK_yes h).1
  have e : listT (numK k b) = b := by unfold listT; rw [if_pos h1, h2]
  exact ⟨e, fun y hy => listS_noblank (numK k b) y (by rw [h2]; exact hy)⟩
theorem ixL_split (c : UInt8) : ∀ l : List UInt8, ixL c l < l.length → l = l.take (ixL c l) ++ c :: l.drop (ixL c l + 1) ∧ ∀ b ∈ l.take (ixL c l), b ≠ c
  | [], h => by simp at h
  | b :: l, h => by
    rw [ixL_cons] at h ⊢
    by_cases e : b = c
    · rw [if_pos e]; subst e; exact ⟨rfl, by simp⟩
    · rw [if_neg e] at h ⊢
      obtain ⟨h1, h2⟩ := ixL_split c l (by simpa using h)
      refine ⟨?_, ?_⟩
      · rw [List.take_succ_cons, List.drop_succ_cons, List.cons_append, ← h1]
      · intro x hx
        rw [List.take_succ_cons] at hx
        rcases List.mem_cons.1 hx with rfl | hx
        · exact e
        · exact h2 x hx
theorem ixL_free (c : UInt8) : ∀ l : List UInt8, ¬ ixL c l < l.length → ∀ b ∈ l, b ≠ c
  | [], _ => by simp
  | b :: l, h => by
    rw [ixL_cons] at h
    by_cases e : b = c
    · rw [if_pos e] at h; simp at h
    · rw [if_neg e] at h
      intro x hx
      rcases List.mem_cons.1 hx with rfl | hx
      · exact e
      · exact ixL_free c l (by simpa using h) x hx
theorem cut_cases (l : List UInt8) : ((∀ b ∈ l, b ≠ 32) ∧ Lib.cut l [32] = (l, [], false)) ∨ ∃ x y, l = x ++ 32 :: y ∧ (∀ b ∈ x, b ≠ 32) ∧ Lib.cut l [32] = (x, y, true) := by
  have hi := ixL_index 32 l
  by_cases h : ixL 32 l < l.length
  · obtain ⟨h1, h2⟩ := ixL_split 32 l h
    refine .inr ⟨_, _, h1, h2, ?_⟩
    rw [if_pos h] at hi
    unfold Lib.cut
    rw [hi, if_pos (by omega)]
    rfl
  · refine .inl ⟨ixL_free 32 l h, ?_⟩
    rw [if_neg h] at hi
    unfold Lib.cut
    rw [hi, if_neg (by omega)]
def cA (s : ByteArray) : ByteArray := ⟨(Lib.cut s.data.toList [32]).1.toArray⟩
def cZ (s : ByteArray) : ByteArray := ⟨(Lib.cut s.data.toList [32]).2.1.toArray⟩
theorem cAZ_size (s : ByteArray) : (cA s).size ≤ s.size ∧ (cZ s).size ≤ s.size := by
  have hl : s.data.toList.length = s.size := by simp
  have e1 : (cA s).size = (Lib.cut s.data.toList [32]).1.length := mkL_size _
  have e2 : (cZ s).size = (Lib.cut s.data.toList [32]).2.1.length := mkL_size _
  rw [e1, e2]
  rcases cut_cases s.data.toList with ⟨_, h⟩ | ⟨x, y, hxy, _, h⟩
  · rw [h, ← hl]; exact ⟨Nat.le_refl _, Nat.zero_le _⟩
  · rw [h]
    have := congrArg List.length hxy
    rw [hl, List.length_append, List.length_cons] at this
    show x.length ≤ _ ∧ y.length ≤ _
    omega
/-- A name and a list of numbers behind the first blank. -/
theorem words_of {s : ByteArray} {k : Nat} (h : oneK k (cZ s) = true) : splS 32 s = [cA s, cZ s] ∧ cA s ++ ⟨#[32]⟩ ++ cZ s = s := by
  rcases cut_cases s.data.toList with ⟨_, hc⟩ | ⟨x, y, hxy, hx, hc⟩
  · exfalso
    have : cZ s = ⟨#[]⟩ := by unfold cZ; rw [hc]
    rw [this] at h
    rw [oneK_none (show rlF ⟨#[]⟩ = none from rfl)] at h
    cases h
  · have hA : (cA s).data.toList = x := by unfold cA; rw [hc]
    have hZ : (cZ s).data.toList = y := by unfold cZ; rw [hc]
    have hy := (numK_text h).2
    rw [hZ] at hy
    constructor
    · refine (splS_of ?_).symm
      rw [List.map_cons, List.map_cons, List.map_nil, hA, hZ, hxy, splL_app 32 x y hx, splL_none hy]
    · refine data_inj ?_
      rw [Go.Joins.data_append, Go.Joins.data_append, hA, hZ, hxy]; simp
theorem words_back {s a b : ByteArray} (h : splS 32 s = [a, b]) : cA s = a ∧ cZ s = b := by
  have hd := splS_data 32 s
  rw [h] at hd
  rcases cut_cases s.data.toList with ⟨hn, hc⟩ | ⟨x, y, hxy, hx, hc⟩
  · rw [splL_none hn] at hd; exact absurd (congrArg List.length hd) (by simp)
  · rw [hxy, splL_app 32 x y hx, List.map_cons, List.map_cons, List.map_nil] at hd
    obtain ⟨h1, h2⟩ := List.cons.inj hd
    have h3 := splL_join 32 y [] b.data.toList h2.symm
    have hA : (cA s).data.toList = x := by unfold cA; rw [hc]
    have hZ : (cZ s).data.toList = y := by unfold cZ; rw [hc]
    exact ⟨data_inj (by rw [hA, h1]), data_inj (by rw [hZ, ← h3]; simp)⟩
theorem words_few {s : ByteArray} {k : Nat} (h : ¬ (splS 32 s).length = 2) : oneK k (cZ s) = false := by
  cases hk : oneK k (cZ s) with
  | false => rfl
  | true => rw [(words_of hk).1] at h; exact absurd rfl h
theorem words4 {s a b c d : ByteArray} (h : splS 32 s = [a, b, c, d]) : a ++ ⟨#[32]⟩ ++ b ++ ⟨#[32]⟩ ++ c ++ ⟨#[32]⟩ ++ d = s := by
  have hd := splS_data 32 s
  rw [h] at hd
  have hj := splL_join 32 s.data.toList [a.data.toList, b.data.toList, c.data.toList] d.data.toList hd.symm
  refine data_inj ?_
  rw [Go.Joins.data_append, Go.Joins.data_append, Go.Joins.data_append, Go.Joins.data_append, Go.Joins.data_append, Go.Joins.data_append, ← hj]; simp
theorem made2 (v : Value) : madeCells #[v] 2 = #[v, v] := by
  unfold madeCells
  rw [show Array.range 2 = #[0, 1] from by decide]
  simp [Nat.mod_one]
theorem made3R (v : Value) : madeCells #[v] 3 = #[v, v, v] := by
  unfold madeCells
  rw [show Array.range 3 = #[0, 1, 2] from by decide]
  simp [Nat.mod_one]
theorem splitN_any (s : ByteArray) (c : UInt8) (m : Int) (w : World) (hs : s.size ≤ 1048576) (hm : w.cell? ⟨0, 0, none⟩ = some (.int .i64 m)) :
    Calls Tryz.prog 72 #[.string s, .string ⟨#[c]⟩] w fun e w' => OwnRT fStr 9 w (splS c s) e w' := by
  refine (Tryz.strings_Split s ⟨#[c]⟩ m w (by omega) hm (Nat.le_refl 1)).mono ?_
  rintro e w' ⟨rfl, rfl⟩
  have hl := Lib.splitB_all ⟨#[c]⟩ (Nat.le_refl 1) 0 _ s rfl
  rw [splS_split] at hl ⊢
  rw [← hl]
  have hb0 : Below w.heap.size w (w.alloc (.cells ((splS c s).map Value.string).toArray 9)) := (Below.refl _ _).alloc (Nat.le_refl _) _
  refine ⟨_, rfl, ?_, hb0⟩
  have hll : (splS c s).length ≤ s.size + 1 := by
    have h1 := Lib.countB_le ⟨#[c]⟩ (Nat.le_refl 1) s.size s (Nat.le_refl _)
    omega
  have h := World.ownsRow_lit (e := 9) (size := 1) (base := w.heap.size) w ((splS c s).map Value.string).toArray (splS c s).length (Nat.le_refl _) (by unfold maxLen; omega) (by simp)
  have e1 : (splS c s).map Value.string = (splS c s).flatMap fStr.enc := by
    generalize splS c s = L
    induction L with
    | nil => rfl
    | cons x L ih => rw [List.map_cons, List.flatMap_cons, ih]; rfl
  rw [show ((splS c s).map Value.string).toArray.toList = (splS c s).flatMap fStr.enc from by simpa using e1] at h
  exact h
theorem New.drewR {α : Type} {E : Cod α} {w w' : World} {v : Value} {xs : List α} (h : New E w v xs w') : New E w v xs w'.drew := by
  obtain ⟨⟨fp, h1, h2, h3⟩, hb⟩ := h
  exact ⟨⟨fp, h1.below' (Below.drew (Below.refl _ _)), h2, h3⟩, Below.drew hb⟩
def wiA (s : ByteArray) : ByteArray := if oneK 2 (cZ s) then cA s else ⟨#[]⟩
set_option maxRecDepth 100000 in
set_option maxHeartbeats 4000000 in
theorem readWithId_any (s : ByteArray) (m : Int) (w : World) (hs : s.size ≤ 1048576) (hm : w.cell? ⟨0, 0, none⟩ = some (.int .i64 m)) (ht : RdTabs w) :
    Calls Tryz.prog 55 #[.string s, .int .i64 2] w fun e w' => ∃ v, e = .returned (.tuple #[.string (wiA s), v, .bool (oneK 2 (cZ s))]) ∧ New fInt.cod w v (numK 2 (cZ s)) w' := by
  obtain ⟨i0, hi, hz0, hz1, hz2⟩ := info_parts infoIntR
  have hmk : ∀ W : World, (Instr.makeSlice 30 (.int .i64 2) (.int .i64 2)).run Tryz.prog W = .ok (.slice (some ⟨W.heap.size, 0, none⟩) 2 2) (W.alloc (.cells (madeCells (Value.int .i64 0).cells (2 * i0.size)) 2)) := fun W => run_make_rowN (P := Tryz.prog) 30 2 i0 _ Tryz.underlying30 hi hz0 .i64 .i64 2 2 (Nat.le_refl _) (by rw [hz2]; decide) (by decide) W
  rw [hz1] at hmk
  have hzero : ∀ W : World, Own fInt (W.alloc (.cells (madeCells #[Value.int .i64 0] 2) 2)) W.heap.size 2 (.slice (some ⟨W.heap.size, 0, none⟩) 2 2) [0, 0] := fun W => by
    rw [made2]
    exact World.ownsRow_lit (e := 2) (size := 1) W #[Value.int .i64 0, .int .i64 0] 2 (Nat.le_refl _) (by decide) rfl
  have hsz := (cAZ_size s).2
  have hsA := (cAZ_size s).1
  have hcut : Calls Tryz.prog 88 #[.string s, .string ⟨#[32]⟩] w fun e w' => e = .returned (.tuple #[.string (cA s), .string (cZ s), .bool (Lib.cut s.data.toList [32]).2.2]) ∧ ∃ n, w' = w.drewN n := Tryz.strings_Cut s ⟨#[32]⟩ m w (by omega) hm
  have hWA : wiA s = if oneK 2 (cZ s) then cA s else ⟨#[]⟩ := rfl
  generalize (Lib.cut s.data.toList [32]).2.2 = fnd at *
  generalize cA s = sa at *
  generalize cZ s = sz at *
  generalize wiA s = ra at *
  go_enter Tryz.func55, Tryz.ntmps55
  go_wp2_with fail
  refine hcut.mono ?_
  rintro e w' ⟨rfl, n, rfl⟩
  have hW : Below w.heap.size w (w.drewN n) := below_drewN (Below.refl _ _) _
  generalize hwn : w.drewN n = wn at *
  go_wp2_with fail
  refine (implReadList_any sz m _ (by omega) (cell_below hW hm) (ht.below hW)).mono ?_
  rintro e w1 ⟨v1, rfl, hn1⟩
  have hb1 := hW.trans (hn1.below.mono hW.size)
  have hn1' := hn1.later hW
  have HFAIL : Hid (oneK 2 sz = false → ∃ v, Ending.returned (.tuple #[.string ⟨#[]⟩, .slice (some ⟨w1.heap.size, 0, none⟩) 2 2, .bool false]) = .returned (.tuple #[.string ra, v, .bool (oneK 2 sz)]) ∧ New fInt.cod w v (numK 2 sz) (w1.alloc (.cells (madeCells #[Value.int .i64 0] 2) 2)).drew) := fun h => by
    refine ⟨_, by rw [hWA, h]; rfl, ?_⟩
    rw [oneK_no h]
    exact (((hzero w1).new ((Below.refl _ _).alloc (Nat.le_refl _) _) (by intro x hx; simp at hx; subst hx; show _ ∧ _; simp)).later hb1).drewR
  clear hzero
  cases hr : rlF sz with
  | none =>
    have h1 := oneK_none (k := 2) hr
    rw [show (none : Option (List Int)).isSome = false from rfl]
    clear hn1 hn1' hr hWA
    go_wp2
    refine wp_region_mixed [0, 2, 1, 3, 4] (C := fun w' => ∃ p : Regrown, w' = Go.Sort.grow (redrawn w1 p.d) p.os) [true, true, false, true, true] (by kernel_rfl) (by kernel_rfl) (by kernel_rfl) (fun _ _ d _ _ h => by cases d <;> exact h) (regrown_of_below (Below.drew (Below.refl _ _))) ?_
    simp only [List.map_cons, List.map_nil, List.getD_cons_zero, List.getD_cons_succ]
    have hS0 : Below (w1.heap.size) w1 w1.drew := Below.drew (Below.refl _ _)
    refine wpMix_pure (by kernel_rfl) (fun K hK => ?_); go_big_quiet_op; refine hK _ ?_; clear hK K
    refine wpMix_pure (by kernel_rfl) (fun K hK => ?_); go_big_quiet_op; refine hK _ ?_; clear hK K
    refine wpMix_act (by kernel_rfl) (fun K hK => ?_)
    go_big_op
    refine hK _ _ (regrown_of_below (by first | exact hS0.alloc hS0.size _ | exact Below.drew ((Below.refl _ _).alloc (Nat.le_refl _) _) | exact (Below.drew (Below.refl _ _)).alloc (Nat.le_refl _) _)) ?_
    clear hK K
    refine wpMix_pure (by kernel_rfl) (fun K hK => ?_); go_big_quiet_op; refine hK _ ?_; clear hK K
    refine wpMix_pure (by kernel_rfl) (fun K hK => ?_); go_big_quiet_op; refine hK _ ?_; clear hK K
    refine wpMix_nil ?_
    have HQ := Lib.hid (HFAIL.out h1)
    clear h1 hS0
    go_wp2
    go_ret3
    exact HQ.out
  | some xs =>
    have h1 := oneK_some (k := 2) hr
    rw [show (some xs : Option (List Int)).isSome = true from rfl]
    rw [hr] at hn1'
    have hn2 : New fInt.cod w v1 xs w1 := hn1'
    obtain ⟨⟨fpy, hsy, _, _⟩, _⟩ := id hn2
    obtain ⟨A, cap, rfl, _, _⟩ := hsy.form
    clear hn1 hn1' hsy
    by_cases h2 : xs.length = 2
    · rw [decide_eq_true h2] at h1
      have HN := Lib.hid (numK_some hr h2)
      have hn3 : New fInt.cod w (.slice A 2 cap) xs w1 := by rw [← h2]; exact hn2
      have HA : Hid (ra = sa) := by show _ = _; rw [hWA, h1]; rfl
      have H1 := Lib.hid h1
      have e5 : ((xs.length : Int) == 2) = true := by rw [beq_iff_eq]; omega
      have e6 : ((xs.length : Int) != 2) = false := by unfold bne; rw [e5]; rfl
      clear hr h1 hWA
      go_wp2
      go_ret3
      exact ⟨_, by rw [H1.out, HA.out]; rfl, by rw [HN.out]; exact hn3⟩
    · rw [decide_eq_false h2] at h1
      have e5 : ((xs.length : Int) == 2) = false := by rw [beq_eq_false_iff_ne]; omega
      have e6 : ((xs.length : Int) != 2) = true := by unfold bne; rw [e5]; rfl
      clear hr hn2 hWA
      go_wp2
      refine wp_region_mixed [0, 2, 1, 3, 4] (C := fun w' => ∃ p : Regrown, w' = Go.Sort.grow (redrawn w1 p.d) p.os) [true, true, false, true, true] (by kernel_rfl) (by kernel_rfl) (by kernel_rfl) (fun _ _ d _ _ h => by cases d <;> exact h) (regrown_of_below (Below.drew (Below.refl _ _))) ?_
      simp only [List.map_cons, List.map_nil, List.getD_cons_zero, List.getD_cons_succ]
      have hS0 : Below (w1.heap.size) w1 w1.drew := Below.drew (Below.refl _ _)
      refine wpMix_pure (by kernel_rfl) (fun K hK => ?_); go_big_quiet_op; refine hK _ ?_; clear hK K
      refine wpMix_pure (by kernel_rfl) (fun K hK => ?_); go_big_quiet_op; refine hK _ ?_; clear hK K
      refine wpMix_act (by kernel_rfl) (fun K hK => ?_)
      go_big_op
      refine hK _ _ (regrown_of_below (by first | exact hS0.alloc hS0.size _ | exact Below.drew ((Below.refl _ _).alloc (Nat.le_refl _) _) | exact (Below.drew (Below.refl _ _)).alloc (Nat.le_refl _) _)) ?_
      clear hK K
      refine wpMix_pure (by kernel_rfl) (fun K hK => ?_); go_big_quiet_op; refine hK _ ?_; clear hK K
      refine wpMix_pure (by kernel_rfl) (fun K hK => ?_); go_big_quiet_op; refine hK _ ?_; clear hK K
      refine wpMix_nil ?_
      have HQ := Lib.hid (HFAIL.out h1)
      clear h1 hS0
      go_wp2
      go_ret3
      exact HQ.out

end Go.Proofs.YthabmofkjdiccaaGreatDoor

namespace Go.Proofs.YthabmofkjdiccaaGreatDoor
open Go.RowKit
set_option linter.unusedVariables false

structure DVerified where
  day : Int
  told : Int
  seen : Int
  deriving DecidableEq

def fVerified : Flat DVerified where
  n := 3
  enc := fun x => [.int .i64 x.day, .int .i64 x.told, .int .i64 x.seen]
  ok := fun x => fInt.ok x.day ∧ fInt.ok x.told ∧ fInt.ok x.seen
  pos := by omega
  len := fun _ => rfl
  one := by intro x v hv; simp at hv; rcases hv with rfl | rfl | rfl <;> rfl

def totVerifiedS (xs : List DVerified) : Nat := xs.length





def mkVerified (k : Int) : DVerified := ⟨k, k + 1, k + 1 + 1⟩
def marksVerified (k : Int) (n : Nat) : List DVerified := (List.range n).map fun (i : Nat) => mkVerified (k + 3 * (i : Int))

theorem marksVerified_get (k0 : Int) (n i : Nat) (h : i < (marksVerified k0 n).length) : (marksVerified k0 n)[i] = mkVerified (k0 + 3 * (i : Int)) := by
  simp [marksVerified]
theorem marksVerified_len (k0 : Int) (n : Nat) : (marksVerified k0 n).length = n := by simp [marksVerified]



end Go.Proofs.YthabmofkjdiccaaGreatDoor

namespace Go.Proofs.YthabmofkjdiccaaGreatDoor
open Go.RowKit
set_option linter.unusedVariables false

/-- A pointer to a Verified that lies somewhere. -/
structure PVerified (w : World) (pb po : Nat) (x : DVerified) : Prop where
  c0 : w.cell? ⟨pb, po, none⟩ = some (.int .i64 x.day)
  c1 : w.cell? ⟨pb, po + 1, none⟩ = some (.int .i64 x.told)
  c2 : w.cell? ⟨pb, po + 2, none⟩ = some (.int .i64 x.seen)
theorem PVerified.below {w w' : World} {pb po : Nat} {x : DVerified} {B : Nat} (h : PVerified w pb po x) (hb : Below B w w') (hB : pb < B) : PVerified w' pb po x :=
  ⟨(hb.cell (p := ⟨pb, _, none⟩) hB).trans h.c0, (hb.cell (p := ⟨pb, _, none⟩) hB).trans h.c1, (hb.cell (p := ⟨pb, _, none⟩) hB).trans h.c2⟩
theorem PVerified.drewN {w : World} {pb po : Nat} {x : DVerified} (h : PVerified w pb po x) (n : Nat) : PVerified (w.drewN n) pb po x :=
  ⟨h.c0, h.c1, h.c2⟩
theorem PVerified.lt {w : World} {pb po : Nat} {x : DVerified} (h : PVerified w pb po x) : pb < w.heap.size := block_lt_of_cell h.c0
theorem PVerified.below' {w w' : World} {pb po : Nat} {x : DVerified} (h : PVerified w pb po x) (hb : Below w.heap.size w w') : PVerified w' pb po x := h.below hb h.lt
theorem PVerified.box (w : World) (x : DVerified) (T : TypeId) : PVerified (w.alloc (.cells #[.int .i64 x.day, .int .i64 x.told, .int .i64 x.seen] T)) w.heap.size 0 x := by
  constructor <;> simp
theorem PVerified.elem {w : World} {A : Option Addr} {len cap : Nat} {xs : List DVerified} {fp : List Nat} (h : Sl fVerified.cod w (.slice A len cap) xs fp) {k : Nat} (hk : k < xs.length) :
    ∃ b off, A = some ⟨b, off, none⟩ ∧ b ∈ fp ∧ fVerified.ok xs[k] ∧ PVerified w b (off + k * 3) xs[k] := by
  obtain ⟨b, off, hA, hm, hok, hc, _⟩ := h.at_ hk
  exact ⟨b, off, hA, hm, hok, ⟨hc 0 (by decide), hc 1 (by decide), hc 2 (by decide)⟩⟩
end Go.Proofs.YthabmofkjdiccaaGreatDoor

namespace Go.Proofs.YthabmofkjdiccaaGreatDoor
open Go.RowKit
set_option linter.unusedVariables false

structure DObserved where
  hour : Int
  snow : Int
  degrees : Int
  wind : Int
  deriving DecidableEq

def fObserved : Flat DObserved where
  n := 4
  enc := fun x => [.int .i64 x.hour, .int .i64 x.snow, .int .i64 x.degrees, .int .i64 x.wind]
  ok := fun x => fInt.ok x.hour ∧ fInt.ok x.snow ∧ fInt.ok x.degrees ∧ fInt.ok x.wind
  pos := by omega
  len := fun _ => rfl
  one := by intro x v hv; simp at hv; rcases hv with rfl | rfl | rfl | rfl <;> rfl

def totObservedS (xs : List DObserved) : Nat := xs.length





def mkObserved (k : Int) : DObserved := ⟨k, k + 1, k + 1 + 1, k + 1 + 1 + 1⟩
def marksObserved (k : Int) (n : Nat) : List DObserved := (List.range n).map fun (i : Nat) => mkObserved (k + 4 * (i : Int))

theorem marksObserved_get (k0 : Int) (n i : Nat) (h : i < (marksObserved k0 n).length) : (marksObserved k0 n)[i] = mkObserved (k0 + 4 * (i : Int)) := by
  simp [marksObserved]
theorem marksObserved_len (k0 : Int) (n : Nat) : (marksObserved k0 n).length = n := by simp [marksObserved]



end Go.Proofs.YthabmofkjdiccaaGreatDoor

namespace Go.Proofs.YthabmofkjdiccaaGreatDoor
open Go.RowKit
set_option linter.unusedVariables false

/-- A pointer to a Observed that lies somewhere. -/
structure PObserved (w : World) (pb po : Nat) (x : DObserved) : Prop where
  c0 : w.cell? ⟨pb, po, none⟩ = some (.int .i64 x.hour)
  c1 : w.cell? ⟨pb, po + 1, none⟩ = some (.int .i64 x.snow)
  c2 : w.cell? ⟨pb, po + 2, none⟩ = some (.int .i64 x.degrees)
  c3 : w.cell? ⟨pb, po + 3, none⟩ = some (.int .i64 x.wind)
theorem PObserved.below {w w' : World} {pb po : Nat} {x : DObserved} {B : Nat} (h : PObserved w pb po x) (hb : Below B w w') (hB : pb < B) : PObserved w' pb po x :=
  ⟨(hb.cell (p := ⟨pb, _, none⟩) hB).trans h.c0, (hb.cell (p := ⟨pb, _, none⟩) hB).trans h.c1, (hb.cell (p := ⟨pb, _, none⟩) hB).trans h.c2, (hb.cell (p := ⟨pb, _, none⟩) hB).trans h.c3⟩
theorem PObserved.drewN {w : World} {pb po : Nat} {x : DObserved} (h : PObserved w pb po x) (n : Nat) : PObserved (w.drewN n) pb po x :=
  ⟨h.c0, h.c1, h.c2, h.c3⟩
theorem PObserved.lt {w : World} {pb po : Nat} {x : DObserved} (h : PObserved w pb po x) : pb < w.heap.size := block_lt_of_cell h.c0
theorem PObserved.below' {w w' : World} {pb po : Nat} {x : DObserved} (h : PObserved w pb po x) (hb : Below w.heap.size w w') : PObserved w' pb po x := h.below hb h.lt
theorem PObserved.box (w : World) (x : DObserved) (T : TypeId) : PObserved (w.alloc (.cells #[.int .i64 x.hour, .int .i64 x.snow, .int .i64 x.degrees, .int .i64 x.wind] T)) w.heap.size 0 x := by
  constructor <;> simp
theorem PObserved.elem {w : World} {A : Option Addr} {len cap : Nat} {xs : List DObserved} {fp : List Nat} (h : Sl fObserved.cod w (.slice A len cap) xs fp) {k : Nat} (hk : k < xs.length) :
    ∃ b off, A = some ⟨b, off, none⟩ ∧ b ∈ fp ∧ fObserved.ok xs[k] ∧ PObserved w b (off + k * 4) xs[k] := by
  obtain ⟨b, off, hA, hm, hok, hc, _⟩ := h.at_ hk
  exact ⟨b, off, hA, hm, hok, ⟨hc 0 (by decide), hc 1 (by decide), hc 2 (by decide), hc 3 (by decide)⟩⟩
end Go.Proofs.YthabmofkjdiccaaGreatDoor

namespace Go.Proofs.YthabmofkjdiccaaGreatDoor
open Go.RowKit
set_option linter.unusedVariables false

structure DTest where
  kind : Int
  score : Int
  quality : Int
  depth : Int
  hour : Int
  deriving DecidableEq

def fTest : Flat DTest where
  n := 5
  enc := fun x => [.int .i64 x.kind, .int .i64 x.score, .int .i64 x.quality, .int .i64 x.depth, .int .i64 x.hour]
  ok := fun x => fInt.ok x.kind ∧ fInt.ok x.score ∧ fInt.ok x.quality ∧ fInt.ok x.depth ∧ fInt.ok x.hour
  pos := by omega
  len := fun _ => rfl
  one := by intro x v hv; simp at hv; rcases hv with rfl | rfl | rfl | rfl | rfl <;> rfl

def totTestS (xs : List DTest) : Nat := xs.length





def mkTest (k : Int) : DTest := ⟨k, k + 1, k + 1 + 1, k + 1 + 1 + 1, k + 1 + 1 + 1 + 1⟩
def marksTest (k : Int) (n : Nat) : List DTest := (List.range n).map fun (i : Nat) => mkTest (k + 5 * (i : Int))

theorem marksTest_get (k0 : Int) (n i : Nat) (h : i < (marksTest k0 n).length) : (marksTest k0 n)[i] = mkTest (k0 + 5 * (i : Int)) := by
  simp [marksTest]
theorem marksTest_len (k0 : Int) (n : Nat) : (marksTest k0 n).length = n := by simp [marksTest]



end Go.Proofs.YthabmofkjdiccaaGreatDoor

namespace Go.Proofs.YthabmofkjdiccaaGreatDoor
open Go.RowKit
set_option linter.unusedVariables false

/-- A pointer to a Test that lies somewhere. -/
structure PTest (w : World) (pb po : Nat) (x : DTest) : Prop where
  c0 : w.cell? ⟨pb, po, none⟩ = some (.int .i64 x.kind)
  c1 : w.cell? ⟨pb, po + 1, none⟩ = some (.int .i64 x.score)
  c2 : w.cell? ⟨pb, po + 2, none⟩ = some (.int .i64 x.quality)
  c3 : w.cell? ⟨pb, po + 3, none⟩ = some (.int .i64 x.depth)
  c4 : w.cell? ⟨pb, po + 4, none⟩ = some (.int .i64 x.hour)
theorem PTest.below {w w' : World} {pb po : Nat} {x : DTest} {B : Nat} (h : PTest w pb po x) (hb : Below B w w') (hB : pb < B) : PTest w' pb po x :=
  ⟨(hb.cell (p := ⟨pb, _, none⟩) hB).trans h.c0, (hb.cell (p := ⟨pb, _, none⟩) hB).trans h.c1, (hb.cell (p := ⟨pb, _, none⟩) hB).trans h.c2, (hb.cell (p := ⟨pb, _, none⟩) hB).trans h.c3, (hb.cell (p := ⟨pb, _, none⟩) hB).trans h.c4⟩
theorem PTest.drewN {w : World} {pb po : Nat} {x : DTest} (h : PTest w pb po x) (n : Nat) : PTest (w.drewN n) pb po x :=
  ⟨h.c0, h.c1, h.c2, h.c3, h.c4⟩
theorem PTest.lt {w : World} {pb po : Nat} {x : DTest} (h : PTest w pb po x) : pb < w.heap.size := block_lt_of_cell h.c0
theorem PTest.below' {w w' : World} {pb po : Nat} {x : DTest} (h : PTest w pb po x) (hb : Below w.heap.size w w') : PTest w' pb po x := h.below hb h.lt
theorem PTest.box (w : World) (x : DTest) (T : TypeId) : PTest (w.alloc (.cells #[.int .i64 x.kind, .int .i64 x.score, .int .i64 x.quality, .int .i64 x.depth, .int .i64 x.hour] T)) w.heap.size 0 x := by
  constructor <;> simp
theorem PTest.elem {w : World} {A : Option Addr} {len cap : Nat} {xs : List DTest} {fp : List Nat} (h : Sl fTest.cod w (.slice A len cap) xs fp) {k : Nat} (hk : k < xs.length) :
    ∃ b off, A = some ⟨b, off, none⟩ ∧ b ∈ fp ∧ fTest.ok xs[k] ∧ PTest w b (off + k * 5) xs[k] := by
  obtain ⟨b, off, hA, hm, hok, hc, _⟩ := h.at_ hk
  exact ⟨b, off, hA, hm, hok, ⟨hc 0 (by decide), hc 1 (by decide), hc 2 (by decide), hc 3 (by decide), hc 4 (by decide)⟩⟩
end Go.Proofs.YthabmofkjdiccaaGreatDoor

namespace Go.Proofs.YthabmofkjdiccaaGreatDoor
open Go.RowKit
set_option linter.unusedVariables false

structure DStand where
  id : ByteArray
  trees : Int
  height : Int
  cover : Int
  gap : Int
  deriving DecidableEq

def fStand : Flat DStand where
  n := 5
  enc := fun x => [.string x.id, .int .i64 x.trees, .int .i64 x.height, .int .i64 x.cover, .int .i64 x.gap]
  ok := fun x => fStr.ok x.id ∧ fInt.ok x.trees ∧ fInt.ok x.height ∧ fInt.ok x.cover ∧ fInt.ok x.gap
  pos := by omega
  len := fun _ => rfl
  one := by intro x v hv; simp at hv; rcases hv with rfl | rfl | rfl | rfl | rfl <;> rfl

def totStand (x : DStand) : Nat := x.id.size
def totStandS (xs : List DStand) : Nat := xs.length + (xs.map totStand).sum






def mkStand (k : Int) : DStand := ⟨mt (k), k + 1, k + 1 + 1, k + 1 + 1 + 1, k + 1 + 1 + 1 + 1⟩
def marksStand (k : Int) (n : Nat) : List DStand := (List.range n).map fun (i : Nat) => mkStand (k + 5 * (i : Int))

theorem marksStand_get (k0 : Int) (n i : Nat) (h : i < (marksStand k0 n).length) : (marksStand k0 n)[i] = mkStand (k0 + 5 * (i : Int)) := by
  simp [marksStand]
theorem marksStand_len (k0 : Int) (n : Nat) : (marksStand k0 n).length = n := by simp [marksStand]



end Go.Proofs.YthabmofkjdiccaaGreatDoor

namespace Go.Proofs.YthabmofkjdiccaaGreatDoor
open Go.RowKit
set_option linter.unusedVariables false

/-- A pointer to a Stand that lies somewhere. -/
structure PStand (w : World) (pb po : Nat) (x : DStand) : Prop where
  c0 : w.cell? ⟨pb, po, none⟩ = some (.string x.id)
  c1 : w.cell? ⟨pb, po + 1, none⟩ = some (.int .i64 x.trees)
  c2 : w.cell? ⟨pb, po + 2, none⟩ = some (.int .i64 x.height)
  c3 : w.cell? ⟨pb, po + 3, none⟩ = some (.int .i64 x.cover)
  c4 : w.cell? ⟨pb, po + 4, none⟩ = some (.int .i64 x.gap)
theorem PStand.below {w w' : World} {pb po : Nat} {x : DStand} {B : Nat} (h : PStand w pb po x) (hb : Below B w w') (hB : pb < B) : PStand w' pb po x :=
  ⟨(hb.cell (p := ⟨pb, _, none⟩) hB).trans h.c0, (hb.cell (p := ⟨pb, _, none⟩) hB).trans h.c1, (hb.cell (p := ⟨pb, _, none⟩) hB).trans h.c2, (hb.cell (p := ⟨pb, _, none⟩) hB).trans h.c3, (hb.cell (p := ⟨pb, _, none⟩) hB).trans h.c4⟩
theorem PStand.drewN {w : World} {pb po : Nat} {x : DStand} (h : PStand w pb po x) (n : Nat) : PStand (w.drewN n) pb po x :=
  ⟨h.c0, h.c1, h.c2, h.c3, h.c4⟩
theorem PStand.lt {w : World} {pb po : Nat} {x : DStand} (h : PStand w pb po x) : pb < w.heap.size := block_lt_of_cell h.c0
theorem PStand.below' {w w' : World} {pb po : Nat} {x : DStand} (h : PStand w pb po x) (hb : Below w.heap.size w w') : PStand w' pb po x := h.below hb h.lt
theorem PStand.box (w : World) (x : DStand) (T : TypeId) : PStand (w.alloc (.cells #[.string x.id, .int .i64 x.trees, .int .i64 x.height, .int .i64 x.cover, .int .i64 x.gap] T)) w.heap.size 0 x := by
  constructor <;> simp
theorem PStand.elem {w : World} {A : Option Addr} {len cap : Nat} {xs : List DStand} {fp : List Nat} (h : Sl fStand.cod w (.slice A len cap) xs fp) {k : Nat} (hk : k < xs.length) :
    ∃ b off, A = some ⟨b, off, none⟩ ∧ b ∈ fp ∧ fStand.ok xs[k] ∧ PStand w b (off + k * 5) xs[k] := by
  obtain ⟨b, off, hA, hm, hok, hc, _⟩ := h.at_ hk
  exact ⟨b, off, hA, hm, hok, ⟨hc 0 (by decide), hc 1 (by decide), hc 2 (by decide), hc 3 (by decide), hc 4 (by decide)⟩⟩
end Go.Proofs.YthabmofkjdiccaaGreatDoor

namespace Go.Proofs.YthabmofkjdiccaaGreatDoor
open Go.RowKit
set_option linter.unusedVariables false

structure DShot where
  id : ByteArray
  from_ : Int
  until_ : Int
  minutes : Int
  gain : Int
  deriving DecidableEq

def fShot : Flat DShot where
  n := 5
  enc := fun x => [.string x.id, .int .i64 x.from_, .int .i64 x.until_, .int .i64 x.minutes, .int .i64 x.gain]
  ok := fun x => fStr.ok x.id ∧ fInt.ok x.from_ ∧ fInt.ok x.until_ ∧ fInt.ok x.minutes ∧ fInt.ok x.gain
  pos := by omega
  len := fun _ => rfl
  one := by intro x v hv; simp at hv; rcases hv with rfl | rfl | rfl | rfl | rfl <;> rfl

def totShot (x : DShot) : Nat := x.id.size
def totShotS (xs : List DShot) : Nat := xs.length + (xs.map totShot).sum






def mkShot (k : Int) : DShot := ⟨mt (k), k + 1, k + 1 + 1, k + 1 + 1 + 1, k + 1 + 1 + 1 + 1⟩
def marksShot (k : Int) (n : Nat) : List DShot := (List.range n).map fun (i : Nat) => mkShot (k + 5 * (i : Int))

theorem marksShot_get (k0 : Int) (n i : Nat) (h : i < (marksShot k0 n).length) : (marksShot k0 n)[i] = mkShot (k0 + 5 * (i : Int)) := by
  simp [marksShot]
theorem marksShot_len (k0 : Int) (n : Nat) : (marksShot k0 n).length = n := by simp [marksShot]



end Go.Proofs.YthabmofkjdiccaaGreatDoor

namespace Go.Proofs.YthabmofkjdiccaaGreatDoor
open Go.RowKit
set_option linter.unusedVariables false

/-- A pointer to a Shot that lies somewhere. -/
structure PShot (w : World) (pb po : Nat) (x : DShot) : Prop where
  c0 : w.cell? ⟨pb, po, none⟩ = some (.string x.id)
  c1 : w.cell? ⟨pb, po + 1, none⟩ = some (.int .i64 x.from_)
  c2 : w.cell? ⟨pb, po + 2, none⟩ = some (.int .i64 x.until_)
  c3 : w.cell? ⟨pb, po + 3, none⟩ = some (.int .i64 x.minutes)
  c4 : w.cell? ⟨pb, po + 4, none⟩ = some (.int .i64 x.gain)
theorem PShot.below {w w' : World} {pb po : Nat} {x : DShot} {B : Nat} (h : PShot w pb po x) (hb : Below B w w') (hB : pb < B) : PShot w' pb po x :=
  ⟨(hb.cell (p := ⟨pb, _, none⟩) hB).trans h.c0, (hb.cell (p := ⟨pb, _, none⟩) hB).trans h.c1, (hb.cell (p := ⟨pb, _, none⟩) hB).trans h.c2, (hb.cell (p := ⟨pb, _, none⟩) hB).trans h.c3, (hb.cell (p := ⟨pb, _, none⟩) hB).trans h.c4⟩
theorem PShot.drewN {w : World} {pb po : Nat} {x : DShot} (h : PShot w pb po x) (n : Nat) : PShot (w.drewN n) pb po x :=
  ⟨h.c0, h.c1, h.c2, h.c3, h.c4⟩
theorem PShot.lt {w : World} {pb po : Nat} {x : DShot} (h : PShot w pb po x) : pb < w.heap.size := block_lt_of_cell h.c0
theorem PShot.below' {w w' : World} {pb po : Nat} {x : DShot} (h : PShot w pb po x) (hb : Below w.heap.size w w') : PShot w' pb po x := h.below hb h.lt
theorem PShot.box (w : World) (x : DShot) (T : TypeId) : PShot (w.alloc (.cells #[.string x.id, .int .i64 x.from_, .int .i64 x.until_, .int .i64 x.minutes, .int .i64 x.gain] T)) w.heap.size 0 x := by
  constructor <;> simp
theorem PShot.elem {w : World} {A : Option Addr} {len cap : Nat} {xs : List DShot} {fp : List Nat} (h : Sl fShot.cod w (.slice A len cap) xs fp) {k : Nat} (hk : k < xs.length) :
    ∃ b off, A = some ⟨b, off, none⟩ ∧ b ∈ fp ∧ fShot.ok xs[k] ∧ PShot w b (off + k * 5) xs[k] := by
  obtain ⟨b, off, hA, hm, hok, hc, _⟩ := h.at_ hk
  exact ⟨b, off, hA, hm, hok, ⟨hc 0 (by decide), hc 1 (by decide), hc 2 (by decide), hc 3 (by decide), hc 4 (by decide)⟩⟩
end Go.Proofs.YthabmofkjdiccaaGreatDoor

namespace Go.Proofs.YthabmofkjdiccaaGreatDoor
open Go.RowKit
set_option linter.unusedVariables false

structure DWatch where
  person : ByteArray
  start : Int
  hours : Int
  onCall : Bool
  deriving DecidableEq

def fWatch : Flat DWatch where
  n := 4
  enc := fun x => [.string x.person, .int .i64 x.start, .int .i64 x.hours, .bool x.onCall]
  ok := fun x => fStr.ok x.person ∧ fInt.ok x.start ∧ fInt.ok x.hours ∧ fBool.ok x.onCall
  pos := by omega
  len := fun _ => rfl
  one := by intro x v hv; simp at hv; rcases hv with rfl | rfl | rfl | rfl <;> rfl

def totWatch (x : DWatch) : Nat := x.person.size
def totWatchS (xs : List DWatch) : Nat := xs.length + (xs.map totWatch).sum






def mkWatch (k : Int) : DWatch := ⟨mt (k), k + 1, k + 1 + 1, ((k + 1 + 1 + 1) % 3 == 0)⟩
def marksWatch (k : Int) (n : Nat) : List DWatch := (List.range n).map fun (i : Nat) => mkWatch (k + 4 * (i : Int))

theorem marksWatch_get (k0 : Int) (n i : Nat) (h : i < (marksWatch k0 n).length) : (marksWatch k0 n)[i] = mkWatch (k0 + 4 * (i : Int)) := by
  simp [marksWatch]
theorem marksWatch_len (k0 : Int) (n : Nat) : (marksWatch k0 n).length = n := by simp [marksWatch]



end Go.Proofs.YthabmofkjdiccaaGreatDoor

namespace Go.Proofs.YthabmofkjdiccaaGreatDoor
open Go.RowKit
set_option linter.unusedVariables false

/-- A pointer to a Watch that lies somewhere. -/
structure PWatch (w : World) (pb po : Nat) (x : DWatch) : Prop where
  c0 : w.cell? ⟨pb, po, none⟩ = some (.string x.person)
  c1 : w.cell? ⟨pb, po + 1, none⟩ = some (.int .i64 x.start)
  c2 : w.cell? ⟨pb, po + 2, none⟩ = some (.int .i64 x.hours)
  c3 : w.cell? ⟨pb, po + 3, none⟩ = some (.bool x.onCall)
theorem PWatch.below {w w' : World} {pb po : Nat} {x : DWatch} {B : Nat} (h : PWatch w pb po x) (hb : Below B w w') (hB : pb < B) : PWatch w' pb po x :=
  ⟨(hb.cell (p := ⟨pb, _, none⟩) hB).trans h.c0, (hb.cell (p := ⟨pb, _, none⟩) hB).trans h.c1, (hb.cell (p := ⟨pb, _, none⟩) hB).trans h.c2, (hb.cell (p := ⟨pb, _, none⟩) hB).trans h.c3⟩
theorem PWatch.drewN {w : World} {pb po : Nat} {x : DWatch} (h : PWatch w pb po x) (n : Nat) : PWatch (w.drewN n) pb po x :=
  ⟨h.c0, h.c1, h.c2, h.c3⟩
theorem PWatch.lt {w : World} {pb po : Nat} {x : DWatch} (h : PWatch w pb po x) : pb < w.heap.size := block_lt_of_cell h.c0
theorem PWatch.below' {w w' : World} {pb po : Nat} {x : DWatch} (h : PWatch w pb po x) (hb : Below w.heap.size w w') : PWatch w' pb po x := h.below hb h.lt
theorem PWatch.box (w : World) (x : DWatch) (T : TypeId) : PWatch (w.alloc (.cells #[.string x.person, .int .i64 x.start, .int .i64 x.hours, .bool x.onCall] T)) w.heap.size 0 x := by
  constructor <;> simp
theorem PWatch.elem {w : World} {A : Option Addr} {len cap : Nat} {xs : List DWatch} {fp : List Nat} (h : Sl fWatch.cod w (.slice A len cap) xs fp) {k : Nat} (hk : k < xs.length) :
    ∃ b off, A = some ⟨b, off, none⟩ ∧ b ∈ fp ∧ fWatch.ok xs[k] ∧ PWatch w b (off + k * 4) xs[k] := by
  obtain ⟨b, off, hA, hm, hok, hc, _⟩ := h.at_ hk
  exact ⟨b, off, hA, hm, hok, ⟨hc 0 (by decide), hc 1 (by decide), hc 2 (by decide), hc 3 (by decide)⟩⟩
end Go.Proofs.YthabmofkjdiccaaGreatDoor

namespace Go.Proofs.YthabmofkjdiccaaGreatDoor
open Go.RowKit
set_option linter.unusedVariables false


def obsB (x : DObserved) : Bool := inB x.hour 0 100000 && inB x.snow 0 2000 && inB x.degrees (-5000) 5000 && inB x.wind 0 10000
theorem obsB_eq (x : DObserved) : obsB x = (inB x.hour 0 100000 && (inB x.snow 0 2000 && (inB x.degrees (-5000) 5000 && (inB x.wind 0 10000)))) := by
  unfold obsB; simp only [Bool.and_assoc]

def standB (x : DStand) : Bool := nameB x.id && inB x.trees 0 2000 && inB x.height 0 5000 && inB x.cover 0 1000 && inB x.gap 0 100
theorem standB_eq (x : DStand) : standB x = (nameB x.id && (inB x.trees 0 2000 && (inB x.height 0 5000 && (inB x.cover 0 1000 && (inB x.gap 0 100))))) := by
  unfold standB; simp only [Bool.and_assoc]

def verB (x : DVerified) : Bool := inB x.day 0 36524 && inB x.told 1 5 && inB x.seen 1 5
theorem verB_eq (x : DVerified) : verB x = (inB x.day 0 36524 && (inB x.told 1 5 && (inB x.seen 1 5))) := by
  unfold verB; simp only [Bool.and_assoc]
set_option maxRecDepth 100000 in
set_option maxHeartbeats 4000000 in
theorem l20One_any (pb po : Nat) (x : DVerified) (w : World) (hp : PVerified w pb po x) (hok : fVerified.ok x) :
    Calls Tryz.prog 95 #[.pointer (some ⟨pb, po, none⟩)] w fun e w' => e = .returned (.bool (verB x)) ∧ Below w.heap.size w w' := by
  obtain ⟨c0, c1, c2⟩ := id hp
  clear hok hp
  have HV := Lib.hid (verB_eq x)
  go_enter Tryz.func95, Tryz.ntmps95
  go_wp2_with fail
  refine (l02DayV_any _ _).mono ?_
  rintro e w' ⟨rfl, rfl⟩
  cases hq0 : inB x.day 0 36524
  · have HX : Hid (verB x = false) := by show _ = _; rw [HV.out, hq0]; rfl
    go_wp2
    go_ret
    exact ⟨ret_bool HX.out.symm, Below.refl _ _⟩
  · have HX : Hid (verB x = (inB x.told 1 5 && (inB x.seen 1 5))) := by show _ = _; rw [HV.out, hq0]; rfl
    go_wp2_with fail
    refine (l17IsV_any _ _).mono ?_
    rintro e w' ⟨rfl, rfl⟩
    cases hq1 : inB x.told 1 5
    · have HX : Hid (verB x = false) := by show _ = _; rw [HV.out, hq0, hq1]; rfl
      go_wp2
      go_ret
      exact ⟨ret_bool HX.out.symm, Below.refl _ _⟩
    · have HX : Hid (verB x = (inB x.seen 1 5)) := by show _ = _; rw [HV.out, hq0, hq1]; rfl
      go_wp2_with fail
      refine (l17IsV_any _ _).mono ?_
      rintro e w' ⟨rfl, rfl⟩
      rw [← HX.out]
      go_wp2
      go_ret
      exact ⟨rfl, Below.refl _ _⟩
set_option maxRecDepth 100000 in
set_option maxHeartbeats 4000000 in
theorem validVerified_any (x : DVerified) (w : World) (hok : fVerified.ok x) :
    Calls Tryz.prog 52 #[.agg #[.int .i64 x.day, .int .i64 x.told, .int .i64 x.seen]] w fun e w' => e = .returned (.bool (verB x)) ∧ Below w.heap.size w w' := by
  clear hok
  have HV := Lib.hid (verB_eq x)
  go_enter Tryz.func52, Tryz.ntmps52
  go_wp2_with fail
  refine (dayValid_any _ _).mono ?_
  rintro e w' ⟨rfl, rfl⟩
  cases hq0 : inB x.day 0 36524
  · have HX : Hid (verB x = false) := by show _ = _; rw [HV.out, hq0]; rfl
    go_wp2
    go_ret
    exact ⟨ret_bool HX.out.symm, (Below.refl _ _).alloc (Nat.le_refl _) _⟩
  · have HX : Hid (verB x = (inB x.told 1 5 && (inB x.seen 1 5))) := by show _ = _; rw [HV.out, hq0]; rfl
    go_wp2_with fail
    refine (levelOkV_any _ _).mono ?_
    rintro e w' ⟨rfl, rfl⟩
    cases hq1 : inB x.told 1 5
    · have HX : Hid (verB x = false) := by show _ = _; rw [HV.out, hq0, hq1]; rfl
      go_wp2
      go_ret
      exact ⟨ret_bool HX.out.symm, (Below.refl _ _).alloc (Nat.le_refl _) _⟩
    · have HX : Hid (verB x = (inB x.seen 1 5)) := by show _ = _; rw [HV.out, hq0, hq1]; rfl
      go_wp2_with fail
      refine (levelOkV_any _ _).mono ?_
      rintro e w' ⟨rfl, rfl⟩
      rw [← HX.out]
      go_wp2
      go_ret
      exact ⟨rfl, (Below.refl _ _).alloc (Nat.le_refl _) _⟩

def watchB (x : DWatch) : Bool := nameB x.person && inB x.start 0 10000 && inB x.hours 1 48
theorem watchB_eq (x : DWatch) : watchB x = (nameB x.person && (inB x.start 0 10000 && (inB x.hours 1 48))) := by
  unfold watchB; simp only [Bool.and_assoc]

def testB (x : DTest) : Bool := inB x.quality 1 3 && (inB x.depth 1 300 && (inB x.hour 0 100000 && (if x.kind = 3 then inB x.score 1 7 else (decide (x.kind = 1) || decide (x.kind = 2)) && inB x.score 0 31)))

def shotB (x : DShot) : Bool := nameB x.id && inB x.from_ 0 1440 && inB x.until_ 0 1440 && inB x.minutes 1 240 && decide (x.from_ + x.minutes ≤ x.until_) && inB x.gain 0 1000
theorem shotB_eq (x : DShot) : shotB x = (nameB x.id && (inB x.from_ 0 1440 && (inB x.until_ 0 1440 && (inB x.minutes 1 (min (x.until_ - x.from_) 240) && inB x.gain 0 1000)))) := by
  unfold shotB
  rw [Bool.eq_iff_iff]
  simp only [Bool.and_eq_true, inB_true, decide_eq_true_eq]
  constructor
  · rintro ⟨⟨⟨⟨⟨h0, h1⟩, h2⟩, h3⟩, h4⟩, h5⟩
    exact ⟨h0, h1, h2, by omega, h5⟩
  · rintro ⟨h0, h1, h2, h3, h5⟩
    exact ⟨⟨⟨⟨⟨h0, h1⟩, h2⟩, by omega⟩, by omega⟩, h5⟩
end Go.Proofs.YthabmofkjdiccaaGreatDoor
