/- Parts of the proof: Pgi, We, TString, So, De. -/
import Derived.Test.YtmlconbekkdahaaGreatDoorG03
import Derived.Test.YtmlconbekkdahaaGreatDoorG02
import Derived.Test.YtmlconbekkdahaaGreatDoorG01
import Derived.Deep.CutRange
import Derived.Deep.AppendLies
import Derived.Lib.ItoaNum
import Derived.Laws.IdiomStrings
namespace Go.Proofs.YtmlconbekkdahaaGreatDoor
open Go.RowKit
set_option linter.unusedVariables false

structure PgW (w : World) (B : Nat) (v : Value) (n : Nat) (V : Nat → Value) (X : Nat → List Int) (G : Nat → Nat) : Prop where
  own : w.ownsRow B 47 1 v n ((List.range n).map V)
  row : ∀ i, i < n → Own fInt w B 2 (V i) (X i)
  blk : ∀ i, i < n → (V i).ownBlock = some (G i)
  inj : ∀ i j, i < n → j < n → G i = G j → i = j
  ap : ∀ i, i < n → v.ownBlock ≠ some (G i)
section
variable {w w' u : World} {B n : Nat} {v v' : Value} {V : Nat → Value} {X : Nat → List Int} {G : Nat → Nat}
theorem PgW.gl (h : PgW w B v n V X G) {i : Nat} (hi : i < n) : B ≤ G i ∧ G i < w.heap.size := own_at (h.row i hi) (h.blk i hi)
theorem PgW.below (h : PgW w B v n V X G) (hb : Below w.heap.size w w') : PgW w' B v n V X G :=
  ⟨ownsRow_belowR h.own hb, fun i hi => (h.row i hi).below hb, h.blk, h.inj, h.ap⟩
theorem PgW.nil {c : Nat} (hw : w.ownsRow B 47 1 v 0 []) : PgW w B v 0 (fun _ => undef) (fun _ => []) (fun _ => 0) :=
  ⟨hw, fun i hi => absurd hi (Nat.not_lt_zero i), fun i hi => absurd hi (Nat.not_lt_zero i), fun i j hi => absurd hi (Nat.not_lt_zero i), fun i hi => absurd hi (Nat.not_lt_zero i)⟩
theorem PgW.congr {X' : Nat → List Int} (h : PgW w B v n V X G) (hx : ∀ i, i < n → X i = X' i) : PgW w B v n V X' G :=
  ⟨h.own, fun i hi => by rw [← hx i hi]; exact h.row i hi, h.blk, h.inj, h.ap⟩
theorem PgW.form (h : PgW w B v n V X G) : ∃ A cap, v = .slice A n cap := by
  rcases h.own.2 with ⟨hv, h0⟩ | ⟨g, cap, cur, hv, _⟩
  · exact ⟨none, 0, by rw [hv, h0]⟩
  · exact ⟨_, cap, hv⟩
theorem PgW.addr (h : PgW w B v n V X G) (h0 : 0 < n) : ∃ g cap, v = .slice (some ⟨g, 0, none⟩) n cap ∧ B ≤ g ∧ g < w.heap.size := by
  rcases h.own.2 with ⟨hv, h1⟩ | ⟨g, cap, cur, hv, hg, hh, _⟩
  · omega
  · refine ⟨g, cap, hv, hg, ?_⟩
    rcases Nat.lt_or_ge g w.heap.size with hlt | hge
    · exact hlt
    · rw [Array.getElem?_eq_none hge] at hh; cases hh
theorem PgW.last (h : PgW w B v n V X G) {i : Nat} (hi : i < n) (h0 : 0 < (X i).length) : ∃ c, V i = .slice (some ⟨G i, 0, none⟩) (X i).length c := by
  have hb := h.blk i hi
  rcases (h.row i hi).2 with ⟨hv, h1⟩ | ⟨g, cap, cur, hv, _⟩
  · omega
  · rw [hv] at hb
    injection hb with hb
    have hb : g = G i := hb
    subst hb
    exact ⟨cap, hv⟩
/-- One page more. -/
theorem PgW.push {r : List Int} {y : Value} {gy : Nat} (h : PgW w B v n V X G) (hy : Own fInt w B 2 y r) (hgy : y.ownBlock = some gy) (hne : ∀ i, i < n → G i ≠ gy) (hvy : v.ownBlock ≠ some gy)
    (hown : u.ownsRow B 47 1 v' (n + 1) ((List.range n).map V ++ [y])) (hg : w.grownBy u v.ownBlock) (hl : v'.ownBlock = v.ownBlock ∨ v'.ownBlock = some w.heap.size) :
    PgW u B v' (n + 1) (fun i => if i = n then y else V i) (fun i => if i = n then r else X i) (fun i => if i = n then gy else G i) := by
  have keep : ∀ {z : Value} {q : List Int} {b : Nat}, Own fInt w B 2 z q → z.ownBlock = some b → v.ownBlock ≠ some b → Own fInt u B 2 z q := fun hz hb hne => own_stays hz fun k hk hkl => hg.block k hkl (fun e => hne (by rw [← e]; rw [hb] at hk; exact hk.symm))
  have apart : ∀ {b : Nat}, b < w.heap.size → v.ownBlock ≠ some b → v'.ownBlock ≠ some b := fun hb hne => by
    rcases hl with e | e
    · rw [e]; exact hne
    · rw [e]; intro h2; injection h2 with h2; omega
  have hyl := own_at hy hgy
  refine ⟨?_, fun i hi => ?_, fun i hi => ?_, fun i j hi hj e => ?_, fun i hi => ?_⟩
  · have em : (List.range (n + 1)).map (fun i => if i = n then y else V i) = (List.range n).map V ++ [y] := by
      rw [List.range_succ, List.map_append, List.map_cons, List.map_nil, if_pos rfl]
      congr 1
      exact List.map_congr_left (fun i hi => if_neg (by have : i < n := by simpa using hi
                                                        omega))
    rw [em]
    exact hown
  · by_cases e : i = n
    · rw [if_pos e, if_pos e]; exact keep hy hgy hvy
    · rw [if_neg e, if_neg e]; exact keep (h.row i (by omega)) (h.blk i (by omega)) (h.ap i (by omega))
  · by_cases e : i = n
    · rw [if_pos e, if_pos e]; exact hgy
    · rw [if_neg e, if_neg e]; exact h.blk i (by omega)
  · by_cases e1 : i = n <;> by_cases e2 : j = n
    · omega
    · rw [if_pos e1, if_neg e2] at e; exact absurd e.symm (hne j (by omega))
    · rw [if_neg e1, if_pos e2] at e; exact absurd e (hne i (by omega))
    · rw [if_neg e1, if_neg e2] at e; exact h.inj i j (by omega) (by omega) e
  · by_cases e : i = n
    · rw [if_pos e]; exact apart hyl.2 hvy
    · rw [if_neg e]; exact apart (h.gl (by omega)).2 (h.ap i (by omega))
/-- The last page grows: its row went to y, in the world u; its place is stored. -/
theorem PgW.grow {g cap : Nat} {r : List Int} {y : Value} {gy : Nat} (h : PgW w B (.slice (some ⟨g, 0, none⟩) (n + 1) cap) (n + 1) V X G) (hy : Own fInt u B 2 y r) (hgy : y.ownBlock = some gy)
    (hg : w.grownBy u (V n).ownBlock) (hl : y.ownBlock = (V n).ownBlock ∨ y.ownBlock = some w.heap.size) :
    PgW (u.setCell ⟨g, n, none⟩ y) B (.slice (some ⟨g, 0, none⟩) (n + 1) cap) (n + 1) (fun i => if i = n then y else V i) (fun i => if i = n then r else X i) (fun i => if i = n then gy else G i) := by
  obtain ⟨g', cap', hv, hgB, hgl⟩ := h.addr (by omega)
  injection hv with hv1 _ hv2
  injection hv1 with hv1
  injection hv1 with hv1
  subst hv1 hv2
  have hbn := h.blk n (by omega)
  have hgn : g ≠ G n := fun e => h.ap n (by omega) (by rw [← e]; rfl)
  have hgu : u.heap[g]? = w.heap[g]? := hg.block g hgl (by rw [hbn]; intro e; injection e with e; exact hgn e)
  have hgGi : ∀ i, i < n + 1 → g ≠ G i := fun i hi e => h.ap i hi (by rw [← e]; rfl)
  have hgy' : gy = G n ∨ gy = w.heap.size := by
    rcases hl with e | e
    · rw [hgy, hbn] at e; injection e with e; exact .inl e
    · rw [hgy] at e; injection e with e; exact .inr e
  have hne : g ≠ gy := by
    rcases hgy' with e | e
    · rw [e]; exact hgn
    · omega
  have hset : ∀ k, k < u.heap.size → k ≠ g → (u.setCell ⟨g, n, none⟩ y).heap[k]? = u.heap[k]? := fun k hkl hk => ((Only.refl [g] u).set n y).block k hkl (by rw [List.mem_singleton]; exact hk)
  refine ⟨?_, fun i hi => ?_, fun i hi => ?_, fun i j hi hj e => ?_, fun i hi => ?_⟩
  · have hu : u.ownsRow B 47 1 (.slice (some ⟨g, 0, none⟩) (n + 1) cap) (n + 1) ((List.range (n + 1)).map V) := by
      obtain ⟨h1, h2⟩ := h.own
      refine ⟨h1, ?_⟩
      rcases h2 with ⟨hv, _⟩ | ⟨g2, c2, cur, hv, q1, q2, q3⟩
      · cases hv
      · injection hv with e1 _ e2
        injection e1 with e1
        injection e1 with e1
        subst e1 e2
        exact .inr ⟨g, cap, cur, rfl, q1, by rw [hgu]; exact q2, q3⟩
    have h2 := (hu.stored n y).1
    have em : ((List.range (n + 1)).map V).set n y = (List.range (n + 1)).map (fun i => if i = n then y else V i) := by
      refine List.ext_getElem (by simp) (fun i h1 h2 => ?_)
      rw [List.getElem_set]
      simp only [List.length_map, List.length_range] at h2
      by_cases e : n = i
      · subst e; simp
      · rw [if_neg e]; simp [Ne.symm e]
    rw [em] at h2
    exact h2
  · by_cases e : i = n
    · rw [if_pos e, if_pos e]
      exact own_stays hy (fun k hk hkl => hset k hkl (fun e2 => by rw [hgy] at hk; injection hk with hk; exact hne (by rw [← e2, ← hk])))
    · rw [if_neg e, if_neg e]
      have hGi : G i ≠ G n := fun e2 => e (h.inj i n (by omega) (by omega) e2)
      have h1 : Own fInt u B 2 (V i) (X i) := own_stays (h.row i (by omega)) (fun k hk hkl => hg.block k hkl (by
        rw [h.blk i (by omega)] at hk; injection hk with hk
        rw [hbn, ← hk]; intro e2; injection e2 with e2; exact hGi e2))
      exact own_stays h1 (fun k hk hkl => hset k hkl (fun e2 => by
        rw [h.blk i (by omega)] at hk; injection hk with hk
        exact hgGi i (by omega) (by rw [← e2, ← hk])))
  · by_cases e : i = n
    · rw [if_pos e, if_pos e]; exact hgy
    · rw [if_neg e, if_neg e]; exact h.blk i (by omega)
  · have hlt : ∀ k, k < n → G k ≠ gy := fun k hk e => by
      rcases hgy' with e2 | e2
      · have := h.inj k n (by omega) (by omega) (e.trans e2); omega
      · have := (h.gl (i := k) (by omega)).2; omega
    by_cases e1 : i = n <;> by_cases e2 : j = n
    · omega
    · rw [if_pos e1, if_neg e2] at e; exact absurd e.symm (hlt j (by omega))
    · rw [if_neg e1, if_pos e2] at e; exact absurd e (hlt i (by omega))
    · rw [if_neg e1, if_neg e2] at e; exact h.inj i j (by omega) (by omega) e
  · show some g ≠ _
    by_cases e : i = n
    · rw [if_pos e]; intro e3; injection e3 with e3; exact hne e3
    · rw [if_neg e]; intro e3; injection e3 with e3; exact hgGi i (by omega) e3
/-- It reads as a slice of slices. -/
theorem PgW.sl {xss : List (List Int)} (h : PgW w B v n V X G) (hx : xss = (List.range n).map X) (hok : ∀ i, i < n → ∀ x ∈ X i, fInt.ok x) : ∃ fp, Sl fInt.cod.slice w v xss fp ∧ (∀ b ∈ fp, B ≤ b) ∧ fp.Nodup := by
  have hxl : xss.length = n := by rw [hx]; simp
  rcases Nat.eq_zero_or_pos n with h0 | h0
  · subst h0
    obtain ⟨A, cap, rfl⟩ := h.form
    have : xss = [] := List.eq_nil_of_length_eq_zero hxl
    subst this
    have hc : 0 ≤ cap ∧ cap ≤ maxLen := by
      rcases h.own.2 with ⟨hv, _⟩ | ⟨g, c, cur, hv, _, _, _, hcm, _⟩
      · injection hv with _ _ e; subst e; simp [maxLen]
      · injection hv with _ _ e; subst e; exact ⟨Nat.zero_le _, hcm⟩
    exact ⟨[], ⟨A, cap, rfl, hc.1, hc.2, .inl ⟨rfl, rfl⟩⟩, by simp, by simp⟩
  · obtain ⟨g, cap, rfl, hgB, hgl⟩ := h.addr h0
    have hex : ∀ i, ∃ f : List Nat, i < n → Sl fInt.cod w (V i) (X i) f ∧ (∀ b ∈ f, B ≤ b) ∧ f.Nodup ∧ ∀ b ∈ f, (V i).ownBlock = some b := fun i => by
      by_cases hi : i < n
      · obtain ⟨f, hf⟩ := own_fp (h.row i hi) (hok i hi)
        exact ⟨f, fun _ => hf⟩
      · exact ⟨[], fun h => absurd h hi⟩
    obtain ⟨F, hF⟩ := Classical.axiomOfChoice hex
    have hFG : ∀ i, i < n → ∀ b ∈ F i, b = G i := fun i hi b hb => by
      have h1 := (hF i hi).2.2.2 b hb
      rw [h.blk i hi] at h1
      injection h1 with h1; exact h1.symm
    obtain ⟨hcn, hcm⟩ : n ≤ cap ∧ cap ≤ maxLen := by
      rcases h.own.2 with ⟨hv, _⟩ | ⟨g', c, cur, hv, _, _, hnc, hcm, _⟩
      · cases hv
      · injection hv with _ _ e; subst e; exact ⟨hnc, hcm⟩
    have hr : NRows fInt.cod w g 0 n V X F := ⟨fun i hi => by
      rw [Nat.zero_add, h.own.cellAt i (by omega), List.getElem?_map, List.getElem?_range hi]; rfl, fun i _ => by rw [Nat.zero_add]; exact h.own.frozenAt i, fun i hi => (hF i hi).1⟩
    refine ⟨g :: (List.range n).flatMap F, hr.sl hgl hxl (fun i hi => by rw [List.getElem_of_eq hx]; simp) hcn hcm, ?_, ?_⟩
    · intro b hb
      rcases List.mem_cons.1 hb with rfl | hb
      · exact hgB
      · obtain ⟨i, hi, hb⟩ := List.mem_flatMap.1 hb
        exact (hF i (by simpa using hi)).2.1 b hb
    · rw [List.nodup_cons]
      constructor
      · intro hb
        obtain ⟨i, hi, hb⟩ := List.mem_flatMap.1 hb
        have hi : i < n := by simpa using hi
        have := hFG i hi g hb
        exact h.ap i hi (by rw [← this]; rfl)
      · unfold List.Nodup
        rw [List.pairwise_flatMap]
        refine ⟨fun i hi => (hF i (by simpa using hi)).2.2.1, ?_⟩
        refine (List.pairwise_lt_range).imp_of_mem ?_
        intro i j hi hj hij b hb c hc e
        have hi : i < n := by simpa using hi
        have hj : j < n := by simpa using hj
        have e1 := hFG i hi b hb
        have e2 := hFG j hj c hc
        have := h.inj i j hi hj (by rw [← e1, ← e2, e])
        omega
end
end Go.Proofs.YtmlconbekkdahaaGreatDoor

namespace Go.Proofs.YtmlconbekkdahaaGreatDoor
open Go.RowKit
set_option linter.unusedVariables false

theorem infoStrW : (Tryz.prog.info? 9).map (fun i => (i.zero, i.size, i.bytes)) = some (some (.string ⟨#[]⟩), 1, 16) := by kernel_rfl
theorem take_snoc {α : Type} {xs : List α} {k : Nat} (h : k < xs.length) : xs.take (k + 1) = xs.take k ++ [xs[k]] := (List.take_succ_eq_append_getElem h)
def whC (xs : List DWatch) : Int := if watchsB xs then 0 else 1
def whV (xs : List DWatch) (p : ByteArray) : Int := if watchsB xs then hrsW p xs else 0
theorem hrsW_snoc (p : ByteArray) {xs : List DWatch} {k : Nat} (h : k < xs.length) : hrsW p (xs.take (k + 1)) = hrsW p (xs.take k) + (if xs[k].person = p ∧ xs[k].onCall = false then xs[k].hours else 0) := by
  rw [take_snoc h, hrsW_append]
  show _ + ((if xs[k].person = p ∧ xs[k].onCall = false then xs[k].hours else 0) + 0) = _
  omega
theorem hrsW_bound {xs : List DWatch} (h : ∀ x ∈ xs, watchB x = true) (p : ByteArray) : 0 ≤ hrsW p xs ∧ hrsW p xs ≤ 48 * xs.length := by
  induction xs with
  | nil => show (0 : Int) ≤ 0 ∧ (0 : Int) ≤ 48 * 0; omega
  | cons x L ih =>
    have h1 := ih (fun y hy => h y (List.mem_cons_of_mem _ hy))
    have h2 := watchB_b (h x List.mem_cons_self)
    rw [List.length_cons]
    show 0 ≤ (if x.person = p ∧ x.onCall = false then x.hours else 0) + hrsW p L ∧ (if x.person = p ∧ x.onCall = false then x.hours else 0) + hrsW p L ≤ _
    split <;> omega
theorem watchs_all {xs : List DWatch} (h : watchsB xs = true) : ∀ x ∈ xs, watchB x = true := fun x hx => by
  obtain ⟨k, hk, rfl⟩ := List.getElem_of_mem hx
  exact watchsB_one h hk
set_option maxRecDepth 100000 in
set_option maxHeartbeats 4000000 in
theorem WatchHours_any (v : Value) (xs : List DWatch) (fp : List Nat) (p : ByteArray) (w : World) (hx : Sl fWatch.cod w v xs fp) :
    Calls Tryz.prog 7 #[v, .string p] w fun e w' => e = .returned (.tuple #[.int .i64 (whV xs p), .int .i64 (whC xs)]) ∧ Below w.heap.size w w' := by
  obtain ⟨A, cap, rfl, hlen, hcap⟩ := hx.form
  go_enter Tryz.func7, Tryz.ntmps7
  go_wp2_with fail
  refine (ValidWatches_any _ xs fp _ hx).mono ?_
  rintro e w1 ⟨rfl, hb1⟩
  have hx1 := hx.below' hb1
  clear hx
  cases hv : watchsB xs
  · have HE : Hid (whC xs = 1 ∧ whV xs p = 0) := ⟨by unfold whC; rw [hv]; rfl, by unfold whV; rw [hv]; rfl⟩
    go_wp2
    go_ret2
    exact ⟨by rw [HE.out.1, HE.out.2]; rfl, hb1⟩
  have HE : Hid (whC xs = 0 ∧ whV xs p = hrsW p xs) := ⟨by unfold whC; rw [hv]; rfl, by unfold whV; rw [hv]; rfl⟩
  have hlen2 := watchsB_len hv
  have hall := watchs_all hv
  clear hv
  go_wp2
  go_loopw [6, 14] (fun t i wr => ∃ k : Nat, k ≤ xs.length ∧ i = .int .i64 k ∧ t = .int .i64 (hrsW p (xs.take k)) ∧ Below w1.heap.size w1 wr) (fun _ i _ => xs.length - (intOf i).toNat)
  case atStart => exact ⟨0, Nat.zero_le _, rfl, rfl, Below.refl _ _⟩
  case round =>
    obtain ⟨k, hk, rfl, rfl, hb⟩ := hrel
    by_cases hlt : k < xs.length
    · obtain ⟨b, off, rfl, _, _, hp⟩ := PWatch.elem (hx1.below' hb) hlt
      obtain ⟨c0, c1, c2, c3⟩ := id hp
      have HS := Lib.hid (hrsW_snoc p hlt)
      have hbd := hrsW_bound (xs := xs.take k) (fun y hy => hall y (List.mem_of_mem_take hy)) p
      have hbk := watchB_b (hall xs[k] (List.getElem_mem hlt))
      have hkl : (xs.take k).length ≤ 32 := by rw [List.length_take]; omega
      generalize hrsW p (xs.take k) = H at *
      generalize hX : xs[k] = x at *
      clear hX hp
      by_cases hq : x.person = p
      · have e1 : (x.person.toList == p.toList) = true := eqS_true.2 hq
        replace hq := Lib.hid hq
        cases hc : x.onCall
        · rw [hc] at c3
          have HS2 : Hid (hrsW p (xs.take (k + 1)) = H + x.hours) := by show _ = _; rw [HS.out, if_pos ⟨hq.out, hc⟩]
          clear hc HS
          go_wp2
          go_roundw
          case rel => exact ⟨k + 1, by omega, by go_num, by rw [HS2.out], hb.alloc hb.size _⟩
          case measure => simp [intOf]; omega
        · rw [hc] at c3
          have HS2 : Hid (hrsW p (xs.take (k + 1)) = H) := by show _ = _; rw [HS.out, if_neg (fun h => by rw [hc] at h; cases h.2)]; omega
          clear hc HS
          go_wp2
          go_roundw
          case rel => exact ⟨k + 1, by omega, by go_num, by rw [HS2.out], hb.alloc hb.size _⟩
          case measure => simp [intOf]; omega
      · have e1 : (x.person.toList == p.toList) = false := bytes_beq_false hq
        have HS2 : Hid (hrsW p (xs.take (k + 1)) = H) := by show _ = _; rw [HS.out, if_neg (fun h => hq h.1)]; omega
        clear hq HS
        go_wp2
        go_roundw
        case rel => exact ⟨k + 1, by omega, by go_num, by rw [HS2.out], hb.alloc hb.size _⟩
        case measure => simp [intOf]; omega
    · have HF : Hid (hrsW p (xs.take k) = hrsW p xs) := by show _ = _; rw [List.take_of_length_le (by omega)]
      generalize hrsW p (xs.take k) = H at *
      go_wp2
      go_ret2
      exact ⟨by rw [HE.out.1, HE.out.2, HF.out]; rfl, hb1.trans (hb.mono hb1.size)⟩
set_option maxRecDepth 100000 in
set_option maxHeartbeats 1000000 in
theorem watchHour_any (h : Int) (w : World) :
    Calls Tryz.prog 27 #[.int .i64 h] w fun e w' => e = .returned (.bool (inB h 0 10100)) ∧ w' = w := by
  go_enter Tryz.func27, Tryz.ntmps27
  go_wp2_with fail
  refine (withinB_any _ _ _ _).mono ?_
  rintro e w' ⟨rfl, rfl⟩
  go_wp2
  go_ret
  exact ⟨rfl, rfl⟩
theorem persF_snoc (h : Int) (c : Bool) {xs : List DWatch} {k : Nat} (hk : k < xs.length) : persF h c (xs.take (k + 1)) = if atHour h c xs[k] then persF h c (xs.take k) ++ [xs[k].person] else persF h c (xs.take k) := by
  unfold persF
  rw [take_snoc hk, List.filter_append]
  cases e : atHour h c xs[k]
  · rw [List.filter_cons_of_neg (by rw [e]; decide)]; simp
  · rw [List.filter_cons_of_pos e]; simp
theorem persF_len (h : Int) (c : Bool) (xs : List DWatch) : (persF h c xs).length ≤ xs.length := by
  unfold persF
  rw [List.length_map]; exact List.length_filter_le _ _
set_option maxRecDepth 100000 in
set_option maxHeartbeats 8000000 in
theorem personsAt_any (v : Value) (xs : List DWatch) (fp : List Nat) (h : Int) (c : Bool) (w : World) (hx : Sl fWatch.cod w v xs fp) (hv : watchsB xs = true) :
    Calls Tryz.prog 28 #[v, .int .i64 h, .bool c] w fun e w' => ∃ v', e = .returned v' ∧ New fStr.cod w v' (persF h c xs) w' := by
  obtain ⟨A, cap, rfl, hlen, hcap⟩ := hx.form
  obtain ⟨i0, hi, hz0, hz1, hz2⟩ := info_parts infoStrW
  have hlen2 := watchsB_len hv
  have hall := watchs_all hv
  have hoks := hx.oks
  go_enter Tryz.func28, Tryz.ntmps28
  go_wp2
  go_loopw [7, 12] (fun t i wr => ∃ k : Nat, k ≤ xs.length ∧ i = .int .i64 k ∧ Own fStr wr w.heap.size 9 t (persF h c (xs.take k)) ∧ Below w.heap.size w wr) (fun _ i _ => xs.length - (intOf i).toNat)
  case atStart => exact ⟨0, Nat.zero_le _, rfl, Own.nil _ _ _ _, Below.refl _ _⟩
  case round =>
    obtain ⟨k, hk, rfl, ho, hb⟩ := hrel
    obtain ⟨A7, c7, rfl⟩ := ho.form
    by_cases hlt : k < xs.length
    · obtain ⟨b, off, rfl, _, _, hp⟩ := PWatch.elem (hx.below' hb) hlt
      obtain ⟨c0, c1, c2, c3⟩ := id hp
      have HS := Lib.hid (persF_snoc h c hlt)
      have hbk := watchB_b (hall xs[k] (List.getElem_mem hlt))
      have hpl := persF_len h c (xs.take k)
      have hkl : (xs.take k).length ≤ 32 := by rw [List.length_take]; omega
      generalize persF h c (xs.take k) = L at *
      generalize hX : xs[k] = x at *
      clear hX hp
      have hBx : Below wr.heap.size wr (wr.alloc (.cells #[.string x.person, .int .i64 x.start, .int .i64 x.hours, .bool x.onCall] 26)) := (Below.refl _ _).alloc (Nat.le_refl _) _
      by_cases hq : x.onCall = c
      · subst hq
        have e1 : (x.onCall == x.onCall) = true := beq_self_eq_true _
        by_cases hq2 : x.start ≤ h
        · have hpx0 := PWatch.box wr x 26
          go_wp2_with fail
          refine (endW_any x _ hbk).mono ?_
          rintro e w3 ⟨rfl, hb3⟩
          have hpx : PWatch w3 wr.heap.size 0 x := hpx0.below' hb3
          have hbw : Below wr.heap.size wr w3 := hBx.trans (hb3.mono hBx.size)
          have hb4 : Below w.heap.size w w3 := hb.trans (hbw.mono hb.size)
          have ho4 := ho.below hbw
          have hsz4 : w.heap.size ≤ w3.heap.size := hb4.size
          clear hb3 hBx hpx0 ho hbw c0 c1 c2 c3
          obtain ⟨d0, d1, d2, d3⟩ := id hpx
          have hlt3 : wr.heap.size < w3.heap.size := hpx.lt
          by_cases hq3 : h < x.start + x.hours
          · have HS2 : Hid (persF h x.onCall (xs.take (k + 1)) = L ++ [x.person]) := by show _ = _; rw [HS.out, if_pos (by unfold atHour; rw [e1, decide_eq_true hq2, decide_eq_true hq3]; rfl)]
            have hoW : w3.ownsRow w.heap.size 9 1 (.slice A7 L.length c7) L.length (L.flatMap fStr.enc) := ho4
            clear HS ho4 hpx
            go_wp2_with (at_builtin; refine wpList_append_one rfl _ _ 33 rfl w.heap.size 9 i0 (.string ⟨#[]⟩) 1 16 Tryz.underlying33 hi hz0 hz1 hz2 rfl (by decide) (.slice A7 L.length c7) L.length _ rfl hoW [.string x.person] rfl (by intro u hu; rw [List.mem_singleton] at hu; subst hu; rfl) rfl (by omega) (by decide) hsz4 ?_)
            intro v' u hown hbu _ _
            have hoD : Own fStr u w.heap.size 9 v' (L ++ [x.person]) := Own.push x.person rfl hown
            have hb5 := hb4.trans hbu
            clear hown hoW
            go_wp2
            go_roundw
            case rel => exact ⟨k + 1, by omega, by go_num, by rw [HS2.out]; exact hoD, hb5⟩
            case measure => simp [intOf]; omega
          · have HS2 : Hid (persF h x.onCall (xs.take (k + 1)) = L) := by show _ = _; rw [HS.out, if_neg (by unfold atHour; rw [decide_eq_false hq3]; simp)]
            clear HS
            go_wp2
            go_roundw
            case rel => exact ⟨k + 1, by omega, by go_num, by rw [HS2.out]; exact ho4, hb4⟩
            case measure => simp [intOf]; omega
        · have HS2 : Hid (persF h x.onCall (xs.take (k + 1)) = L) := by show _ = _; rw [HS.out, if_neg (by unfold atHour; rw [decide_eq_false hq2]; simp)]
          have ho4 := ho.below hBx
          have hb4 := hb.trans (hBx.mono hb.size)
          clear HS ho
          go_wp2
          go_roundw
          case rel => exact ⟨k + 1, by omega, by go_num, by rw [HS2.out]; exact ho4, hb4⟩
          case measure => simp [intOf]; omega
      · have e1 : (x.onCall == c) = false := by rw [beq_eq_false_iff_ne]; exact hq
        have HS2 : Hid (persF h c (xs.take (k + 1)) = L) := by show _ = _; rw [HS.out, if_neg (by unfold atHour; rw [e1]; simp)]
        have ho4 := ho.below hBx
        have hb4 := hb.trans (hBx.mono hb.size)
        clear HS ho hq
        go_wp2
        go_roundw
        case rel => exact ⟨k + 1, by omega, by go_num, by rw [HS2.out]; exact ho4, hb4⟩
        case measure => simp [intOf]; omega
    · have HF : Hid (persF h c (xs.take k) = persF h c xs) := by show _ = _; rw [List.take_of_length_le (by omega)]
      have HOK : Hid (∀ y ∈ persF h c xs, fStr.ok y) := fun y hy => by
        unfold persF at hy
        obtain ⟨z, hz, rfl⟩ := List.mem_map.1 hy
        exact (hoks z (List.mem_filter.1 hz).1).1
      generalize persF h c (xs.take k) = L at *
      go_wp2
      go_ret
      exact ⟨_, rfl, by rw [← HF.out]; exact Own.new (E := fStr) ho hb (by rw [HF.out]; exact HOK.out)⟩
set_option maxRecDepth 100000 in
set_option maxHeartbeats 2000000 in
theorem OnWatch_of (v : Value) (xs : List DWatch) (fp : List Nat) (h : Int) (w : World) (hx : Sl fWatch.cod w v xs fp) (hv : watchsB xs = true) (hh : inB h 0 10100 = true) :
    Calls Tryz.prog 8 #[v, .int .i64 h] w fun e w' => ∃ v', e = .returned (.tuple #[v', .int .i64 0]) ∧ New fStr.cod w v' (persF h false xs) w' := by
  obtain ⟨A, cap, rfl, hlen, hcap⟩ := hx.form
  go_enter Tryz.func8, Tryz.ntmps8
  go_wp2_with fail
  refine (ValidWatches_any _ xs fp _ hx).mono ?_
  rintro e w1 ⟨rfl, hb1⟩
  have hx1 := hx.below' hb1
  have HV := Lib.hid hv
  rw [hv]
  clear hx hv
  go_wp2_with fail
  refine (watchHour_any _ _).mono ?_
  rintro e w' ⟨rfl, rfl⟩
  rw [hh]
  clear hh
  go_wp2_with fail
  refine (personsAt_any _ xs fp h false _ hx1 HV.out).mono ?_
  rintro e w2 ⟨v2, rfl, ⟨⟨fq, hsl, hlo, hnd⟩, hb2⟩⟩
  obtain ⟨A2, c2, rfl, _, _⟩ := hsl.form
  go_wp2
  go_ret2
  exact ⟨_, rfl, ⟨⟨fq, hsl, fun b hb => Nat.le_trans hb1.size (hlo b hb), hnd⟩, hb1.trans (hb2.mono hb1.size)⟩⟩
set_option maxRecDepth 100000 in
set_option maxHeartbeats 2000000 in
theorem CallAt_of (v : Value) (xs : List DWatch) (fp : List Nat) (h : Int) (w : World) (hx : Sl fWatch.cod w v xs fp) (hv : watchsB xs = true) (hh : inB h 0 10100 = true) :
    Calls Tryz.prog 9 #[v, .int .i64 h] w fun e w' => ∃ (s : ByteArray) (c : Int), e = .returned (.tuple #[.string s, .int .i64 c]) ∧ (∀ p rest, persF h true xs = p :: rest → s = p ∧ c = 0) ∧ Below w.heap.size w w' := by
  obtain ⟨A, cap, rfl, hlen, hcap⟩ := hx.form
  go_enter Tryz.func9, Tryz.ntmps9
  go_wp2_with fail
  refine (ValidWatches_any _ xs fp _ hx).mono ?_
  rintro e w1 ⟨rfl, hb1⟩
  have hx1 := hx.below' hb1
  have HV := Lib.hid hv
  rw [hv]
  clear hx hv
  go_wp2_with fail
  refine (watchHour_any _ _).mono ?_
  rintro e w' ⟨rfl, rfl⟩
  rw [hh]
  clear hh
  go_wp2_with fail
  refine (personsAt_any _ xs fp h true _ hx1 HV.out).mono ?_
  rintro e w2 ⟨v2, rfl, ⟨⟨fq, hsl, hlo, hnd⟩, hb2⟩⟩
  have hB2 := hb1.trans (hb2.mono hb1.size)
  obtain ⟨L, hL⟩ : ∃ L, persF h true xs = L := ⟨_, rfl⟩
  rw [hL] at hsl
  have HL := Lib.hid hL
  clear hL
  obtain ⟨A2, c2, rfl, _, _⟩ := hsl.form
  cases L with
  | nil =>
    go_wp2
    go_ret2
    exact ⟨_, _, rfl, fun p rest h => (by rw [HL.out] at h; cases h), hB2⟩
  | cons q L =>
    obtain ⟨b, off, rfl, _, _, c0, _⟩ := hsl.cell1 rfl (k := 0) (by simp) rfl
    replace c0 : w2.cell? ⟨b, off, none⟩ = some (.string q) := by simpa using c0
    have e1 : (((L.length + 1 : Nat) : Int) == 0) = false := by rw [beq_eq_false_iff_ne]; omega
    go_wp2
    go_ret2
    exact ⟨_, _, rfl, fun p rest h => (by rw [HL.out] at h; injection h with h1 h2; exact ⟨h1, rfl⟩), hB2⟩
def lpV (m : Int) : Int := if 0 ≤ m then m else 0
def lpC (m : Int) : Int := if 0 ≤ m then 0 else 3
set_option maxRecDepth 100000 in
set_option maxHeartbeats 1000000 in
theorem orNotFound_any (m : Int) (w : World) :
    Calls Tryz.prog 36 #[.int .i64 m, .bool (decide (0 ≤ m))] w fun e w' => e = .returned (.tuple #[.int .i64 (lpV m), .int .i64 (lpC m)]) ∧ w' = w := by
  unfold lpV lpC
  go_enter Tryz.func36, Tryz.ntmps36
  by_cases h : 0 ≤ m
  · rw [decide_eq_true h, if_pos h, if_pos h]
    go_wp2
    go_ret2
    exact ⟨rfl, rfl⟩
  · rw [decide_eq_false h, if_neg h, if_neg h]
    go_wp2
    go_ret2
    exact ⟨rfl, rfl⟩
set_option maxRecDepth 100000 in
set_option maxHeartbeats 8000000 in
theorem LeastPause_of (v : Value) (xs : List DWatch) (fp : List Nat) (p : ByteArray) (w : World) (hx : Sl fWatch.cod w v xs fp) (hv : watchsB xs = true) :
    Calls Tryz.prog 16 #[v, .string p] w fun e w' => e = .returned (.tuple #[.int .i64 (lpV (leastP xs p (xs.length - 1))), .int .i64 (lpC (leastP xs p (xs.length - 1)))]) ∧ Below w.heap.size w w' := by
  obtain ⟨A, cap, rfl, hlen, hcap⟩ := hx.form
  have hlen2 := watchsB_len hv
  have HV := Lib.hid hv
  go_enter Tryz.func16, Tryz.ntmps16
  go_wp2_with fail
  refine (ValidWatches_any _ xs fp _ hx).mono ?_
  rintro e w1 ⟨rfl, hb1⟩
  have hx1 := hx.below' hb1
  rw [hv]
  clear hx hv
  go_wp2
  go_loopw [6, 7] (fun t i wr => ∃ m : Nat, (m = 0 ∨ m < xs.length) ∧ i = .int .i64 ((m : Int) + 1) ∧ t = .int .i64 (leastP xs p m) ∧ Below w1.heap.size w1 wr) (fun _ i _ => xs.length + 1 - (intOf i).toNat)
  case atStart => exact ⟨0, .inl rfl, rfl, rfl, Below.refl _ _⟩
  case round =>
    obtain ⟨m, hm, rfl, rfl, hb⟩ := hrel
    by_cases hlt : m + 1 < xs.length
    · have hlt' : (m : Int) + 1 < (xs.length : Int) := by omega
      obtain ⟨bb, off, rfl, _, _, hp⟩ := PWatch.elem (hx1.below' hb) hlt
      obtain ⟨b', off', hA, _, _, hp'⟩ := PWatch.elem (hx1.below' hb) (show m < xs.length by omega)
      injection hA with hA
      injection hA with hA1 hA2 _
      subst hA1 hA2
      obtain ⟨c0, c1, c2, c3⟩ := id hp
      obtain ⟨d0, d1, d2, d3⟩ := id hp'
      have hlo := leastP_le HV.out p m (by omega)
      have hw1 := watchB_b (watchsB_one HV.out hlt)
      have hw2 := watchB_b (watchsB_one HV.out (show m < xs.length by omega))
      have HS : Hid (leastP xs p (m + 1) = if (xs[m + 1].person = p ∧ xs[m].person = p) ∧ (leastP xs p m < 0 ∨ xs[m + 1].start - (xs[m].start + xs[m].hours) < leastP xs p m) then xs[m + 1].start - (xs[m].start + xs[m].hours) else leastP xs p m) := by
        show _ = _
        have e : leastP xs p (m + 1) = if bothP xs p m = true ∧ (leastP xs p m < 0 ∨ restAt xs m < leastP xs p m) then restAt xs m else leastP xs p m := rfl
        rw [e]
        unfold restAt bothP
        rw [getD_of_lt hlt, getD_of_lt (show m < xs.length by omega)]
        simp only [Bool.and_eq_true, decide_eq_true_eq]
      generalize leastP xs p m = S0 at *
      generalize xs[m + 1] = y at *
      generalize xs[m]'(by omega) = x at *
      clear hp hp'
      go_wp2
      have hbl : bb < wr.heap.size := block_lt_of_cell c0
      have gc0 := cell_regrown c0
      have gc1 := cell_regrown c1
      have gd0 := cell_regrown d0
      have gd1 := cell_regrown d1
      have gd2 := cell_regrown d2
      have gd3 := cell_regrown d3
      refine wp_region_mix (C := fun w' => ∃ p : Regrown, w' = Go.Sort.grow (redrawn wr p.d) p.os) [true, true, true, true, true, true, true, true, true, true, false, true, true] (by kernel_rfl) (by kernel_rfl) (by kernel_rfl) (fun _ _ d _ _ h => by cases d <;> exact h) (regrown_of_below (Below.drew (Below.refl _ _))) ?_
      have hS0 : Below (wr.heap.size) wr wr.drew := Below.drew (Below.refl _ _)
      refine wpMix_pure (by kernel_rfl) (fun K hK => ?_); go_big_quiet_op; refine hK _ ?_; clear hK K
      refine wpMix_pure (by kernel_rfl) (fun K hK => ?_); go_big_quiet_op; refine hK _ ?_; clear hK K
      refine wpMix_pure (by kernel_rfl) (fun K hK => ?_); go_big_quiet_op; refine hK _ ?_; clear hK K
      refine wpMix_pure (by kernel_rfl) (fun K hK => ?_); go_big_quiet_op; refine hK _ ?_; clear hK K
      refine wpMix_pure (by kernel_rfl) (fun K hK => ?_); go_big_quiet_op; refine hK _ ?_; clear hK K
      refine wpMix_pure (by kernel_rfl) (fun K hK => ?_); go_big_quiet_op; refine hK _ ?_; clear hK K
      refine wpMix_pure (by kernel_rfl) (fun K hK => ?_); go_big_quiet_op; refine hK _ ?_; clear hK K
      refine wpMix_pure (by kernel_rfl) (fun K hK => ?_); go_big_quiet_op; refine hK _ ?_; clear hK K
      refine wpMix_pure (by kernel_rfl) (fun K hK => ?_); go_big_quiet_op; refine hK _ ?_; clear hK K
      refine wpMix_pure (by kernel_rfl) (fun K hK => ?_); go_big_quiet_op; refine hK _ ?_; clear hK K
      refine wpMix_act (by kernel_rfl) (fun K hK => ?_)
      go_big_op
      refine (endW_any x _ hw2).mono ?_
      rintro e wr1 ⟨rfl, hbr1⟩
      have hbr1S : Below (wr.heap.size) wr wr1 := hS0.trans (hbr1.mono hS0.size)
      refine hK _ _ (regrown_of_below hbr1S) ?_
      clear hK K
      refine wpMix_pure (by kernel_rfl) (fun K hK => ?_); go_big_quiet_op; refine hK _ ?_; clear hK K
      refine wpMix_pure (by kernel_rfl) (fun K hK => ?_); go_big_quiet_op; refine hK _ ?_; clear hK K
      refine wpMix_nil ?_
      have hS9 := hbr1S
      have hb9 := hb.trans (hS9.mono hb.size)
      have c0 : wr1.cell? ⟨bb, off + (m + 1) * 4, none⟩ = some (.string y.person) := (hS9.cell (p := ⟨bb, _, none⟩) hbl).trans c0
      have d0 : wr1.cell? ⟨bb, off + m * 4, none⟩ = some (.string x.person) := (hS9.cell (p := ⟨bb, _, none⟩) hbl).trans d0
      clear hS9 hS0 gc0 gc1 gd0 gd1 gd2 gd3 c1 c2 c3 d1 d2 d3
      generalize wr1 = V9 at *
      by_cases hq1 : y.person = p
      · have e1 : (y.person.toList == p.toList) = true := eqS_true.2 hq1
        replace hq1 := Lib.hid hq1
        by_cases hq2 : x.person = p
        · have e2 : (x.person.toList == p.toList) = true := eqS_true.2 hq2
          replace hq2 := Lib.hid hq2
          by_cases hq3 : S0 < 0
          · skip
            have HS2 : Hid (leastP xs p (m + 1) = y.start - (x.start + x.hours)) := by show _ = _; rw [HS.out, if_pos ⟨⟨hq1.out, hq2.out⟩, .inl hq3⟩]
            clear HS hq1 hq2
            go_wp2
            go_roundw
            case rel => exact ⟨m + 1, by omega, by go_num, by rw [HS2.out], hb9⟩
            case measure => simp [intOf]; omega
          · by_cases hq4 : y.start - (x.start + x.hours) < S0
            · skip
              have HS2 : Hid (leastP xs p (m + 1) = y.start - (x.start + x.hours)) := by show _ = _; rw [HS.out, if_pos ⟨⟨hq1.out, hq2.out⟩, .inr hq4⟩]
              clear HS hq1 hq2
              go_wp2
              go_roundw
              case rel => exact ⟨m + 1, by omega, by go_num, by rw [HS2.out], hb9⟩
              case measure => simp [intOf]; omega
            · skip
              have HS2 : Hid (leastP xs p (m + 1) = S0) := by show _ = _; rw [HS.out, if_neg (fun h => by rcases h.2 with h | h; exact hq3 h; exact hq4 h)]
              clear HS hq1 hq2
              go_wp2
              go_roundw
              case rel => exact ⟨m + 1, by omega, by go_num, by rw [HS2.out], hb9⟩
              case measure => simp [intOf]; omega
        · have e2 : (x.person.toList == p.toList) = false := bytes_beq_false hq2
          have HS2 : Hid (leastP xs p (m + 1) = S0) := by show _ = _; rw [HS.out, if_neg (fun h => hq2 h.1.2)]
          clear HS hq1 hq2
          go_wp2
          go_roundw
          case rel => exact ⟨m + 1, by omega, by go_num, by rw [HS2.out], hb9⟩
          case measure => simp [intOf]; omega
      · have e1 : (y.person.toList == p.toList) = false := bytes_beq_false hq1
        have HS2 : Hid (leastP xs p (m + 1) = S0) := by show _ = _; rw [HS.out, if_neg (fun h => hq1 h.1.1)]
        clear HS hq1
        go_wp2
        go_roundw
        case rel => exact ⟨m + 1, by omega, by go_num, by rw [HS2.out], hb9⟩
        case measure => simp [intOf]; omega
    · have hlt' : ¬ (m : Int) + 1 < (xs.length : Int) := by omega
      have hml : m = xs.length - 1 := by omega
      have HM : Hid (leastP xs p (xs.length - 1) = leastP xs p m) := by show _ = _; rw [hml]
      clear hml
      generalize leastP xs p m = S0 at *
      go_wp2_with fail
      refine (orNotFound_any S0 _).mono ?_
      rintro e w' ⟨rfl, rfl⟩
      go_wp2
      go_ret2
      refine ⟨?_, hb1.trans (hb.mono hb1.size)⟩
      rw [HM.out]; rfl
def rowW (L : List Nat) (i : Nat) : List Int := [((L.getD i 0 : Nat) : Int), ((L.getD i 0 : Nat) : Int) + 1]
theorem rowW_ok {L : List Nat} (h : ∀ q ∈ L, q ≤ 1000) (i : Nat) : ∀ x ∈ rowW L i, fInt.ok x := by
  have hq : L.getD i 0 ≤ 1000 := by
    rw [List.getD_eq_getElem?_getD]
    rcases Nat.lt_or_ge i L.length with hi | hi
    · rw [List.getElem?_eq_getElem hi]; exact h _ (List.getElem_mem hi)
    · rw [List.getElem?_eq_none hi]; exact Nat.zero_le _
  intro x hx
  unfold rowW at hx
  simp only [List.mem_cons, List.not_mem_nil, or_false] at hx
  rcases hx with rfl | rfl <;> (show _ ∧ _; omega)
theorem rowW_push (L : List Nat) (m i : Nat) (hi : i < L.length + 1) : (if i = L.length then [(m : Int), (m : Int) + 1] else rowW L i) = rowW (L ++ [m]) i := by
  unfold rowW
  rcases Nat.lt_or_eq_of_le (Nat.le_of_lt_succ hi) with h | rfl
  · rw [if_neg (by omega)]
    simp [List.getElem?_append_left h]
  · rw [if_pos rfl]
    simp
def spC (xs : List DWatch) (r : Int) : Int := if watchsB xs then (if inB r 0 100 then 0 else 2) else 1
def spF (xs : List DWatch) (r : Int) : List (List Int) := if spC xs r = 0 then (List.range (shortL xs r (xs.length - 1)).length).map (rowW (shortL xs r (xs.length - 1))) else []
theorem sp_bad {xs : List DWatch} {r c : Int} (h : spC xs r = c) (h0 : c ≠ 0) : spC xs r = c ∧ spF xs r = [] := ⟨h, by unfold spF; rw [if_neg (by rw [h]; exact h0)]⟩
theorem infoRowW : (Tryz.prog.info? 47).map (fun i => (i.zero, i.size, i.bytes)) = some (some (.slice none 0 0), 1, 24) := by kernel_rfl
def SpR (xs : List DWatch) (r : Int) (w : World) (e : Ending) (w' : World) : Prop := ∃ v' fq, e = .returned (.tuple #[v', .int .i64 (spC xs r)]) ∧ Sl fInt.cod.slice w' v' (spF xs r) fq ∧ (∀ b ∈ fq, w.heap.size ≤ b) ∧ Below w.heap.size w w'
set_option maxRecDepth 100000 in
set_option maxHeartbeats 8000000 in
theorem ShortPauses_any (v : Value) (xs : List DWatch) (fp : List Nat) (r : Int) (w : World) (hx : Sl fWatch.cod w v xs fp) :
    Calls Tryz.prog 15 #[v, .int .i64 r] w fun e w' => SpR xs r w e w' := by
  obtain ⟨A, cap, rfl, hlen, hcap⟩ := hx.form
  obtain ⟨i0, hi, hz0, hz1, hz2⟩ := info_parts infoRowW
  have hnil : ∀ W : World, ∃ fq, Sl fInt.cod.slice W (.slice none 0 0) [] fq ∧ (∀ b ∈ fq, w.heap.size ≤ b) := fun W => by
    obtain ⟨fq, h1, h2, _⟩ := (PgW.nil (c := 0) (show W.ownsRow w.heap.size 47 1 (.slice none 0 0) 0 [] from Own.nil fInt _ _ _)).sl (xss := []) rfl (fun i hi => absurd hi (Nat.not_lt_zero i))
    exact ⟨fq, h1, h2⟩
  go_enter Tryz.func15, Tryz.ntmps15
  go_wp2_with fail
  refine (ValidWatches_any _ xs fp _ hx).mono ?_
  rintro e w1 ⟨rfl, hb1⟩
  have hx1 := hx.below' hb1
  clear hx
  cases hv : watchsB xs
  · have HE := Lib.hid (sp_bad (show spC xs r = 1 by unfold spC; rw [hv]; rfl) (by decide))
    obtain ⟨fq, hn1, hn2⟩ := hnil w1
    clear hnil
    go_wp2
    go_ret2
    exact ⟨_, fq, by rw [HE.out.1]; rfl, by rw [HE.out.2]; exact hn1, hn2, hb1⟩
  go_wp2_with fail
  refine (withinB_any _ _ _ _).mono ?_
  rintro e w' ⟨rfl, rfl⟩
  cases hr : inB r 0 100
  · have HE := Lib.hid (sp_bad (show spC xs r = 2 by unfold spC; rw [hv, hr]; rfl) (by decide))
    obtain ⟨fq, hn1, hn2⟩ := hnil w1
    clear hnil hr
    go_wp2
    go_ret2
    exact ⟨_, fq, by rw [HE.out.1]; rfl, by rw [HE.out.2]; exact hn1, hn2, hb1⟩
  have hC : spC xs r = 0 := by unfold spC; rw [hv, hr]; rfl
  have HE : Hid (spC xs r = 0 ∧ spF xs r = (List.range (shortL xs r (xs.length - 1)).length).map (rowW (shortL xs r (xs.length - 1)))) := ⟨hC, by unfold spF; rw [if_pos hC]⟩
  have hlen2 := watchsB_len hv
  have HV := Lib.hid hv
  have hrb := inB_true.1 hr
  clear hC hr hv hnil
  go_wp2
  go_loopw [6, 7] (fun t i wr => ∃ (m : Nat) (V : Nat → Value) (G : Nat → Nat), (m = 0 ∨ m < xs.length) ∧ i = .int .i64 ((m : Int) + 1) ∧ PgW wr w1.heap.size t (shortL xs r m).length V (rowW (shortL xs r m)) G ∧ Below w.heap.size w wr ∧ Below w1.heap.size w1 wr) (fun _ i _ => xs.length + 1 - (intOf i).toNat)
  case atStart => exact ⟨0, fun _ => undef, fun _ => 0, .inl rfl, rfl, (PgW.nil (c := 0) (show w1.ownsRow w1.heap.size 47 1 (.slice none 0 0) 0 [] from Own.nil fInt _ _ _)).congr (fun i hi => absurd hi (Nat.not_lt_zero i)), hb1, Below.refl _ _⟩
  case round =>
    obtain ⟨m, V, G, hm, rfl, hpg, hbW, hb⟩ := hrel
    obtain ⟨A6, c6, rfl⟩ := hpg.form
    have hql := shortL_len xs r m
    by_cases hlt : m + 1 < xs.length
    · have hlt' : (m : Int) + 1 < (xs.length : Int) := by omega
      obtain ⟨bb, off, rfl, _, _, hp⟩ := PWatch.elem (hx1.below' hb) hlt
      obtain ⟨b', off', hA, _, _, hp'⟩ := PWatch.elem (hx1.below' hb) (show m < xs.length by omega)
      injection hA with hA
      injection hA with hA1 hA2 _
      subst hA1 hA2
      obtain ⟨c0, c1, c2, c3⟩ := id hp
      obtain ⟨d0, d1, d2, d3⟩ := id hp'
      have hw1 := watchB_b (watchsB_one HV.out hlt)
      have hw2 := watchB_b (watchsB_one HV.out (show m < xs.length by omega))
      have HS : Hid (shortL xs r (m + 1) = if (xs[m + 1].person = xs[m].person ∧ xs[m + 1].start - (xs[m].start + xs[m].hours) < r) then shortL xs r m ++ [m] else shortL xs r m) := by
        show _ = _
        rw [shortL_succ]
        unfold shortB sameP restAt
        rw [getD_of_lt hlt, getD_of_lt (show m < xs.length by omega)]
        simp only [Bool.and_eq_true, decide_eq_true_eq]
      generalize shortL xs r m = L at *
      generalize xs[m + 1] = y at *
      generalize xs[m]'(by omega) = x at *
      clear hp hp'
      go_wp2
      have gc0 := cell_regrown c0
      have gc1 := cell_regrown c1
      have gd0 := cell_regrown d0
      have gd1 := cell_regrown d1
      have gd2 := cell_regrown d2
      have gd3 := cell_regrown d3
      refine wp_region_mixed [0, 1, 2, 3, 4, 5, 6, 7, 8, 9, 10, 11, 12, 13, 14, 15, 16, 17, 18, 19, 20, 21, 22, 25, 23, 24, 26, 27] (C := fun w' => ∃ p : Regrown, w' = Go.Sort.grow (redrawn wr p.d) p.os) [true, true, true, true, true, true, true, true, true, true, true, true, true, true, true, true, true, true, true, true, true, true, true, true, false, true, true, true] (by kernel_rfl) (by kernel_rfl) (by kernel_rfl) (fun _ _ d _ _ h => by cases d <;> exact h) (regrown_of_below (Below.drew (Below.refl _ _))) ?_
      simp only [List.map_cons, List.map_nil, List.getD_cons_zero, List.getD_cons_succ]
      have hS0 : Below (wr.heap.size) wr wr.drew := Below.drew (Below.refl _ _)
      refine wpMix_pure (by kernel_rfl) (fun K hK => ?_); go_big_quiet_op; refine hK _ ?_; clear hK K
      refine wpMix_pure (by kernel_rfl) (fun K hK => ?_); go_big_quiet_op; refine hK _ ?_; clear hK K
      refine wpMix_pure (by kernel_rfl) (fun K hK => ?_); go_big_quiet_op; refine hK _ ?_; clear hK K
      refine wpMix_pure (by kernel_rfl) (fun K hK => ?_); go_big_quiet_op; refine hK _ ?_; clear hK K
      refine wpMix_pure (by kernel_rfl) (fun K hK => ?_); go_big_quiet_op; refine hK _ ?_; clear hK K
      refine wpMix_pure (by kernel_rfl) (fun K hK => ?_); go_big_quiet_op; refine hK _ ?_; clear hK K
      refine wpMix_pure (by kernel_rfl) (fun K hK => ?_); go_big_quiet_op; refine hK _ ?_; clear hK K
      refine wpMix_pure (by kernel_rfl) (fun K hK => ?_); go_big_quiet_op; refine hK _ ?_; clear hK K
      refine wpMix_pure (by kernel_rfl) (fun K hK => ?_); go_big_quiet_op; refine hK _ ?_; clear hK K
      refine wpMix_pure (by kernel_rfl) (fun K hK => ?_); go_big_quiet_op; refine hK _ ?_; clear hK K
      refine wpMix_pure (by kernel_rfl) (fun K hK => ?_); go_big_quiet_op; refine hK _ ?_; clear hK K
      by_cases hq11 : y.person = x.person
      · skip
        have e1 : (y.person.toList == x.person.toList) = true := eqS_true.2 hq11
        replace hq11 := Lib.hid hq11
        refine wpMix_pure (by kernel_rfl) (fun K hK => ?_); go_big_quiet_op; refine hK _ ?_; clear hK K
        refine wpMix_pure (by kernel_rfl) (fun K hK => ?_); go_big_quiet_op; refine hK _ ?_; clear hK K
        refine wpMix_pure (by kernel_rfl) (fun K hK => ?_); go_big_quiet_op; refine hK _ ?_; clear hK K
        refine wpMix_pure (by kernel_rfl) (fun K hK => ?_); go_big_quiet_op; refine hK _ ?_; clear hK K
        refine wpMix_pure (by kernel_rfl) (fun K hK => ?_); go_big_quiet_op; refine hK _ ?_; clear hK K
        refine wpMix_pure (by kernel_rfl) (fun K hK => ?_); go_big_quiet_op; refine hK _ ?_; clear hK K
        refine wpMix_pure (by kernel_rfl) (fun K hK => ?_); go_big_quiet_op; refine hK _ ?_; clear hK K
        refine wpMix_pure (by kernel_rfl) (fun K hK => ?_); go_big_quiet_op; refine hK _ ?_; clear hK K
        refine wpMix_pure (by kernel_rfl) (fun K hK => ?_); go_big_quiet_op; refine hK _ ?_; clear hK K
        refine wpMix_pure (by kernel_rfl) (fun K hK => ?_); go_big_quiet_op; refine hK _ ?_; clear hK K
        refine wpMix_pure (by kernel_rfl) (fun K hK => ?_); go_big_quiet_op; refine hK _ ?_; clear hK K
        refine wpMix_pure (by kernel_rfl) (fun K hK => ?_); go_big_quiet_op; refine hK _ ?_; clear hK K
        refine wpMix_pure (by kernel_rfl) (fun K hK => ?_); go_big_quiet_op; refine hK _ ?_; clear hK K
        refine wpMix_act (by kernel_rfl) (fun K hK => ?_)
        go_big_op
        refine (endW_any x _ hw2).mono ?_
        rintro e wr1 ⟨rfl, hbr1⟩
        have hbr1S : Below (wr.heap.size) wr wr1 := hS0.trans (hbr1.mono hS0.size)
        refine hK _ _ (regrown_of_below hbr1S) ?_
        clear hK K
        refine wpMix_pure (by kernel_rfl) (fun K hK => ?_); go_big_quiet_op; refine hK _ ?_; clear hK K
        by_cases hq26 : y.start - (x.start + x.hours) < r
        · skip
          have e3 : decide (y.start - (x.start + x.hours) < r) = true := by simpa using hq26
          refine wpMix_pure (by kernel_rfl) (fun K hK => ?_); go_big_quiet_op; refine hK _ ?_; clear hK K
          refine wpMix_pure (by kernel_rfl) (fun K hK => ?_); go_big_quiet_op; refine hK _ ?_; clear hK K
          refine wpMix_nil ?_
          have hS9 := hbr1S
          have hb9 := hb.trans (hS9.mono hb.size)
          have hbW9 := hbW.trans (hS9.mono hbW.size)
          have hpg9 := hpg.below hS9
          clear hS9 hS0 gc0 gc1 gd0 gd1 gd2 gd3 c0 c1 c2 c3 d0 d1 d2 d3 hpg hb hbW
          have HS2 : Hid (shortL xs r (m + 1) = L ++ [m]) := by show _ = _; rw [HS.out, if_pos ⟨hq11.out, hq26⟩]
          clear HS hq11
          generalize wr1 = V9 at *
          have hBs : w1.heap.size ≤ V9.heap.size := hb9.size
          have hBw : w.heap.size ≤ V9.heap.size := hbW9.size
          have hpA : PgW ((V9.alloc (.cells #[.int .i64 (m : Int), .int .i64 ((m : Int) + 1)] 2)).alloc (.cells #[.slice (some ⟨V9.heap.size, 0, none⟩) 2 2] 47)) w1.heap.size (.slice A6 L.length c6) L.length V (rowW L) G := (hpg9.below ((Below.refl _ _).alloc (Nat.le_refl _) _)).below ((Below.refl _ _).alloc (Nat.le_refl _) _)
          have hyA : Own fInt ((V9.alloc (.cells #[.int .i64 (m : Int), .int .i64 ((m : Int) + 1)] 2)).alloc (.cells #[.slice (some ⟨V9.heap.size, 0, none⟩) 2 2] 47)) w1.heap.size 2 (.slice (some ⟨V9.heap.size, 0, none⟩) 2 2) [(m : Int), (m : Int) + 1] := World.ownsRow.alloc (World.ownsRow_lit (e := 2) (size := 1) V9 #[.int .i64 (m : Int), .int .i64 ((m : Int) + 1)] 2 hBs (by decide) rfl) _
          have hbA : Below w.heap.size w ((V9.alloc (.cells #[.int .i64 (m : Int), .int .i64 ((m : Int) + 1)] 2)).alloc (.cells #[.slice (some ⟨V9.heap.size, 0, none⟩) 2 2] 47)) := (hbW9.alloc hBw _).alloc (by rw [World.size_alloc]; omega) _
          have hb1A : Below w1.heap.size w1 ((V9.alloc (.cells #[.int .i64 (m : Int), .int .i64 ((m : Int) + 1)] 2)).alloc (.cells #[.slice (some ⟨V9.heap.size, 0, none⟩) 2 2] 47)) := (hb9.alloc hb9.size _).alloc (by have := hb9.size; rw [World.size_alloc]; omega) _
          have hvy : ((.slice A6 L.length c6) : Value).ownBlock ≠ some V9.heap.size := fun e => by have := (hpg9.own.lt _ e).2; omega
          have hnw : ∀ (j : Nat) (u : Value), [(.slice (some ⟨V9.heap.size, 0, none⟩) 2 2 : Value)][j]? = some u → ((V9.alloc (.cells #[.int .i64 (m : Int), .int .i64 ((m : Int) + 1)] 2)).alloc (.cells #[.slice (some ⟨V9.heap.size, 0, none⟩) 2 2] 47)).cell? ((⟨V9.heap.size + 1, 0, none⟩ : Addr).add j) = some u := fun j u hj => by
            match j, hj with
            | 0, hj => injection hj with hj; subst hj; simp [Addr.add]
            | j + 1, hj => simp at hj
          obtain ⟨LV, hLV⟩ : ∃ LV : List Value, LV = (List.range (L.length)).map V := ⟨_, rfl⟩
          have hown0 := hpA.own
          rw [← hLV] at hown0
          have HLV := Lib.hid hLV
          have hGy : ∀ i, i < L.length → G i ≠ V9.heap.size := fun i hi e => by have := (hpg9.gl hi).2; omega
          clear hLV
          go_wp2_with (at_builtin; refine wpList_append_lies _ rfl _ _ 44 rfl w1.heap.size 47 i0 (.slice none 0 0) 1 24 Tryz.underlying44 hi hz0 hz1 hz2 rfl (by decide) (.slice A6 L.length c6) L.length _ rfl hown0 _ 1 1 [.slice (some ⟨V9.heap.size, 0, none⟩) 2 2] rfl rfl hnw (by intro u hu; rw [List.mem_singleton] at hu; subst hu; rfl) (by decide) (by unfold maxLen; omega) (by omega) (by simp; omega) (V9.heap.size + 2) (by simp) ?_)
          intro g5 c5 w5 hown5 hgr5 hat5 hlt5
          rw [HLV.out] at hown5
          clear hown0 HLV hnw
          have hl5 : (Value.slice (some ⟨g5, 0, none⟩) (L.length + 1) c5).ownBlock = ((.slice A6 L.length c6) : Value).ownBlock ∨ (Value.slice (some ⟨g5, 0, none⟩) (L.length + 1) c5).ownBlock = some (((V9.alloc (.cells #[.int .i64 (m : Int), .int .i64 ((m : Int) + 1)] 2)).alloc (.cells #[.slice (some ⟨V9.heap.size, 0, none⟩) 2 2] 47))).heap.size := by
            rcases hat5 with e | e
            · exact .inl e.symm
            · refine .inr ?_
              show some g5 = _
              rw [e]; simp
          have hp2 := hpA.push hyA rfl hGy hvy hown5 hgr5 hl5
          have hb5W : Below w.heap.size w w5 := hbA.grown hgr5 (by simp; omega) (fun k hk => by have := (hpg9.own.lt k hk).1; have := hb1.size; omega)
          have hb5 : Below w1.heap.size w1 w5 := hb1A.grown hgr5 (by have := hb9.size; simp; omega) (fun k hk => (hpg9.own.lt k hk).1)
          have hlL : (L ++ [m]).length = L.length + 1 := by rw [List.length_append]; rfl
          have hp3 := hp2.congr (fun i hi => rowW_push L m i hi)
          rw [← hlL] at hp3
          rw [← hlL]
          clear hown5 hgr5 hat5 hlt5 hl5 hp2 hlL hGy hvy hbA hb1A hyA hpA
          go_wp2
          go_roundw
          case rel => exact ⟨m + 1, _, _, by omega, by go_num, by rw [HS2.out]; exact hp3, hb5W, hb5⟩
          case measure => simp [intOf]; omega
        · skip
          have e3 : decide (y.start - (x.start + x.hours) < r) = false := by simpa using hq26
          refine wpMix_pure (by kernel_rfl) (fun K hK => ?_); go_big_quiet_op; refine hK _ ?_; clear hK K
          refine wpMix_pure (by kernel_rfl) (fun K hK => ?_); go_big_quiet_op; refine hK _ ?_; clear hK K
          refine wpMix_nil ?_
          have hS9 := hbr1S
          have hb9 := hb.trans (hS9.mono hb.size)
          have hbW9 := hbW.trans (hS9.mono hbW.size)
          have hpg9 := hpg.below hS9
          clear hS9 hS0 gc0 gc1 gd0 gd1 gd2 gd3 c0 c1 c2 c3 d0 d1 d2 d3 hpg hb hbW
          have HS2 : Hid (shortL xs r (m + 1) = L) := by show _ = _; rw [HS.out, if_neg (fun h => hq26 h.2)]
          clear HS
          (try clear hq11)
          generalize wr1 = V9 at *
          go_wp2
          go_roundw
          case rel => exact ⟨m + 1, V, G, by omega, by go_num, by rw [HS2.out]; exact hpg9, hbW9, hb9⟩
          case measure => simp [intOf]; omega
      · skip
        have e1 : (y.person.toList == x.person.toList) = false := bytes_beq_false hq11
        refine wpMix_pure (by kernel_rfl) (fun K hK => ?_); go_big_quiet_op; refine hK _ ?_; clear hK K
        refine wpMix_pure (by kernel_rfl) (fun K hK => ?_); go_big_quiet_op; refine hK _ ?_; clear hK K
        refine wpMix_skip (by kernel_rfl) (fun K hK => ?_)
        simp only [Act.put, List.setIfInBounds_toArray, List.set_cons_zero, List.set_cons_succ]
        refine hK _ ?_; clear hK K
        refine wpMix_skip (by kernel_rfl) (fun K hK => ?_)
        simp only [Act.put, List.setIfInBounds_toArray, List.set_cons_zero, List.set_cons_succ]
        refine hK _ ?_; clear hK K
        refine wpMix_skip (by kernel_rfl) (fun K hK => ?_)
        simp only [Act.put, List.setIfInBounds_toArray, List.set_cons_zero, List.set_cons_succ]
        refine hK _ ?_; clear hK K
        refine wpMix_skip (by kernel_rfl) (fun K hK => ?_)
        simp only [Act.put, List.setIfInBounds_toArray, List.set_cons_zero, List.set_cons_succ]
        refine hK _ ?_; clear hK K
        refine wpMix_skip (by kernel_rfl) (fun K hK => ?_)
        simp only [Act.put, List.setIfInBounds_toArray, List.set_cons_zero, List.set_cons_succ]
        refine hK _ ?_; clear hK K
        refine wpMix_skip (by kernel_rfl) (fun K hK => ?_)
        simp only [Act.put, List.setIfInBounds_toArray, List.set_cons_zero, List.set_cons_succ]
        refine hK _ ?_; clear hK K
        refine wpMix_skip (by kernel_rfl) (fun K hK => ?_)
        simp only [Act.put, List.setIfInBounds_toArray, List.set_cons_zero, List.set_cons_succ]
        refine hK _ ?_; clear hK K
        refine wpMix_skip (by kernel_rfl) (fun K hK => ?_)
        simp only [Act.put, List.setIfInBounds_toArray, List.set_cons_zero, List.set_cons_succ]
        refine hK _ ?_; clear hK K
        refine wpMix_skip (by kernel_rfl) (fun K hK => ?_)
        simp only [Act.put, List.setIfInBounds_toArray, List.set_cons_zero, List.set_cons_succ]
        refine hK _ ?_; clear hK K
        refine wpMix_skip (by kernel_rfl) (fun K hK => ?_)
        simp only [Act.put, List.setIfInBounds_toArray, List.set_cons_zero, List.set_cons_succ]
        refine hK _ ?_; clear hK K
        refine wpMix_skip (by kernel_rfl) (fun K hK => ?_)
        simp only [Act.put, List.setIfInBounds_toArray, List.set_cons_zero, List.set_cons_succ]
        refine hK _ ?_; clear hK K
        refine wpMix_skip (by kernel_rfl) (fun K hK => ?_)
        simp only [Act.put, List.setIfInBounds_toArray, List.set_cons_zero, List.set_cons_succ]
        refine hK _ ?_; clear hK K
        refine wpMix_skip (by kernel_rfl) (fun K hK => ?_)
        simp only [Act.put, List.setIfInBounds_toArray, List.set_cons_zero, List.set_cons_succ]
        refine hK _ ?_; clear hK K
        refine wpMix_skip (by kernel_rfl) (fun K hK => ?_)
        simp only [Act.put, List.setIfInBounds_toArray, List.set_cons_zero, List.set_cons_succ]
        refine hK _ ?_; clear hK K
        refine wpMix_pure (by kernel_rfl) (fun K hK => ?_); go_big_quiet_op; refine hK _ ?_; clear hK K
        refine wpMix_nil ?_
        have hS9 := hS0
        have hb9 := hb.trans (hS9.mono hb.size)
        have hbW9 := hbW.trans (hS9.mono hbW.size)
        have hpg9 := hpg.below hS9
        clear hS9 hS0 gc0 gc1 gd0 gd1 gd2 gd3 c0 c1 c2 c3 d0 d1 d2 d3 hpg hb hbW
        have HS2 : Hid (shortL xs r (m + 1) = L) := by show _ = _; rw [HS.out, if_neg (fun h => hq11 h.1)]
        clear HS
        (try clear hq11)
        generalize wr.drew = V9 at *
        go_wp2
        go_roundw
        case rel => exact ⟨m + 1, V, G, by omega, by go_num, by rw [HS2.out]; exact hpg9, hbW9, hb9⟩
        case measure => simp [intOf]; omega
    · have hlt' : ¬ (m : Int) + 1 < (xs.length : Int) := by omega
      have hml : m = xs.length - 1 := by omega
      subst hml
      obtain ⟨fq, hs1, hs2, _⟩ := hpg.sl (xss := spF xs r) HE.out.2 (fun i _ => rowW_ok (fun q hq => by have := (shortL_mem.1 hq).1; omega) i)
      clear hpg
      go_wp2
      go_ret2
      exact ⟨_, fq, by rw [HE.out.1]; rfl, hs1, fun b hb => Nat.le_trans hb1.size (hs2 b hb), hbW⟩

end Go.Proofs.YtmlconbekkdahaaGreatDoor

namespace Go.Proofs.YtmlconbekkdahaaGreatDoor
open Go.RowKit
set_option linter.unusedVariables false

def totString (x : ByteArray) : Nat := x.size
def totStringS (xs : List ByteArray) : Nat := xs.length + (xs.map totString).sum




def mkString (k : Int) : ByteArray := mt (k)
def marksString (k : Int) (n : Nat) : List ByteArray := (List.range n).map fun (i : Nat) => mkString (k + 1 * (i : Int))

theorem marksString_get (k0 : Int) (n i : Nat) (h : i < (marksString k0 n).length) : (marksString k0 n)[i] = mkString (k0 + 1 * (i : Int)) := by
  simp [marksString]
theorem marksString_len (k0 : Int) (n : Nat) : (marksString k0 n).length = n := by simp [marksString]



end Go.Proofs.YtmlconbekkdahaaGreatDoor

namespace Go.Proofs.YtmlconbekkdahaaGreatDoor
open Go.RowKit
set_option linter.unusedVariables false

/-! ### lists of strings in order -/
def Srt (L : List ByteArray) : Prop := L.Pairwise (fun a b => ltS b a = false)
def srtF (L : List ByteArray) : List ByteArray := L.mergeSort (fun a b => !ltS b a)
theorem leS_trans {a b c : ByteArray} (h1 : ltS b a = false) (h2 : ltS c b = false) : ltS c a = false := by
  cases h : ltS c a with
  | false => rfl
  | true =>
    cases h3 : ltS b c with
    | true => have := ltS_trans h3 h; rw [this] at h1; cases h1
    | false =>
      have := ltS_tri h3 h2
      subst this
      rw [h] at h1; cases h1
theorem leS_total (a b : ByteArray) : (!ltS b a || !ltS a b) = true := by
  cases h : ltS b a with
  | false => rfl
  | true => rw [ltS_asymm h]; rfl
theorem srtF_perm (L : List ByteArray) : (srtF L).Perm L := List.mergeSort_perm _ _
theorem srtF_srt (L : List ByteArray) : Srt (srtF L) := by
  have h := List.pairwise_mergeSort (le := fun a b => !ltS b a) (fun a b c h1 h2 => by simp at *; exact leS_trans h1 h2) leS_total L
  exact h.imp (fun h => by simpa using h)
theorem srt_unique {a b : List ByteArray} (ha : Srt a) (hb : Srt b) (h : a.Perm b) : a = b :=
  List.Perm.eq_of_pairwise (fun x y _ _ h1 h2 => ltS_tri h2 h1) ha hb h
theorem srtF_of {a L : List ByteArray} (ha : Srt a) (h : a.Perm L) : a = srtF L := srt_unique ha (srtF_srt L) (h.trans (srtF_perm L).symm)
theorem srtF_len (L : List ByteArray) : (srtF L).length = L.length := (srtF_perm L).length_eq
/-- x put in behind the first k of A. -/
theorem srt_insert {A : List ByteArray} {x : ByteArray} {k : Nat} (hA : Srt A) (h1 : ∀ y ∈ A.take k, ltS x y = false) (h2 : ∀ y ∈ A.drop k, ltS y x = false) : Srt (A.take k ++ x :: A.drop k) := by
  unfold Srt at *
  rw [List.pairwise_append, List.pairwise_cons]
  refine ⟨hA.take, ⟨h2, hA.drop⟩, ?_⟩
  intro a ha b hb
  rcases List.mem_cons.1 hb with rfl | hb
  · exact h1 a ha
  · rw [← List.take_append_drop k A, List.pairwise_append] at hA
    exact hA.2.2 a ha b hb
theorem srt_below {A : List ByteArray} {x : ByteArray} {k : Nat} (hA : Srt A) (hk : k < A.length) (h : ltS x A[k] = false) : ∀ y ∈ A.take (k + 1), ltS x y = false := by
  intro y hy
  obtain ⟨m, hm, rfl⟩ := List.getElem_of_mem hy
  simp at hm
  rw [List.getElem_take]
  rcases Nat.lt_or_ge m k with h2 | h2
  · exact leS_trans (List.pairwise_iff_getElem.1 hA m k (by omega) hk h2) h
  · obtain rfl : m = k := by omega
    exact h
theorem srt_take1 : ∀ L : List ByteArray, Srt (L.take 1)
  | [] => List.Pairwise.nil
  | x :: L => by simp [Srt]
theorem gtS_cases (a b : ByteArray) : (ltS b a = false ∧ Op.bytesLess a.toList b.toList = true) ∨ (ltS b a = false ∧ Op.bytesLess a.toList b.toList = false ∧ (a.toList == b.toList) = true) ∨ (ltS b a = true ∧ Op.bytesLess a.toList b.toList = false ∧ (a.toList == b.toList) = false) := by
  cases h : ltS b a with
  | true =>
    refine .inr (.inr ⟨rfl, ltS_asymm h, bytes_beq_false (fun e => ?_)⟩)
    subst e; rw [ltS_irrefl] at h; cases h
  | false =>
    cases h1 : ltS a b with
    | true => exact .inl ⟨rfl, h1⟩
    | false => exact .inr (.inl ⟨rfl, h1, eqS_true.2 (ltS_tri h1 h)⟩)
/-- The rows of the insertion: x at place k of A, R behind. -/
def insL (A : List ByteArray) (x : ByteArray) (R : List ByteArray) (k : Nat) : List ByteArray := A.take k ++ x :: (A.drop k ++ R)
theorem insL_len {A R : List ByteArray} {x : ByteArray} {k : Nat} (hk : k ≤ A.length) : (insL A x R k).length = A.length + 1 + R.length := by
  unfold insL; simp; omega
theorem insL_at {A R : List ByteArray} {x : ByteArray} {k : Nat} (hk : k ≤ A.length) : (insL A x R k)[k]? = some x := by
  unfold insL; rw [List.getElem?_append_right (by simp; omega)]; simp [Nat.min_eq_left hk]
theorem insL_before {A R : List ByteArray} {x : ByteArray} {k : Nat} (hk : k + 1 ≤ A.length) : (insL A x R (k + 1))[k]? = some A[k] := by
  unfold insL; rw [List.getElem?_append_left (by simp; omega)]; simp
theorem insL_swap {A R : List ByteArray} {x : ByteArray} {k : Nat} (hk : k + 1 ≤ A.length) : ((insL A x R (k + 1)).set (k + 1) A[k]).set k x = insL A x R k := by
  apply List.ext_getElem?
  intro j
  have hl : (A.take (k + 1)).length = k + 1 := by simp; omega
  have hl2 : (A.take k).length = k := by simp; omega
  have hd : A.drop k = A[k] :: A.drop (k + 1) := List.drop_eq_getElem_cons (by omega)
  unfold insL
  rw [List.getElem?_set, List.getElem?_set]
  simp only [List.length_set, List.length_append, hl, List.length_cons, List.length_drop]
  by_cases h1 : k = j
  · subst h1
    rw [if_pos rfl, if_pos (by omega), List.getElem?_append_right (by omega), hl2]
    simp
  · rw [if_neg h1]
    by_cases h2 : k + 1 = j
    · subst h2
      rw [if_pos rfl, if_pos (by omega), List.getElem?_append_right (by omega), hl2, hd]
      generalize A[k] = a
      generalize A.drop (k + 1) = D
      simp
    · rw [if_neg h2]
      rcases Nat.lt_or_ge j k with h3 | h3
      · rw [List.getElem?_append_left (by omega), List.getElem?_append_left (by omega), List.getElem?_take, List.getElem?_take, if_pos (by omega), if_pos h3]
      · rw [List.getElem?_append_right (by omega), List.getElem?_append_right (by omega), hl, hl2, hd]
        obtain ⟨d, rfl⟩ : ∃ d, j = k + 2 + d := ⟨j - k - 2, by omega⟩
        rw [show k + 2 + d - (k + 1) = d + 1 by omega, show k + 2 + d - k = d + 1 + 1 by omega]
        generalize A[k] = a
        generalize A.drop (k + 1) = D
        simp
theorem insL_perm {A R : List ByteArray} {x : ByteArray} {k : Nat} : (insL A x R k).Perm (A ++ x :: R) := by
  unfold insL
  have h1 : (A.take k ++ x :: (A.drop k ++ R)).Perm (x :: (A.take k ++ (A.drop k ++ R))) := List.perm_middle
  have h2 : (A ++ x :: R).Perm (x :: (A ++ R)) := List.perm_middle
  rw [← List.append_assoc, List.take_append_drop] at h1
  exact h1.trans h2.symm
theorem insL_app {A R : List ByteArray} {x : ByteArray} {k : Nat} : insL A x [] k ++ R = insL A x R k := by unfold insL; simp
theorem insL_full {A R : List ByteArray} {x : ByteArray} : insL A x R A.length = A ++ x :: R := by unfold insL; simp

/-! ### a place of a row of the call's own -/
theorem flat1_set {α : Type} {E : Flat α} (h1 : E.n = 1) : ∀ (L : List α) (k : Nat) (y : α) (u : Value), E.enc y = [u] → (L.flatMap E.enc).set k u = (L.set k y).flatMap E.enc
  | [], k, y, u, hu => by simp
  | x :: L, 0, y, u, hu => by
    have hl := E.len x
    rw [h1] at hl
    obtain ⟨a, ha⟩ := List.length_eq_one_iff.1 hl
    simp [ha, hu]
  | x :: L, k + 1, y, u, hu => by
    have hl := E.len x
    rw [h1] at hl
    obtain ⟨a, ha⟩ := List.length_eq_one_iff.1 hl
    have ih := flat1_set h1 L k y u hu
    simp [ha, ih]
theorem Own.set1 {α : Type} {E : Flat α} (h1 : E.n = 1) {w : World} {base : Nat} {e : TypeId} {g n cap : Nat} {L : List α} (h : Own E w base e (.slice (some ⟨g, 0, none⟩) n cap) L) (k : Nat) (y : α) (u : Value) (hu : E.enc y = [u]) :
    Own E (w.setCell ⟨g, k, none⟩ u) base e (.slice (some ⟨g, 0, none⟩) n cap) (L.set k y) := by
  have hn : n = L.length := by
    rcases h.2 with ⟨hv, _⟩ | ⟨g', cap', cur, hv, _⟩
    · cases hv
    · injection hv
  have h' : w.ownsRow base e E.n (.slice (some ⟨g, 0, none⟩) L.length cap) L.length (L.flatMap E.enc) := by rw [hn] at h; exact h
  have h2 := (h'.stored k u).1
  rw [flat1_set h1 L k y u hu] at h2
  show World.ownsRow _ base e E.n _ (L.set k y).length _
  rw [List.length_set, hn]
  exact h2
theorem Own.cellS {w : World} {base : Nat} {e : TypeId} {g n cap : Nat} {L : List ByteArray} (h : Own fStr w base e (.slice (some ⟨g, 0, none⟩) n cap) L) {k : Nat} {x : ByteArray} (hx : L[k]? = some x) : w.cell? ⟨g, k, none⟩ = some (.string x) := by
  have hn : n = L.length := by
    rcases h.2 with ⟨hv, _⟩ | ⟨g', cap', cur, hv, _⟩
    · cases hv
    · injection hv
  have h' : w.ownsRow base e 1 (.slice (some ⟨g, 0, none⟩) L.length cap) L.length (L.flatMap fStr.enc) := by rw [hn] at h; exact h
  have hk : k < L.length := by
    rcases Nat.lt_or_ge k L.length with h | h
    · exact h
    · rw [List.getElem?_eq_none h] at hx; cases hx
  rw [h'.cellAt k (by omega)]
  have := flat_get fStr.enc 1 L (fun x _ => fStr.len x) k hk 0 (by omega)
  simp only [Nat.mul_one, Nat.add_zero] at this
  rw [this]
  have e1 : L[k] = x := by rw [List.getElem?_eq_getElem hk] at hx; exact Option.some.inj hx
  rw [e1]; rfl
theorem Own.frozenS {α : Type} {E : Flat α} {w : World} {base : Nat} {e : TypeId} {g n cap : Nat} {L : List α} (h : Own E w base e (.slice (some ⟨g, 0, none⟩) n cap) L) (k : Nat) : w.frozen? ⟨g, k, none⟩ = false := by
  have hn : n = L.length := by
    rcases h.2 with ⟨hv, _⟩ | ⟨g', cap', cur, hv, _⟩
    · cases hv
    · injection hv
  have h' : w.ownsRow base e E.n (.slice (some ⟨g, 0, none⟩) L.length cap) L.length (L.flatMap E.enc) := by rw [hn] at h; exact h
  exact h'.frozenAt k
/-- The end of a call that hands back a row of its own. -/
def OwnRS {α : Type} (E : Flat α) (T : TypeId) (w : World) (xs : List α) (e : Ending) (w' : World) : Prop := ∃ v, e = .returned v ∧ Own E w' w.heap.size T v xs ∧ Below w.heap.size w w'
theorem infoStr3 : (Tryz.prog.info? 9).map (fun i => (i.zero, i.size, i.bytes)) = some (some (.string ⟨#[]⟩), 1, 16) := by kernel_rfl

end Go.Proofs.YtmlconbekkdahaaGreatDoor

namespace Go.Proofs.YtmlconbekkdahaaGreatDoor
open Go.RowKit
set_option linter.unusedVariables false

/-- The digits, none for 0. -/
def dig (u : Nat) : List UInt8 := if h : u = 0 then [] else dig (u / 10) ++ [UInt8.ofNat (48 + u % 10)]
termination_by u
decreasing_by omega
theorem dig_zero : dig 0 = [] := by rw [dig, dif_pos rfl]
theorem dig_step {u : Nat} (h : u ≠ 0) : dig u = dig (u / 10) ++ [UInt8.ofNat (48 + u % 10)] := by rw [dig, dif_neg h]
theorem dig_dec : ∀ (u : Nat), u ≠ 0 → Lib.decDigits u = dig u := by
  intro u
  induction u using Nat.strongRecOn with
  | _ u ih =>
    intro h
    rw [dig_step h, Lib.decDigits]
    by_cases h1 : u < 10
    · rw [dif_pos h1, Nat.div_eq_of_lt h1, dig_zero, Nat.mod_eq_of_lt h1]; rfl
    · rw [dif_neg h1, ih (u / 10) (by omega) (by omega)]
theorem dig_len : ∀ (k u : Nat), u < 10 ^ k → (dig u).length ≤ k
  | 0, u, h => by rw [Nat.pow_zero] at h; obtain rfl : u = 0 := (by omega); rw [dig_zero]; exact Nat.le_refl _
  | k + 1, u, h => by
    by_cases h0 : u = 0
    · subst h0; rw [dig_zero]; simp
    · rw [dig_step h0, List.length_append]
      have := dig_len k (u / 10) (by rw [Nat.pow_succ] at h; omega)
      simp; omega
def decS (n : Int) : ByteArray := ⟨(Lib.itoa n).toArray⟩
theorem decS_zero : decS 0 = ⟨#[48]⟩ := by unfold decS Lib.itoa; rw [if_neg (by decide), show (0 : Int).toNat = 0 from rfl, Lib.decDigits, dif_pos (by decide)]; rfl
theorem itoa_ne {n : Int} (h : n ≠ 0) : Lib.itoa n = (if n < 0 then [45] else []) ++ dig n.natAbs := by
  unfold Lib.itoa
  by_cases h1 : n < 0
  · rw [if_pos h1, if_pos h1, dig_dec _ (by omega)]; rfl
  · rw [if_neg h1, if_neg h1, show n.toNat = n.natAbs by omega, dig_dec _ (by omega)]; rfl
theorem Own.cellB {w : World} {base : Nat} {e : TypeId} {g n cap : Nat} {L : List UInt8} (h : Own fByte w base e (.slice (some ⟨g, 0, none⟩) n cap) L) {k : Nat} {x : UInt8} (hx : L[k]? = some x) : w.cell? ⟨g, k, none⟩ = some (.int .u8 x.toNat) := by
  have hn : n = L.length := by
    rcases h.2 with ⟨hv, _⟩ | ⟨g', cap', cur, hv, _⟩
    · cases hv
    · injection hv
  have h' : w.ownsRow base e 1 (.slice (some ⟨g, 0, none⟩) L.length cap) L.length (L.flatMap fByte.enc) := by rw [hn] at h; exact h
  have hk : k < L.length := by
    rcases Nat.lt_or_ge k L.length with h | h
    · exact h
    · rw [List.getElem?_eq_none h] at hx; cases hx
  rw [h'.cellAt k (by omega)]
  have := flat_get fByte.enc 1 L (fun x _ => fByte.len x) k hk 0 (by omega)
  simp only [Nat.mul_one, Nat.add_zero] at this
  rw [this]
  have e1 : L[k] = x := by rw [List.getElem?_eq_getElem hk] at hx; exact Option.some.inj hx
  rw [e1]; rfl
set_option maxRecDepth 100000 in
theorem infoU8d : (Tryz.prog.info? 5).map (fun i => (i.zero, i.size, i.bytes)) = some (some (.int .u8 0), 1, 1) := by kernel_rfl
set_option maxRecDepth 100000 in
/-- What a row of bytes of the call's own is as a text. -/
theorem Own.text {w : World} {base : Nat} {v : Value} {L : List UInt8} (h : Own fByte w base 5 v L) : (convert 22 9 v).run Tryz.prog w = .ok (.string ⟨L.toArray⟩) w := by
  obtain ⟨A, cap, rfl⟩ := h.form
  cases A with
  | none =>
    rcases h.2 with ⟨hv, hz⟩ | ⟨g', cap', cur, hv, _⟩
    · have : L = [] := List.eq_nil_of_length_eq_zero hz
      subst this
      show _ = Result.ok (Value.string ByteArray.empty) w
      exact run_convert_bytes_nil w _ _ Tryz.underlying22 Tryz.underlying5 _ _ _ Tryz.underlying9
    · cases hv
  | some A =>
    rcases h.2 with ⟨hv, _⟩ | ⟨g', cap', cur, hv, _⟩
    · cases hv
    · injection hv with h1 h2 h3
      injection h1 with h1
      subst h1
      refine run_convert_bytes_back w _ _ _ _ cap L Tryz.underlying22 Tryz.underlying5 Tryz.underlying9 (fun j hj => ?_)
      have h4 := h.cellB (k := j) (x := L[j]) (by simp [hj])
      have e : (⟨g', 0, none⟩ : Addr).add j = ⟨g', j, none⟩ := by unfold Addr.add; split <;> simp_all
      rw [e]; exact h4

end Go.Proofs.YtmlconbekkdahaaGreatDoor
