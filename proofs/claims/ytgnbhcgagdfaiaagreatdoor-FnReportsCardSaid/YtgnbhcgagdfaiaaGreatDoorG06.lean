/- Parts of the proof: Vr. -/
import Derived.Test.YtgnbhcgagdfaiaaGreatDoorG05
import Derived.Test.YtgnbhcgagdfaiaaGreatDoorG03
import Derived.Test.YtgnbhcgagdfaiaaGreatDoorG02
namespace Go.Proofs.YtgnbhcgagdfaiaaGreatDoor
open Go.RowKit
set_option linter.unusedVariables false

/-- The k-th neighbour of region i is as it should be (impl's words). -/
def nrOk (xs : List DRegion) (x : DRegion) (k : Nat) : Bool := (decide (k = 0) || ltS (x.near.getD (k - 1) ⟨#[]⟩) (x.near.getD k ⟨#[]⟩)) && !decide (x.near.getD k ⟨#[]⟩ = x.id) && isNearB xs (x.near.getD k ⟨#[]⟩) x.id
def rgHead (xs : List DRegion) (i : Nat) : Bool := nameB (xs.getD i rg0).id && inB (xs.getD i rg0).level 1 5 && (decide (i = 0) || ltS (xs.getD (i - 1) rg0).id (xs.getD i rg0).id)
def rgOk (xs : List DRegion) (i : Nat) : Bool := rgHead xs i && allIdx (nrOk xs (xs.getD i rg0)) (xs.getD i rg0).near.length
def regionsB (xs : List DRegion) : Bool := allIdx (rgOk xs) xs.length && decide (xs.length ≤ 8)
theorem nrOk_zero {xs : List DRegion} {x : DRegion} (h : 0 < x.near.length) : nrOk xs x 0 = (!decide (x.near[0] = x.id) && isNearB xs x.near[0] x.id) := by simp [nrOk, h]
theorem nrOk_succ {xs : List DRegion} {x : DRegion} {m : Nat} (h : m + 1 < x.near.length) : nrOk xs x (m + 1) = (ltS x.near[m] x.near[m + 1] && !decide (x.near[m + 1] = x.id) && isNearB xs x.near[m + 1] x.id) := by
  have h1 : m < x.near.length := by omega
  simp [nrOk, h, h1]
theorem rgHead_zero {xs : List DRegion} (h : 0 < xs.length) : rgHead xs 0 = (nameB xs[0].id && inB xs[0].level 1 5) := by simp [rgHead, h]
theorem rgHead_succ {xs : List DRegion} {m : Nat} (h : m + 1 < xs.length) : rgHead xs (m + 1) = (nameB xs[m + 1].id && inB xs[m + 1].level 1 5 && ltS xs[m].id xs[m + 1].id) := by
  have h1 : m < xs.length := by omega
  simp [rgHead, h, h1]
theorem rgOk_at {xs : List DRegion} {i : Nat} (h : i < xs.length) : rgOk xs i = (rgHead xs i && allIdx (nrOk xs xs[i]) xs[i].near.length) := by simp [rgOk, h]
theorem regionsB_bad {xs : List DRegion} {k : Nat} (h : k < xs.length) (h1 : rgOk xs k = false) : regionsB xs = false := by
  unfold regionsB; rw [allIdx_bad h h1]; rfl
theorem regionsB_long {xs : List DRegion} (h : ¬ xs.length ≤ 8) : regionsB xs = false := by
  unfold regionsB; rw [decide_eq_false h, Bool.and_false]
theorem regionsB_full {xs : List DRegion} (h : xs.length ≤ 8) (h1 : allIdx (rgOk xs) xs.length = true) : regionsB xs = true := by
  unfold regionsB; rw [h1, decide_eq_true h]; rfl
/-- The heads of the regions so far rise by their names. -/
theorem heads_rise {xs : List DRegion} : ∀ (i : Nat), (∀ j, j ≤ i → rgHead xs j = true) → i < xs.length → ∀ j, j < i → ltS (xs.getD j rg0).id (xs.getD i rg0).id = true
  | 0, _, _, j, hj => absurd hj (Nat.not_lt_zero _)
  | i + 1, h, hl, j, hj => by
    have h1 := h (i + 1) (Nat.le_refl _)
    unfold rgHead at h1
    rw [Bool.and_eq_true] at h1
    have h2 : ltS (xs.getD i rg0).id (xs.getD (i + 1) rg0).id = true := by simpa using h1.2
    by_cases e : j = i
    · subst e; exact h2
    · exact ltS_trans (heads_rise i (fun j hj => h j (by omega)) (by omega) j (by omega)) h2
theorem heads_of {xs : List DRegion} {i : Nat} (h : allIdx (rgOk xs) i = true) (h2 : rgHead xs i = true) : ∀ j, j ≤ i → rgHead xs j = true := by
  intro j hj
  by_cases e : j = i
  · subst e; exact h2
  · have h3 := allIdx_true.1 h j (by omega)
    unfold rgOk at h3
    rw [Bool.and_eq_true] at h3
    exact h3.1
/-- The reference's test of the found place is the program's test of the name. -/
theorem at_self {xs : List DRegion} {i : Nat} {s : ByteArray} {r : Int} (hi : i < xs.length) (h : allIdx (rgOk xs) i = true) (h2 : rgHead xs i = true) (hf : FindR xs s r) : r = (i : Int) ↔ s = xs[i].id := by
  have hr := heads_rise i (heads_of h h2) hi
  have hne : ∀ j (hj : j < i), (xs[j]'(by omega)).id ≠ xs[i].id := by
    intro j hj e
    have h3 := hr j hj
    have hjl : j < xs.length := by omega
    rw [List.getD_eq_getElem?_getD, List.getD_eq_getElem?_getD, List.getElem?_eq_getElem hi, List.getElem?_eq_getElem hjl] at h3
    simp only [Option.getD_some] at h3
    rw [e, ltS_irrefl] at h3
    cases h3
  rcases hf with ⟨rfl, hn⟩ | ⟨k, rfl, hk, he, h0⟩
  · constructor
    · intro e; omega
    · intro e; exact absurd e.symm (hn i hi)
  · constructor
    · intro e
      have : k = i := by omega
      subst this
      exact he.symm
    · intro e
      subst e
      by_cases e1 : k < i
      · exact absurd he (hne k e1)
      · by_cases e2 : i < k
        · exact absurd rfl (h0 i e2)
        · omega
set_option maxRecDepth 100000 in
set_option maxHeartbeats 8000000 in
theorem ValidRegions_any (v : Value) (xs : List DRegion) (fp : List Nat) (w : World) (hx : Sl cRegion w v xs fp) :
    Calls Tryz.prog 35 #[v] w fun e w' => e = .returned (.bool (regionsB xs)) ∧ Below w.heap.size w w' := by
  obtain ⟨A, cap, rfl, hlen, hcap⟩ := hx.form
  by_cases hle : xs.length ≤ 8
  · go_enter Tryz.func35, Tryz.ntmps35
    go_wp2
    go_loopw [12] (fun i wr => ∃ k : Nat, k ≤ xs.length ∧ i = .int .i64 k ∧ Hid (allIdx (rgOk xs) k = true) ∧ Below w.heap.size w wr) (fun i _ => xs.length - (intOf i).toNat)
    case atStart => exact ⟨0, Nat.zero_le _, rfl, rfl, Below.refl _ _⟩
    case round =>
      obtain ⟨k, hk, rfl, H0, hb⟩ := hrel
      rename World => wo
      by_cases hlt : k < xs.length
      · rcases Nat.eq_zero_or_pos k with rfl | hpos
        · skip
          obtain ⟨b, off, vk, fk, rfl, c0, c1, c2, hs0, _, _, hok, _⟩ := (hx.below' hb).reg hlt
          rw [Nat.zero_mul, Nat.add_zero] at c0 c1 c2
          obtain ⟨A1, cap1, rfl, hlen1, hcap1⟩ := hs0.form
          have k1 : xs[0].id.size ≤ 9223372036854775807 := hok
          go_wp2
          refine at_world (fun W => Below wo.heap.size wo W ∧ W.cell? ⟨wo.heap.size, 0, none⟩ = some (.string xs[0].id) ∧ W.cell? ⟨wo.heap.size, 1, none⟩ = some (.int .i64 xs[0].level) ∧ W.cell? ⟨wo.heap.size, 2, none⟩ = some (.slice A1 xs[0].near.length cap1) ∧ Sl fStr.cod W (.slice A1 xs[0].near.length cap1) xs[0].near fk) ⟨(Below.refl _ _).alloc (Nat.le_refl _) _, by simp, by simp, by simp, hs0.below' ((Below.refl _ _).alloc (Nat.le_refl _) _)⟩ ?_
          clear c0 c1 c2 hs0
          rintro W ⟨hW, c0, c1, c2, hs⟩
          have gc0 := cell_regrown c0
          have gc1 := cell_regrown c1
          refine wp_region_mix (C := fun w' => ∃ p : Regrown, w' = Go.Sort.grow (redrawn W p.d) p.os) [true, true, false, true, true, true, true, false, true, true, true, true, true, true, true, true, true, true, true, true, true, true, true, true, true] (by kernel_rfl) (by kernel_rfl) (by kernel_rfl) (fun _ _ d _ _ h => by cases d <;> exact h) (regrown_of_below (Below.drew (Below.refl _ _))) ?_
          have hS0 : Below (W.heap.size) W W.drew := Below.drew (Below.refl _ _)
          refine wpMix_pure (by kernel_rfl) (fun K hK => ?_); go_big_quiet_op; refine hK _ ?_; clear hK K
          refine wpMix_pure (by kernel_rfl) (fun K hK => ?_); go_big_quiet_op; refine hK _ ?_; clear hK K
          refine wpMix_act (by kernel_rfl) (fun K hK => ?_)
          go_big_op
          refine (implIsName_any _ _ k1).mono ?_
          rintro e w' ⟨rfl, rfl⟩
          refine hK _ _ (regrown_of_below hS0) ?_
          clear hK K
          cases hq2 : nameB xs[0].id
          · skip
            refine wpMix_pure (by kernel_rfl) (fun K hK => ?_); go_big_quiet_op; refine hK _ ?_; clear hK K
            refine wpMix_pure (by kernel_rfl) (fun K hK => ?_); go_big_quiet_op; refine hK _ ?_; clear hK K
            refine wpMix_skip (by kernel_rfl) (fun K hK => ?_)
            simp only [Act.put, List.setIfInBounds_toArray, List.set_cons_zero, List.set_cons_succ]
            refine hK _ ?_; clear hK K
            refine wpMix_skip (by kernel_rfl) (fun K hK => ?_)
            simp only [Act.put, List.setIfInBounds_toArray, List.set_cons_zero, List.set_cons_succ]
            refine hK _ ?_; clear hK K
            refine wpMix_skip (by kernel_rfl) (fun K hK => ?_)
            simp only [Act.put, List.setIfInBounds_toArray, List.set_cons_zero, List.set_cons_succ]
            refine hK _ ?_; clear hK K
            refine wpMix_skip (by kernel_rfl) (fun K hK => ?_)
            simp only [Act.put, List.setIfInBounds_toArray, List.set_cons_zero, List.set_cons_succ]
            refine hK _ ?_; clear hK K
            refine wpMix_pure (by kernel_rfl) (fun K hK => ?_); go_big_quiet_op; refine hK _ ?_; clear hK K
            refine wpMix_pure (by kernel_rfl) (fun K hK => ?_); go_big_quiet_op; refine hK _ ?_; clear hK K
            refine wpMix_skip (by kernel_rfl) (fun K hK => ?_)
            simp only [Act.put, List.setIfInBounds_toArray, List.set_cons_zero, List.set_cons_succ]
            refine hK _ ?_; clear hK K
            refine wpMix_skip (by kernel_rfl) (fun K hK => ?_)
            simp only [Act.put, List.setIfInBounds_toArray, List.set_cons_zero, List.set_cons_succ]
            refine hK _ ?_; clear hK K
            refine wpMix_skip (by kernel_rfl) (fun K hK => ?_)
            simp only [Act.put, List.setIfInBounds_toArray, List.set_cons_zero, List.set_cons_succ]
            refine hK _ ?_; clear hK K
            refine wpMix_skip (by kernel_rfl) (fun K hK => ?_)
            simp only [Act.put, List.setIfInBounds_toArray, List.set_cons_zero, List.set_cons_succ]
            refine hK _ ?_; clear hK K
            refine wpMix_skip (by kernel_rfl) (fun K hK => ?_)
            simp only [Act.put, List.setIfInBounds_toArray, List.set_cons_zero, List.set_cons_succ]
            refine hK _ ?_; clear hK K
            refine wpMix_skip (by kernel_rfl) (fun K hK => ?_)
            simp only [Act.put, List.setIfInBounds_toArray, List.set_cons_zero, List.set_cons_succ]
            refine hK _ ?_; clear hK K
            refine wpMix_skip (by kernel_rfl) (fun K hK => ?_)
            simp only [Act.put, List.setIfInBounds_toArray, List.set_cons_zero, List.set_cons_succ]
            refine hK _ ?_; clear hK K
            refine wpMix_skip (by kernel_rfl) (fun K hK => ?_)
            simp only [Act.put, List.setIfInBounds_toArray, List.set_cons_zero, List.set_cons_succ]
            refine hK _ ?_; clear hK K
            refine wpMix_skip (by kernel_rfl) (fun K hK => ?_)
            simp only [Act.put, List.setIfInBounds_toArray, List.set_cons_zero, List.set_cons_succ]
            refine hK _ ?_; clear hK K
            refine wpMix_skip (by kernel_rfl) (fun K hK => ?_)
            simp only [Act.put, List.setIfInBounds_toArray, List.set_cons_zero, List.set_cons_succ]
            refine hK _ ?_; clear hK K
            refine wpMix_skip (by kernel_rfl) (fun K hK => ?_)
            simp only [Act.put, List.setIfInBounds_toArray, List.set_cons_zero, List.set_cons_succ]
            refine hK _ ?_; clear hK K
            refine wpMix_skip (by kernel_rfl) (fun K hK => ?_)
            simp only [Act.put, List.setIfInBounds_toArray, List.set_cons_zero, List.set_cons_succ]
            refine hK _ ?_; clear hK K
            refine wpMix_skip (by kernel_rfl) (fun K hK => ?_)
            simp only [Act.put, List.setIfInBounds_toArray, List.set_cons_zero, List.set_cons_succ]
            refine hK _ ?_; clear hK K
            refine wpMix_pure (by kernel_rfl) (fun K hK => ?_); go_big_quiet_op; refine hK _ ?_; clear hK K
            refine wpMix_nil ?_
            have HZ : Hid (rgOk xs (0) = false) := by show _ = _; rw [rgOk_at hlt, rgHead_zero hlt]; simp [*]
            go_wp2
            go_ret
            exact ⟨ret_bool (by rw [regionsB_bad hlt HZ.out]), hb.trans (hW.trans (hS0.mono hW.size) |>.mono hb.size)⟩
          · skip
            refine wpMix_pure (by kernel_rfl) (fun K hK => ?_); go_big_quiet_op; refine hK _ ?_; clear hK K
            refine wpMix_pure (by kernel_rfl) (fun K hK => ?_); go_big_quiet_op; refine hK _ ?_; clear hK K
            refine wpMix_pure (by kernel_rfl) (fun K hK => ?_); go_big_quiet_op; refine hK _ ?_; clear hK K
            refine wpMix_pure (by kernel_rfl) (fun K hK => ?_); go_big_quiet_op; refine hK _ ?_; clear hK K
            refine wpMix_act (by kernel_rfl) (fun K hK => ?_)
            go_big_op
            refine (levelOkV_any _ _).mono ?_
            rintro e w' ⟨rfl, rfl⟩
            refine hK _ _ (regrown_of_below hS0) ?_
            clear hK K
            cases hq7 : inB xs[0].level 1 5
            · skip
              refine wpMix_pure (by kernel_rfl) (fun K hK => ?_); go_big_quiet_op; refine hK _ ?_; clear hK K
              refine wpMix_pure (by kernel_rfl) (fun K hK => ?_); go_big_quiet_op; refine hK _ ?_; clear hK K
              refine wpMix_pure (by kernel_rfl) (fun K hK => ?_); go_big_quiet_op; refine hK _ ?_; clear hK K
              refine wpMix_skip (by kernel_rfl) (fun K hK => ?_)
              simp only [Act.put, List.setIfInBounds_toArray, List.set_cons_zero, List.set_cons_succ]
              refine hK _ ?_; clear hK K
              refine wpMix_skip (by kernel_rfl) (fun K hK => ?_)
              simp only [Act.put, List.setIfInBounds_toArray, List.set_cons_zero, List.set_cons_succ]
              refine hK _ ?_; clear hK K
              refine wpMix_skip (by kernel_rfl) (fun K hK => ?_)
              simp only [Act.put, List.setIfInBounds_toArray, List.set_cons_zero, List.set_cons_succ]
              refine hK _ ?_; clear hK K
              refine wpMix_skip (by kernel_rfl) (fun K hK => ?_)
              simp only [Act.put, List.setIfInBounds_toArray, List.set_cons_zero, List.set_cons_succ]
              refine hK _ ?_; clear hK K
              refine wpMix_skip (by kernel_rfl) (fun K hK => ?_)
              simp only [Act.put, List.setIfInBounds_toArray, List.set_cons_zero, List.set_cons_succ]
              refine hK _ ?_; clear hK K
              refine wpMix_skip (by kernel_rfl) (fun K hK => ?_)
              simp only [Act.put, List.setIfInBounds_toArray, List.set_cons_zero, List.set_cons_succ]
              refine hK _ ?_; clear hK K
              refine wpMix_skip (by kernel_rfl) (fun K hK => ?_)
              simp only [Act.put, List.setIfInBounds_toArray, List.set_cons_zero, List.set_cons_succ]
              refine hK _ ?_; clear hK K
              refine wpMix_skip (by kernel_rfl) (fun K hK => ?_)
              simp only [Act.put, List.setIfInBounds_toArray, List.set_cons_zero, List.set_cons_succ]
              refine hK _ ?_; clear hK K
              refine wpMix_skip (by kernel_rfl) (fun K hK => ?_)
              simp only [Act.put, List.setIfInBounds_toArray, List.set_cons_zero, List.set_cons_succ]
              refine hK _ ?_; clear hK K
              refine wpMix_skip (by kernel_rfl) (fun K hK => ?_)
              simp only [Act.put, List.setIfInBounds_toArray, List.set_cons_zero, List.set_cons_succ]
              refine hK _ ?_; clear hK K
              refine wpMix_skip (by kernel_rfl) (fun K hK => ?_)
              simp only [Act.put, List.setIfInBounds_toArray, List.set_cons_zero, List.set_cons_succ]
              refine hK _ ?_; clear hK K
              refine wpMix_skip (by kernel_rfl) (fun K hK => ?_)
              simp only [Act.put, List.setIfInBounds_toArray, List.set_cons_zero, List.set_cons_succ]
              refine hK _ ?_; clear hK K
              refine wpMix_skip (by kernel_rfl) (fun K hK => ?_)
              simp only [Act.put, List.setIfInBounds_toArray, List.set_cons_zero, List.set_cons_succ]
              refine hK _ ?_; clear hK K
              refine wpMix_pure (by kernel_rfl) (fun K hK => ?_); go_big_quiet_op; refine hK _ ?_; clear hK K
              refine wpMix_nil ?_
              have HZ : Hid (rgOk xs (0) = false) := by show _ = _; rw [rgOk_at hlt, rgHead_zero hlt]; simp [*]
              go_wp2
              go_ret
              exact ⟨ret_bool (by rw [regionsB_bad hlt HZ.out]), hb.trans (hW.trans (hS0.mono hW.size) |>.mono hb.size)⟩
            · skip
              refine wpMix_pure (by kernel_rfl) (fun K hK => ?_); go_big_quiet_op; refine hK _ ?_; clear hK K
              refine wpMix_pure (by kernel_rfl) (fun K hK => ?_); go_big_quiet_op; refine hK _ ?_; clear hK K
              refine wpMix_pure (by kernel_rfl) (fun K hK => ?_); go_big_quiet_op; refine hK _ ?_; clear hK K
              refine wpMix_pure (by kernel_rfl) (fun K hK => ?_); go_big_quiet_op; refine hK _ ?_; clear hK K
              refine wpMix_pure (by kernel_rfl) (fun K hK => ?_); go_big_quiet_op; refine hK _ ?_; clear hK K
              refine wpMix_pure (by kernel_rfl) (fun K hK => ?_); go_big_quiet_op; refine hK _ ?_; clear hK K
              refine wpMix_skip (by kernel_rfl) (fun K hK => ?_)
              simp only [Act.put, List.setIfInBounds_toArray, List.set_cons_zero, List.set_cons_succ]
              refine hK _ ?_; clear hK K
              refine wpMix_skip (by kernel_rfl) (fun K hK => ?_)
              simp only [Act.put, List.setIfInBounds_toArray, List.set_cons_zero, List.set_cons_succ]
              refine hK _ ?_; clear hK K
              refine wpMix_skip (by kernel_rfl) (fun K hK => ?_)
              simp only [Act.put, List.setIfInBounds_toArray, List.set_cons_zero, List.set_cons_succ]
              refine hK _ ?_; clear hK K
              refine wpMix_skip (by kernel_rfl) (fun K hK => ?_)
              simp only [Act.put, List.setIfInBounds_toArray, List.set_cons_zero, List.set_cons_succ]
              refine hK _ ?_; clear hK K
              refine wpMix_skip (by kernel_rfl) (fun K hK => ?_)
              simp only [Act.put, List.setIfInBounds_toArray, List.set_cons_zero, List.set_cons_succ]
              refine hK _ ?_; clear hK K
              refine wpMix_skip (by kernel_rfl) (fun K hK => ?_)
              simp only [Act.put, List.setIfInBounds_toArray, List.set_cons_zero, List.set_cons_succ]
              refine hK _ ?_; clear hK K
              refine wpMix_skip (by kernel_rfl) (fun K hK => ?_)
              simp only [Act.put, List.setIfInBounds_toArray, List.set_cons_zero, List.set_cons_succ]
              refine hK _ ?_; clear hK K
              refine wpMix_skip (by kernel_rfl) (fun K hK => ?_)
              simp only [Act.put, List.setIfInBounds_toArray, List.set_cons_zero, List.set_cons_succ]
              refine hK _ ?_; clear hK K
              refine wpMix_skip (by kernel_rfl) (fun K hK => ?_)
              simp only [Act.put, List.setIfInBounds_toArray, List.set_cons_zero, List.set_cons_succ]
              refine hK _ ?_; clear hK K
              refine wpMix_pure (by kernel_rfl) (fun K hK => ?_); go_big_quiet_op; refine hK _ ?_; clear hK K
              refine wpMix_pure (by kernel_rfl) (fun K hK => ?_); go_big_quiet_op; refine hK _ ?_; clear hK K
              refine wpMix_nil ?_
              have HH : Hid (rgHead xs (0) = true) := by show _ = _; rw [rgHead_zero hlt]; simp [*]
              have hSF := hS0
              have z2 := (hS0.cell (block_lt_of_cell c2)).trans c2
              go_wp2
              clear z2
              (try simp only [show ((0 : Nat) : Int) = 0 from rfl])
              refine at_world (fun V => Below wo.heap.size wo V ∧ V.cell? ⟨wo.heap.size, 0, none⟩ = some (.string xs[0].id) ∧ V.cell? ⟨wo.heap.size, 2, none⟩ = some (.slice A1 xs[0].near.length cap1) ∧ Sl fStr.cod V (.slice A1 xs[0].near.length cap1) xs[0].near fk) ⟨hW.trans (hS0.mono hW.size), (hS0.cell (block_lt_of_cell c0)).trans c0, (hS0.cell (block_lt_of_cell c2)).trans c2, hs.below' hS0⟩ ?_
              (try clear gc0 gc1 gd0)
              clear c0 c1 c2 hs
              rintro V ⟨hV, c0, c2, hs⟩
              have hbV := hb.trans (hV.mono hb.size)
              go_loopw [45] (fun i wr => ∃ q : Nat, q ≤ xs[0].near.length ∧ i = .int .i64 q ∧ Hid (allIdx (nrOk xs xs[0]) q = true) ∧ Below V.heap.size V wr) (fun i _ => xs[0].near.length - (intOf i).toNat)
              case atStart => exact ⟨0, Nat.zero_le _, rfl, rfl, Below.refl _ _⟩
              case round =>
                obtain ⟨q, hq, rfl, G0, hbi⟩ := hrel
                have hbr := hbV.trans (hbi.mono hbV.size)
                have hxr := hx.below' hbr
                have d0 := (hbi.cell (block_lt_of_cell c0)).trans c0
                have d2 := (hbi.cell (block_lt_of_cell c2)).trans c2
                by_cases hqt : q < xs[0].near.length
                · obtain ⟨b2, off2, hA2, _, hokq, hcq, _⟩ := (hs.below' hbi).cell1 rfl hqt rfl
                  subst hA2
                  rcases Nat.eq_zero_or_pos q with rfl | hqpos
                  · (try rw [Nat.add_zero] at hcq)
                    by_cases he : xs[0].near[0] = xs[0].id
                    · have HN : Hid (nrOk xs xs[0] (0) = false) := by show _ = _; rw [nrOk_zero hqt, decide_eq_true he]; simp
                      have e16 : (xs[0].near[0].toList == xs[0].id.toList) = true := eqS_true.2 he
                      clear he
                      have HZ : Hid (rgOk xs (0) = false) := by show _ = _; rw [rgOk_at hlt, allIdx_bad hqt HN.out, Bool.and_false]
                      go_wp2
                      go_ret
                      exact ⟨ret_bool (by rw [regionsB_bad hlt HZ.out]), hbr⟩
                    · have e16 : (xs[0].near[0].toList == xs[0].id.toList) = false := bytes_beq_false he
                      have HE : Hid (decide (xs[0].near[0] = xs[0].id) = false) := decide_eq_false he
                      clear he
                      go_wp2_with fail
                      refine (isNear_any _ xs fp _ _ _ hxr).mono ?_
                      rintro e w2 ⟨rfl, hb2⟩
                      cases hn : isNearB xs xs[0].near[0] xs[0].id
                      · have HN : Hid (nrOk xs xs[0] (0) = false) := by show _ = _; rw [nrOk_zero hqt, hn, Bool.and_false]
                        have HZ : Hid (rgOk xs (0) = false) := by show _ = _; rw [rgOk_at hlt, allIdx_bad hqt HN.out, Bool.and_false]
                        go_wp2
                        go_ret
                        exact ⟨ret_bool (by rw [regionsB_bad hlt HZ.out]), hbr.trans (hb2.mono hbr.size)⟩
                      · have HN : Hid (nrOk xs xs[0] (0) = true) := by show _ = _; rw [nrOk_zero hqt, hn, HE.out]; rfl
                        go_wp2
                        go_roundw
                        case rel => exact ⟨0 + 1, by omega, by go_num, allIdx_step G0.out HN.out, hbi.trans (hb2.mono hbi.size)⟩
                        case measure => simp [intOf]; omega
                  · obtain ⟨p, rfl⟩ : ∃ p, q = p + 1 := ⟨q - 1, by omega⟩
                    have hp : p < xs[0].near.length := by omega
                    obtain ⟨b3, off3, hA3, _, hokp, hcp, _⟩ := (hs.below' hbi).cell1 rfl hp rfl
                    injection hA3 with hA3
                    injection hA3 with hA3 hA4 _
                    subst hA3 hA4
                    cases hl : ltS xs[0].near[p] xs[0].near[p + 1]
                    · have HN : Hid (nrOk xs xs[0] (p + 1) = false) := by show _ = _; rw [nrOk_succ hqt, hl]; rfl
                      have e10 : (Op.bytesLess xs[0].near[p + 1].toList xs[0].near[p].toList || xs[0].near[p + 1].toList == xs[0].near[p].toList) = true := by rw [leS_eq, hl]; rfl
                      have HZ : Hid (rgOk xs (0) = false) := by show _ = _; rw [rgOk_at hlt, allIdx_bad hqt HN.out, Bool.and_false]
                      go_wp2
                      go_ret
                      exact ⟨ret_bool (by rw [regionsB_bad hlt HZ.out]), hbr⟩
                    · have e10 : (Op.bytesLess xs[0].near[p + 1].toList xs[0].near[p].toList || xs[0].near[p + 1].toList == xs[0].near[p].toList) = false := by rw [leS_eq, hl]; rfl
                      by_cases he : xs[0].near[p + 1] = xs[0].id
                      · have HN : Hid (nrOk xs xs[0] (p + 1) = false) := by show _ = _; rw [nrOk_succ hqt, hl, decide_eq_true he]; simp
                        have e16 : (xs[0].near[p + 1].toList == xs[0].id.toList) = true := eqS_true.2 he
                        clear he
                        have HZ : Hid (rgOk xs (0) = false) := by show _ = _; rw [rgOk_at hlt, allIdx_bad hqt HN.out, Bool.and_false]
                        go_wp2
                        go_ret
                        exact ⟨ret_bool (by rw [regionsB_bad hlt HZ.out]), hbr⟩
                      · have e16 : (xs[0].near[p + 1].toList == xs[0].id.toList) = false := bytes_beq_false he
                        have HE : Hid (decide (xs[0].near[p + 1] = xs[0].id) = false) := decide_eq_false he
                        clear he
                        go_wp2_with fail
                        refine (isNear_any _ xs fp _ _ _ hxr).mono ?_
                        rintro e w2 ⟨rfl, hb2⟩
                        cases hn : isNearB xs xs[0].near[p + 1] xs[0].id
                        · have HN : Hid (nrOk xs xs[0] (p + 1) = false) := by show _ = _; rw [nrOk_succ hqt, hn, Bool.and_false]
                          have HZ : Hid (rgOk xs (0) = false) := by show _ = _; rw [rgOk_at hlt, allIdx_bad hqt HN.out, Bool.and_false]
                          go_wp2
                          go_ret
                          exact ⟨ret_bool (by rw [regionsB_bad hlt HZ.out]), hbr.trans (hb2.mono hbr.size)⟩
                        · have HN : Hid (nrOk xs xs[0] (p + 1) = true) := by show _ = _; rw [nrOk_succ hqt, hn, hl, HE.out]; rfl
                          go_wp2
                          go_roundw
                          case rel => exact ⟨p + 1 + 1, by omega, by go_num, allIdx_step G0.out HN.out, hbi.trans (hb2.mono hbi.size)⟩
                          case measure => simp [intOf]; omega
                · have HN := Lib.hid (allIdx_full (by omega) hq G0.out)
                  have HZ : Hid (rgOk xs (0) = true) := by show _ = _; rw [rgOk_at hlt, HH.out, HN.out]; rfl
                  go_wp2
                  go_roundw
                  case rel => exact ⟨0 + 1, by omega, by go_num, allIdx_step H0.out HZ.out, hbr⟩
                  case measure => simp [intOf]; omega
        · obtain ⟨m, rfl⟩ : ∃ m, k = m + 1 := ⟨k - 1, by omega⟩
          have hm : m < xs.length := by omega
          obtain ⟨b, off, vk, fk, rfl, c0, c1, c2, hs0, _, _, hok, _⟩ := (hx.below' hb).reg hlt
          skip
          obtain ⟨A1, cap1, rfl, hlen1, hcap1⟩ := hs0.form
          have k1 : xs[m + 1].id.size ≤ 9223372036854775807 := hok
          obtain ⟨b1, off1, vm, fm, hA1, d0, _⟩ := (hx.below' hb).reg hm
          injection hA1 with hA1
          injection hA1 with hA1 hA2 _
          subst hA1 hA2
          go_wp2
          refine at_world (fun W => Below wo.heap.size wo W ∧ W.cell? ⟨wo.heap.size, 0, none⟩ = some (.string xs[m + 1].id) ∧ W.cell? ⟨wo.heap.size, 1, none⟩ = some (.int .i64 xs[m + 1].level) ∧ W.cell? ⟨wo.heap.size, 2, none⟩ = some (.slice A1 xs[m + 1].near.length cap1) ∧ Sl fStr.cod W (.slice A1 xs[m + 1].near.length cap1) xs[m + 1].near fk ∧ W.cell? ⟨b, off + m * 3, none⟩ = some (.string xs[m].id)) ⟨(Below.refl _ _).alloc (Nat.le_refl _) _, by simp, by simp, by simp, hs0.below' ((Below.refl _ _).alloc (Nat.le_refl _) _), (((Below.refl _ _).alloc (Nat.le_refl _) _).cell (block_lt_of_cell d0)).trans d0⟩ ?_
          clear c0 c1 c2 hs0 d0
          rintro W ⟨hW, c0, c1, c2, hs, d0⟩
          have gc0 := cell_regrown c0
          have gc1 := cell_regrown c1
          have gd0 := cell_regrown d0
          refine wp_region_mix (C := fun w' => ∃ p : Regrown, w' = Go.Sort.grow (redrawn W p.d) p.os) [true, true, false, true, true, true, true, false, true, true, true, true, true, true, true, true, true, true, true, true, true, true, true, true, true] (by kernel_rfl) (by kernel_rfl) (by kernel_rfl) (fun _ _ d _ _ h => by cases d <;> exact h) (regrown_of_below (Below.drew (Below.refl _ _))) ?_
          have hS0 : Below (W.heap.size) W W.drew := Below.drew (Below.refl _ _)
          refine wpMix_pure (by kernel_rfl) (fun K hK => ?_); go_big_quiet_op; refine hK _ ?_; clear hK K
          refine wpMix_pure (by kernel_rfl) (fun K hK => ?_); go_big_quiet_op; refine hK _ ?_; clear hK K
          refine wpMix_act (by kernel_rfl) (fun K hK => ?_)
          go_big_op
          refine (implIsName_any _ _ k1).mono ?_
          rintro e w' ⟨rfl, rfl⟩
          refine hK _ _ (regrown_of_below hS0) ?_
          clear hK K
          cases hq2 : nameB xs[m + 1].id
          · skip
            refine wpMix_pure (by kernel_rfl) (fun K hK => ?_); go_big_quiet_op; refine hK _ ?_; clear hK K
            refine wpMix_pure (by kernel_rfl) (fun K hK => ?_); go_big_quiet_op; refine hK _ ?_; clear hK K
            refine wpMix_skip (by kernel_rfl) (fun K hK => ?_)
            simp only [Act.put, List.setIfInBounds_toArray, List.set_cons_zero, List.set_cons_succ]
            refine hK _ ?_; clear hK K
            refine wpMix_skip (by kernel_rfl) (fun K hK => ?_)
            simp only [Act.put, List.setIfInBounds_toArray, List.set_cons_zero, List.set_cons_succ]
            refine hK _ ?_; clear hK K
            refine wpMix_skip (by kernel_rfl) (fun K hK => ?_)
            simp only [Act.put, List.setIfInBounds_toArray, List.set_cons_zero, List.set_cons_succ]
            refine hK _ ?_; clear hK K
            refine wpMix_skip (by kernel_rfl) (fun K hK => ?_)
            simp only [Act.put, List.setIfInBounds_toArray, List.set_cons_zero, List.set_cons_succ]
            refine hK _ ?_; clear hK K
            refine wpMix_pure (by kernel_rfl) (fun K hK => ?_); go_big_quiet_op; refine hK _ ?_; clear hK K
            refine wpMix_pure (by kernel_rfl) (fun K hK => ?_); go_big_quiet_op; refine hK _ ?_; clear hK K
            refine wpMix_skip (by kernel_rfl) (fun K hK => ?_)
            simp only [Act.put, List.setIfInBounds_toArray, List.set_cons_zero, List.set_cons_succ]
            refine hK _ ?_; clear hK K
            refine wpMix_skip (by kernel_rfl) (fun K hK => ?_)
            simp only [Act.put, List.setIfInBounds_toArray, List.set_cons_zero, List.set_cons_succ]
            refine hK _ ?_; clear hK K
            refine wpMix_skip (by kernel_rfl) (fun K hK => ?_)
            simp only [Act.put, List.setIfInBounds_toArray, List.set_cons_zero, List.set_cons_succ]
            refine hK _ ?_; clear hK K
            refine wpMix_skip (by kernel_rfl) (fun K hK => ?_)
            simp only [Act.put, List.setIfInBounds_toArray, List.set_cons_zero, List.set_cons_succ]
            refine hK _ ?_; clear hK K
            refine wpMix_skip (by kernel_rfl) (fun K hK => ?_)
            simp only [Act.put, List.setIfInBounds_toArray, List.set_cons_zero, List.set_cons_succ]
            refine hK _ ?_; clear hK K
            refine wpMix_skip (by kernel_rfl) (fun K hK => ?_)
            simp only [Act.put, List.setIfInBounds_toArray, List.set_cons_zero, List.set_cons_succ]
            refine hK _ ?_; clear hK K
            refine wpMix_skip (by kernel_rfl) (fun K hK => ?_)
            simp only [Act.put, List.setIfInBounds_toArray, List.set_cons_zero, List.set_cons_succ]
            refine hK _ ?_; clear hK K
            refine wpMix_skip (by kernel_rfl) (fun K hK => ?_)
            simp only [Act.put, List.setIfInBounds_toArray, List.set_cons_zero, List.set_cons_succ]
            refine hK _ ?_; clear hK K
            refine wpMix_skip (by kernel_rfl) (fun K hK => ?_)
            simp only [Act.put, List.setIfInBounds_toArray, List.set_cons_zero, List.set_cons_succ]
            refine hK _ ?_; clear hK K
            refine wpMix_skip (by kernel_rfl) (fun K hK => ?_)
            simp only [Act.put, List.setIfInBounds_toArray, List.set_cons_zero, List.set_cons_succ]
            refine hK _ ?_; clear hK K
            refine wpMix_skip (by kernel_rfl) (fun K hK => ?_)
            simp only [Act.put, List.setIfInBounds_toArray, List.set_cons_zero, List.set_cons_succ]
            refine hK _ ?_; clear hK K
            refine wpMix_skip (by kernel_rfl) (fun K hK => ?_)
            simp only [Act.put, List.setIfInBounds_toArray, List.set_cons_zero, List.set_cons_succ]
            refine hK _ ?_; clear hK K
            refine wpMix_skip (by kernel_rfl) (fun K hK => ?_)
            simp only [Act.put, List.setIfInBounds_toArray, List.set_cons_zero, List.set_cons_succ]
            refine hK _ ?_; clear hK K
            refine wpMix_pure (by kernel_rfl) (fun K hK => ?_); go_big_quiet_op; refine hK _ ?_; clear hK K
            refine wpMix_nil ?_
            have HZ : Hid (rgOk xs (m + 1) = false) := by show _ = _; rw [rgOk_at hlt, rgHead_succ hlt]; simp [*]
            go_wp2
            go_ret
            exact ⟨ret_bool (by rw [regionsB_bad hlt HZ.out]), hb.trans (hW.trans (hS0.mono hW.size) |>.mono hb.size)⟩
          · skip
            refine wpMix_pure (by kernel_rfl) (fun K hK => ?_); go_big_quiet_op; refine hK _ ?_; clear hK K
            refine wpMix_pure (by kernel_rfl) (fun K hK => ?_); go_big_quiet_op; refine hK _ ?_; clear hK K
            refine wpMix_pure (by kernel_rfl) (fun K hK => ?_); go_big_quiet_op; refine hK _ ?_; clear hK K
            refine wpMix_pure (by kernel_rfl) (fun K hK => ?_); go_big_quiet_op; refine hK _ ?_; clear hK K
            refine wpMix_act (by kernel_rfl) (fun K hK => ?_)
            go_big_op
            refine (levelOkV_any _ _).mono ?_
            rintro e w' ⟨rfl, rfl⟩
            refine hK _ _ (regrown_of_below hS0) ?_
            clear hK K
            cases hq7 : inB xs[m + 1].level 1 5
            · skip
              refine wpMix_pure (by kernel_rfl) (fun K hK => ?_); go_big_quiet_op; refine hK _ ?_; clear hK K
              refine wpMix_pure (by kernel_rfl) (fun K hK => ?_); go_big_quiet_op; refine hK _ ?_; clear hK K
              refine wpMix_pure (by kernel_rfl) (fun K hK => ?_); go_big_quiet_op; refine hK _ ?_; clear hK K
              refine wpMix_skip (by kernel_rfl) (fun K hK => ?_)
              simp only [Act.put, List.setIfInBounds_toArray, List.set_cons_zero, List.set_cons_succ]
              refine hK _ ?_; clear hK K
              refine wpMix_skip (by kernel_rfl) (fun K hK => ?_)
              simp only [Act.put, List.setIfInBounds_toArray, List.set_cons_zero, List.set_cons_succ]
              refine hK _ ?_; clear hK K
              refine wpMix_skip (by kernel_rfl) (fun K hK => ?_)
              simp only [Act.put, List.setIfInBounds_toArray, List.set_cons_zero, List.set_cons_succ]
              refine hK _ ?_; clear hK K
              refine wpMix_skip (by kernel_rfl) (fun K hK => ?_)
              simp only [Act.put, List.setIfInBounds_toArray, List.set_cons_zero, List.set_cons_succ]
              refine hK _ ?_; clear hK K
              refine wpMix_skip (by kernel_rfl) (fun K hK => ?_)
              simp only [Act.put, List.setIfInBounds_toArray, List.set_cons_zero, List.set_cons_succ]
              refine hK _ ?_; clear hK K
              refine wpMix_skip (by kernel_rfl) (fun K hK => ?_)
              simp only [Act.put, List.setIfInBounds_toArray, List.set_cons_zero, List.set_cons_succ]
              refine hK _ ?_; clear hK K
              refine wpMix_skip (by kernel_rfl) (fun K hK => ?_)
              simp only [Act.put, List.setIfInBounds_toArray, List.set_cons_zero, List.set_cons_succ]
              refine hK _ ?_; clear hK K
              refine wpMix_skip (by kernel_rfl) (fun K hK => ?_)
              simp only [Act.put, List.setIfInBounds_toArray, List.set_cons_zero, List.set_cons_succ]
              refine hK _ ?_; clear hK K
              refine wpMix_skip (by kernel_rfl) (fun K hK => ?_)
              simp only [Act.put, List.setIfInBounds_toArray, List.set_cons_zero, List.set_cons_succ]
              refine hK _ ?_; clear hK K
              refine wpMix_skip (by kernel_rfl) (fun K hK => ?_)
              simp only [Act.put, List.setIfInBounds_toArray, List.set_cons_zero, List.set_cons_succ]
              refine hK _ ?_; clear hK K
              refine wpMix_skip (by kernel_rfl) (fun K hK => ?_)
              simp only [Act.put, List.setIfInBounds_toArray, List.set_cons_zero, List.set_cons_succ]
              refine hK _ ?_; clear hK K
              refine wpMix_skip (by kernel_rfl) (fun K hK => ?_)
              simp only [Act.put, List.setIfInBounds_toArray, List.set_cons_zero, List.set_cons_succ]
              refine hK _ ?_; clear hK K
              refine wpMix_skip (by kernel_rfl) (fun K hK => ?_)
              simp only [Act.put, List.setIfInBounds_toArray, List.set_cons_zero, List.set_cons_succ]
              refine hK _ ?_; clear hK K
              refine wpMix_pure (by kernel_rfl) (fun K hK => ?_); go_big_quiet_op; refine hK _ ?_; clear hK K
              refine wpMix_nil ?_
              have HZ : Hid (rgOk xs (m + 1) = false) := by show _ = _; rw [rgOk_at hlt, rgHead_succ hlt]; simp [*]
              go_wp2
              go_ret
              exact ⟨ret_bool (by rw [regionsB_bad hlt HZ.out]), hb.trans (hW.trans (hS0.mono hW.size) |>.mono hb.size)⟩
            · skip
              refine wpMix_pure (by kernel_rfl) (fun K hK => ?_); go_big_quiet_op; refine hK _ ?_; clear hK K
              refine wpMix_pure (by kernel_rfl) (fun K hK => ?_); go_big_quiet_op; refine hK _ ?_; clear hK K
              refine wpMix_pure (by kernel_rfl) (fun K hK => ?_); go_big_quiet_op; refine hK _ ?_; clear hK K
              refine wpMix_pure (by kernel_rfl) (fun K hK => ?_); go_big_quiet_op; refine hK _ ?_; clear hK K
              refine wpMix_pure (by kernel_rfl) (fun K hK => ?_); go_big_quiet_op; refine hK _ ?_; clear hK K
              refine wpMix_pure (by kernel_rfl) (fun K hK => ?_); go_big_quiet_op; refine hK _ ?_; clear hK K
              refine wpMix_pure (by kernel_rfl) (fun K hK => ?_); go_big_quiet_op; refine hK _ ?_; clear hK K
              refine wpMix_pure (by kernel_rfl) (fun K hK => ?_); go_big_quiet_op; refine hK _ ?_; clear hK K
              refine wpMix_pure (by kernel_rfl) (fun K hK => ?_); go_big_quiet_op; refine hK _ ?_; clear hK K
              refine wpMix_pure (by kernel_rfl) (fun K hK => ?_); go_big_quiet_op; refine hK _ ?_; clear hK K
              refine wpMix_pure (by kernel_rfl) (fun K hK => ?_); go_big_quiet_op; refine hK _ ?_; clear hK K
              refine wpMix_pure (by kernel_rfl) (fun K hK => ?_); go_big_quiet_op; refine hK _ ?_; clear hK K
              refine wpMix_pure (by kernel_rfl) (fun K hK => ?_); go_big_quiet_op; refine hK _ ?_; clear hK K
              refine wpMix_pure (by kernel_rfl) (fun K hK => ?_); go_big_quiet_op; refine hK _ ?_; clear hK K
              by_cases hq22 : ltS xs[m].id xs[m + 1].id = true
              · skip
                have e20 : (Op.bytesLess xs[m + 1].id.toList xs[m].id.toList || xs[m + 1].id.toList == xs[m].id.toList) = false := by rw [leS_eq, hq22]; rfl
                refine wpMix_pure (by kernel_rfl) (fun K hK => ?_); go_big_quiet_op; refine hK _ ?_; clear hK K
                refine wpMix_pure (by kernel_rfl) (fun K hK => ?_); go_big_quiet_op; refine hK _ ?_; clear hK K
                refine wpMix_pure (by kernel_rfl) (fun K hK => ?_); go_big_quiet_op; refine hK _ ?_; clear hK K
                refine wpMix_nil ?_
                have HH : Hid (rgHead xs (m + 1) = true) := by show _ = _; rw [rgHead_succ hlt]; simp [*]
                have hSF := hS0
                have z2 := (hS0.cell (block_lt_of_cell c2)).trans c2
                go_wp2
                clear z2
                (try simp only [show ((0 : Nat) : Int) = 0 from rfl])
                refine at_world (fun V => Below wo.heap.size wo V ∧ V.cell? ⟨wo.heap.size, 0, none⟩ = some (.string xs[m + 1].id) ∧ V.cell? ⟨wo.heap.size, 2, none⟩ = some (.slice A1 xs[m + 1].near.length cap1) ∧ Sl fStr.cod V (.slice A1 xs[m + 1].near.length cap1) xs[m + 1].near fk) ⟨hW.trans (hS0.mono hW.size), (hS0.cell (block_lt_of_cell c0)).trans c0, (hS0.cell (block_lt_of_cell c2)).trans c2, hs.below' hS0⟩ ?_
                (try clear gc0 gc1 gd0)
                clear c0 c1 c2 hs d0
                rintro V ⟨hV, c0, c2, hs⟩
                have hbV := hb.trans (hV.mono hb.size)
                go_loopw [45] (fun i wr => ∃ q : Nat, q ≤ xs[m + 1].near.length ∧ i = .int .i64 q ∧ Hid (allIdx (nrOk xs xs[m + 1]) q = true) ∧ Below V.heap.size V wr) (fun i _ => xs[m + 1].near.length - (intOf i).toNat)
                case atStart => exact ⟨0, Nat.zero_le _, rfl, rfl, Below.refl _ _⟩
                case round =>
                  obtain ⟨q, hq, rfl, G0, hbi⟩ := hrel
                  have hbr := hbV.trans (hbi.mono hbV.size)
                  have hxr := hx.below' hbr
                  have d0 := (hbi.cell (block_lt_of_cell c0)).trans c0
                  have d2 := (hbi.cell (block_lt_of_cell c2)).trans c2
                  by_cases hqt : q < xs[m + 1].near.length
                  · obtain ⟨b2, off2, hA2, _, hokq, hcq, _⟩ := (hs.below' hbi).cell1 rfl hqt rfl
                    subst hA2
                    rcases Nat.eq_zero_or_pos q with rfl | hqpos
                    · (try rw [Nat.add_zero] at hcq)
                      by_cases he : xs[m + 1].near[0] = xs[m + 1].id
                      · have HN : Hid (nrOk xs xs[m + 1] (0) = false) := by show _ = _; rw [nrOk_zero hqt, decide_eq_true he]; simp
                        have e16 : (xs[m + 1].near[0].toList == xs[m + 1].id.toList) = true := eqS_true.2 he
                        clear he
                        have HZ : Hid (rgOk xs (m + 1) = false) := by show _ = _; rw [rgOk_at hlt, allIdx_bad hqt HN.out, Bool.and_false]
                        go_wp2
                        go_ret
                        exact ⟨ret_bool (by rw [regionsB_bad hlt HZ.out]), hbr⟩
                      · have e16 : (xs[m + 1].near[0].toList == xs[m + 1].id.toList) = false := bytes_beq_false he
                        have HE : Hid (decide (xs[m + 1].near[0] = xs[m + 1].id) = false) := decide_eq_false he
                        clear he
                        go_wp2_with fail
                        refine (isNear_any _ xs fp _ _ _ hxr).mono ?_
                        rintro e w2 ⟨rfl, hb2⟩
                        cases hn : isNearB xs xs[m + 1].near[0] xs[m + 1].id
                        · have HN : Hid (nrOk xs xs[m + 1] (0) = false) := by show _ = _; rw [nrOk_zero hqt, hn, Bool.and_false]
                          have HZ : Hid (rgOk xs (m + 1) = false) := by show _ = _; rw [rgOk_at hlt, allIdx_bad hqt HN.out, Bool.and_false]
                          go_wp2
                          go_ret
                          exact ⟨ret_bool (by rw [regionsB_bad hlt HZ.out]), hbr.trans (hb2.mono hbr.size)⟩
                        · have HN : Hid (nrOk xs xs[m + 1] (0) = true) := by show _ = _; rw [nrOk_zero hqt, hn, HE.out]; rfl
                          go_wp2
                          go_roundw
                          case rel => exact ⟨0 + 1, by omega, by go_num, allIdx_step G0.out HN.out, hbi.trans (hb2.mono hbi.size)⟩
                          case measure => simp [intOf]; omega
                    · obtain ⟨p, rfl⟩ : ∃ p, q = p + 1 := ⟨q - 1, by omega⟩
                      have hp : p < xs[m + 1].near.length := by omega
                      obtain ⟨b3, off3, hA3, _, hokp, hcp, _⟩ := (hs.below' hbi).cell1 rfl hp rfl
                      injection hA3 with hA3
                      injection hA3 with hA3 hA4 _
                      subst hA3 hA4
                      cases hl : ltS xs[m + 1].near[p] xs[m + 1].near[p + 1]
                      · have HN : Hid (nrOk xs xs[m + 1] (p + 1) = false) := by show _ = _; rw [nrOk_succ hqt, hl]; rfl
                        have e10 : (Op.bytesLess xs[m + 1].near[p + 1].toList xs[m + 1].near[p].toList || xs[m + 1].near[p + 1].toList == xs[m + 1].near[p].toList) = true := by rw [leS_eq, hl]; rfl
                        have HZ : Hid (rgOk xs (m + 1) = false) := by show _ = _; rw [rgOk_at hlt, allIdx_bad hqt HN.out, Bool.and_false]
                        go_wp2
                        go_ret
                        exact ⟨ret_bool (by rw [regionsB_bad hlt HZ.out]), hbr⟩
                      · have e10 : (Op.bytesLess xs[m + 1].near[p + 1].toList xs[m + 1].near[p].toList || xs[m + 1].near[p + 1].toList == xs[m + 1].near[p].toList) = false := by rw [leS_eq, hl]; rfl
                        by_cases he : xs[m + 1].near[p + 1] = xs[m + 1].id
                        · have HN : Hid (nrOk xs xs[m + 1] (p + 1) = false) := by show _ = _; rw [nrOk_succ hqt, hl, decide_eq_true he]; simp
                          have e16 : (xs[m + 1].near[p + 1].toList == xs[m + 1].id.toList) = true := eqS_true.2 he
                          clear he
                          have HZ : Hid (rgOk xs (m + 1) = false) := by show _ = _; rw [rgOk_at hlt, allIdx_bad hqt HN.out, Bool.and_false]
                          go_wp2
                          go_ret
                          exact ⟨ret_bool (by rw [regionsB_bad hlt HZ.out]), hbr⟩
                        · have e16 : (xs[m + 1].near[p + 1].toList == xs[m + 1].id.toList) = false := bytes_beq_false he
                          have HE : Hid (decide (xs[m + 1].near[p + 1] = xs[m + 1].id) = false) := decide_eq_false he
                          clear he
                          go_wp2_with fail
                          refine (isNear_any _ xs fp _ _ _ hxr).mono ?_
                          rintro e w2 ⟨rfl, hb2⟩
                          cases hn : isNearB xs xs[m + 1].near[p + 1] xs[m + 1].id
                          · have HN : Hid (nrOk xs xs[m + 1] (p + 1) = false) := by show _ = _; rw [nrOk_succ hqt, hn, Bool.and_false]
                            have HZ : Hid (rgOk xs (m + 1) = false) := by show _ = _; rw [rgOk_at hlt, allIdx_bad hqt HN.out, Bool.and_false]
                            go_wp2
                            go_ret
                            exact ⟨ret_bool (by rw [regionsB_bad hlt HZ.out]), hbr.trans (hb2.mono hbr.size)⟩
                          · have HN : Hid (nrOk xs xs[m + 1] (p + 1) = true) := by show _ = _; rw [nrOk_succ hqt, hn, hl, HE.out]; rfl
                            go_wp2
                            go_roundw
                            case rel => exact ⟨p + 1 + 1, by omega, by go_num, allIdx_step G0.out HN.out, hbi.trans (hb2.mono hbi.size)⟩
                            case measure => simp [intOf]; omega
                  · have HN := Lib.hid (allIdx_full (by omega) hq G0.out)
                    have HZ : Hid (rgOk xs (m + 1) = true) := by show _ = _; rw [rgOk_at hlt, HH.out, HN.out]; rfl
                    go_wp2
                    go_roundw
                    case rel => exact ⟨m + 1 + 1, by omega, by go_num, allIdx_step H0.out HZ.out, hbr⟩
                    case measure => simp [intOf]; omega
              · skip
                have e20 : (Op.bytesLess xs[m + 1].id.toList xs[m].id.toList || xs[m + 1].id.toList == xs[m].id.toList) = true := by rw [leS_eq]; simpa using hq22
                refine wpMix_pure (by kernel_rfl) (fun K hK => ?_); go_big_quiet_op; refine hK _ ?_; clear hK K
                refine wpMix_pure (by kernel_rfl) (fun K hK => ?_); go_big_quiet_op; refine hK _ ?_; clear hK K
                refine wpMix_pure (by kernel_rfl) (fun K hK => ?_); go_big_quiet_op; refine hK _ ?_; clear hK K
                refine wpMix_nil ?_
                have HZ : Hid (rgOk xs (m + 1) = false) := by show _ = _; rw [rgOk_at hlt, rgHead_succ hlt]; simp [*]
                go_wp2
                go_ret
                exact ⟨ret_bool (by rw [regionsB_bad hlt HZ.out]), hb.trans (hW.trans (hS0.mono hW.size) |>.mono hb.size)⟩
      · have HF := Lib.hid (allIdx_full (by omega) hk H0.out)
        go_wp2
        go_ret
        exact ⟨ret_bool (by rw [regionsB_full hle HF.out]), hb⟩
  · go_enter Tryz.func35, Tryz.ntmps35
    go_wp2
    go_ret
    exact ⟨ret_bool (by rw [regionsB_long hle]), Below.refl _ _⟩
set_option maxRecDepth 100000 in
set_option maxHeartbeats 40000000 in
theorem l18Ok_any (v : Value) (xs : List DRegion) (fp : List Nat) (w : World) (hx : Sl cRegion w v xs fp) :
    Calls Tryz.prog 27 #[v] w fun e w' => e = .returned (.bool (regionsB xs)) ∧ Below w.heap.size w w' := by
  obtain ⟨A, cap, rfl, hlen, hcap⟩ := hx.form
  by_cases hle : xs.length ≤ 8
  · go_enter Tryz.func27, Tryz.ntmps27
    go_wp2
    go_loopw [3] (fun i wr => ∃ k : Nat, k ≤ xs.length ∧ i = .int .i64 k ∧ Hid (allIdx (rgOk xs) k = true) ∧ Below w.heap.size w wr) (fun i _ => xs.length - (intOf i).toNat)
    case atStart => exact ⟨0, Nat.zero_le _, rfl, rfl, Below.refl _ _⟩
    case round =>
      obtain ⟨k, hk, rfl, H0, hb⟩ := hrel
      rename World => wo
      by_cases hlt : k < xs.length
      · rcases Nat.eq_zero_or_pos k with rfl | hpos
        · skip
          obtain ⟨b, off, vk, fk, rfl, c0, c1, c2, hs0, _, _, hok, _⟩ := (hx.below' hb).reg hlt
          rw [Nat.zero_mul, Nat.add_zero] at c0 c1 c2
          obtain ⟨A1, cap1, rfl, hlen1, hcap1⟩ := hs0.form
          have k1 : xs[0].id.size ≤ 9223372036854775807 := hok
          go_wp2
          have gc0 := cell_regrown c0
          have gc1 := cell_regrown c1
          refine wp_region_mix (C := fun w' => ∃ p : Regrown, w' = Go.Sort.grow (redrawn wo p.d) p.os) [true, true, true, true, false, true, true, true, true, true, true, false, true, true, true, true, true, true, true, true, true, true, true, true, true, true, true, true, true, true, true] (by kernel_rfl) (by kernel_rfl) (by kernel_rfl) (fun _ _ d _ _ h => by cases d <;> exact h) (regrown_of_below (Below.drew (Below.refl _ _))) ?_
          have hS0 : Below (wo.heap.size) wo wo.drew := Below.drew (Below.refl _ _)
          refine wpMix_pure (by kernel_rfl) (fun K hK => ?_); go_big_quiet_op; refine hK _ ?_; clear hK K
          refine wpMix_pure (by kernel_rfl) (fun K hK => ?_); go_big_quiet_op; refine hK _ ?_; clear hK K
          refine wpMix_pure (by kernel_rfl) (fun K hK => ?_); go_big_quiet_op; refine hK _ ?_; clear hK K
          refine wpMix_pure (by kernel_rfl) (fun K hK => ?_); go_big_quiet_op; refine hK _ ?_; clear hK K
          refine wpMix_act (by kernel_rfl) (fun K hK => ?_)
          go_big_op
          refine (l01Name_any _ _ k1).mono ?_
          rintro e w' ⟨rfl, rfl⟩
          refine hK _ _ (regrown_of_below hS0) ?_
          clear hK K
          cases hq4 : nameB xs[0].id
          · skip
            refine wpMix_pure (by kernel_rfl) (fun K hK => ?_); go_big_quiet_op; refine hK _ ?_; clear hK K
            refine wpMix_pure (by kernel_rfl) (fun K hK => ?_); go_big_quiet_op; refine hK _ ?_; clear hK K
            refine wpMix_skip (by kernel_rfl) (fun K hK => ?_)
            simp only [Act.put, List.setIfInBounds_toArray, List.set_cons_zero, List.set_cons_succ]
            refine hK _ ?_; clear hK K
            refine wpMix_skip (by kernel_rfl) (fun K hK => ?_)
            simp only [Act.put, List.setIfInBounds_toArray, List.set_cons_zero, List.set_cons_succ]
            refine hK _ ?_; clear hK K
            refine wpMix_skip (by kernel_rfl) (fun K hK => ?_)
            simp only [Act.put, List.setIfInBounds_toArray, List.set_cons_zero, List.set_cons_succ]
            refine hK _ ?_; clear hK K
            refine wpMix_skip (by kernel_rfl) (fun K hK => ?_)
            simp only [Act.put, List.setIfInBounds_toArray, List.set_cons_zero, List.set_cons_succ]
            refine hK _ ?_; clear hK K
            refine wpMix_skip (by kernel_rfl) (fun K hK => ?_)
            simp only [Act.put, List.setIfInBounds_toArray, List.set_cons_zero, List.set_cons_succ]
            refine hK _ ?_; clear hK K
            refine wpMix_skip (by kernel_rfl) (fun K hK => ?_)
            simp only [Act.put, List.setIfInBounds_toArray, List.set_cons_zero, List.set_cons_succ]
            refine hK _ ?_; clear hK K
            refine wpMix_pure (by kernel_rfl) (fun K hK => ?_); go_big_quiet_op; refine hK _ ?_; clear hK K
            refine wpMix_pure (by kernel_rfl) (fun K hK => ?_); go_big_quiet_op; refine hK _ ?_; clear hK K
            refine wpMix_skip (by kernel_rfl) (fun K hK => ?_)
            simp only [Act.put, List.setIfInBounds_toArray, List.set_cons_zero, List.set_cons_succ]
            refine hK _ ?_; clear hK K
            refine wpMix_skip (by kernel_rfl) (fun K hK => ?_)
            simp only [Act.put, List.setIfInBounds_toArray, List.set_cons_zero, List.set_cons_succ]
            refine hK _ ?_; clear hK K
            refine wpMix_skip (by kernel_rfl) (fun K hK => ?_)
            simp only [Act.put, List.setIfInBounds_toArray, List.set_cons_zero, List.set_cons_succ]
            refine hK _ ?_; clear hK K
            refine wpMix_skip (by kernel_rfl) (fun K hK => ?_)
            simp only [Act.put, List.setIfInBounds_toArray, List.set_cons_zero, List.set_cons_succ]
            refine hK _ ?_; clear hK K
            refine wpMix_skip (by kernel_rfl) (fun K hK => ?_)
            simp only [Act.put, List.setIfInBounds_toArray, List.set_cons_zero, List.set_cons_succ]
            refine hK _ ?_; clear hK K
            refine wpMix_skip (by kernel_rfl) (fun K hK => ?_)
            simp only [Act.put, List.setIfInBounds_toArray, List.set_cons_zero, List.set_cons_succ]
            refine hK _ ?_; clear hK K
            refine wpMix_skip (by kernel_rfl) (fun K hK => ?_)
            simp only [Act.put, List.setIfInBounds_toArray, List.set_cons_zero, List.set_cons_succ]
            refine hK _ ?_; clear hK K
            refine wpMix_skip (by kernel_rfl) (fun K hK => ?_)
            simp only [Act.put, List.setIfInBounds_toArray, List.set_cons_zero, List.set_cons_succ]
            refine hK _ ?_; clear hK K
            refine wpMix_skip (by kernel_rfl) (fun K hK => ?_)
            simp only [Act.put, List.setIfInBounds_toArray, List.set_cons_zero, List.set_cons_succ]
            refine hK _ ?_; clear hK K
            refine wpMix_skip (by kernel_rfl) (fun K hK => ?_)
            simp only [Act.put, List.setIfInBounds_toArray, List.set_cons_zero, List.set_cons_succ]
            refine hK _ ?_; clear hK K
            refine wpMix_skip (by kernel_rfl) (fun K hK => ?_)
            simp only [Act.put, List.setIfInBounds_toArray, List.set_cons_zero, List.set_cons_succ]
            refine hK _ ?_; clear hK K
            refine wpMix_skip (by kernel_rfl) (fun K hK => ?_)
            simp only [Act.put, List.setIfInBounds_toArray, List.set_cons_zero, List.set_cons_succ]
            refine hK _ ?_; clear hK K
            refine wpMix_skip (by kernel_rfl) (fun K hK => ?_)
            simp only [Act.put, List.setIfInBounds_toArray, List.set_cons_zero, List.set_cons_succ]
            refine hK _ ?_; clear hK K
            refine wpMix_skip (by kernel_rfl) (fun K hK => ?_)
            simp only [Act.put, List.setIfInBounds_toArray, List.set_cons_zero, List.set_cons_succ]
            refine hK _ ?_; clear hK K
            refine wpMix_skip (by kernel_rfl) (fun K hK => ?_)
            simp only [Act.put, List.setIfInBounds_toArray, List.set_cons_zero, List.set_cons_succ]
            refine hK _ ?_; clear hK K
            refine wpMix_pure (by kernel_rfl) (fun K hK => ?_); go_big_quiet_op; refine hK _ ?_; clear hK K
            refine wpMix_nil ?_
            have HZ : Hid (rgOk xs (0) = false) := by show _ = _; rw [rgOk_at hlt, rgHead_zero hlt]; simp [*]
            go_wp2
            go_ret
            exact ⟨ret_bool (by rw [regionsB_bad hlt HZ.out]), hb.trans (hS0.mono hb.size)⟩
          · skip
            refine wpMix_pure (by kernel_rfl) (fun K hK => ?_); go_big_quiet_op; refine hK _ ?_; clear hK K
            refine wpMix_pure (by kernel_rfl) (fun K hK => ?_); go_big_quiet_op; refine hK _ ?_; clear hK K
            refine wpMix_pure (by kernel_rfl) (fun K hK => ?_); go_big_quiet_op; refine hK _ ?_; clear hK K
            refine wpMix_pure (by kernel_rfl) (fun K hK => ?_); go_big_quiet_op; refine hK _ ?_; clear hK K
            refine wpMix_pure (by kernel_rfl) (fun K hK => ?_); go_big_quiet_op; refine hK _ ?_; clear hK K
            refine wpMix_pure (by kernel_rfl) (fun K hK => ?_); go_big_quiet_op; refine hK _ ?_; clear hK K
            refine wpMix_act (by kernel_rfl) (fun K hK => ?_)
            go_big_op
            refine (l17IsV_any _ _).mono ?_
            rintro e w' ⟨rfl, rfl⟩
            refine hK _ _ (regrown_of_below hS0) ?_
            clear hK K
            cases hq11 : inB xs[0].level 1 5
            · skip
              refine wpMix_pure (by kernel_rfl) (fun K hK => ?_); go_big_quiet_op; refine hK _ ?_; clear hK K
              refine wpMix_pure (by kernel_rfl) (fun K hK => ?_); go_big_quiet_op; refine hK _ ?_; clear hK K
              refine wpMix_pure (by kernel_rfl) (fun K hK => ?_); go_big_quiet_op; refine hK _ ?_; clear hK K
              refine wpMix_skip (by kernel_rfl) (fun K hK => ?_)
              simp only [Act.put, List.setIfInBounds_toArray, List.set_cons_zero, List.set_cons_succ]
              refine hK _ ?_; clear hK K
              refine wpMix_skip (by kernel_rfl) (fun K hK => ?_)
              simp only [Act.put, List.setIfInBounds_toArray, List.set_cons_zero, List.set_cons_succ]
              refine hK _ ?_; clear hK K
              refine wpMix_skip (by kernel_rfl) (fun K hK => ?_)
              simp only [Act.put, List.setIfInBounds_toArray, List.set_cons_zero, List.set_cons_succ]
              refine hK _ ?_; clear hK K
              refine wpMix_skip (by kernel_rfl) (fun K hK => ?_)
              simp only [Act.put, List.setIfInBounds_toArray, List.set_cons_zero, List.set_cons_succ]
              refine hK _ ?_; clear hK K
              refine wpMix_skip (by kernel_rfl) (fun K hK => ?_)
              simp only [Act.put, List.setIfInBounds_toArray, List.set_cons_zero, List.set_cons_succ]
              refine hK _ ?_; clear hK K
              refine wpMix_skip (by kernel_rfl) (fun K hK => ?_)
              simp only [Act.put, List.setIfInBounds_toArray, List.set_cons_zero, List.set_cons_succ]
              refine hK _ ?_; clear hK K
              refine wpMix_skip (by kernel_rfl) (fun K hK => ?_)
              simp only [Act.put, List.setIfInBounds_toArray, List.set_cons_zero, List.set_cons_succ]
              refine hK _ ?_; clear hK K
              refine wpMix_skip (by kernel_rfl) (fun K hK => ?_)
              simp only [Act.put, List.setIfInBounds_toArray, List.set_cons_zero, List.set_cons_succ]
              refine hK _ ?_; clear hK K
              refine wpMix_skip (by kernel_rfl) (fun K hK => ?_)
              simp only [Act.put, List.setIfInBounds_toArray, List.set_cons_zero, List.set_cons_succ]
              refine hK _ ?_; clear hK K
              refine wpMix_skip (by kernel_rfl) (fun K hK => ?_)
              simp only [Act.put, List.setIfInBounds_toArray, List.set_cons_zero, List.set_cons_succ]
              refine hK _ ?_; clear hK K
              refine wpMix_skip (by kernel_rfl) (fun K hK => ?_)
              simp only [Act.put, List.setIfInBounds_toArray, List.set_cons_zero, List.set_cons_succ]
              refine hK _ ?_; clear hK K
              refine wpMix_skip (by kernel_rfl) (fun K hK => ?_)
              simp only [Act.put, List.setIfInBounds_toArray, List.set_cons_zero, List.set_cons_succ]
              refine hK _ ?_; clear hK K
              refine wpMix_skip (by kernel_rfl) (fun K hK => ?_)
              simp only [Act.put, List.setIfInBounds_toArray, List.set_cons_zero, List.set_cons_succ]
              refine hK _ ?_; clear hK K
              refine wpMix_skip (by kernel_rfl) (fun K hK => ?_)
              simp only [Act.put, List.setIfInBounds_toArray, List.set_cons_zero, List.set_cons_succ]
              refine hK _ ?_; clear hK K
              refine wpMix_skip (by kernel_rfl) (fun K hK => ?_)
              simp only [Act.put, List.setIfInBounds_toArray, List.set_cons_zero, List.set_cons_succ]
              refine hK _ ?_; clear hK K
              refine wpMix_pure (by kernel_rfl) (fun K hK => ?_); go_big_quiet_op; refine hK _ ?_; clear hK K
              refine wpMix_nil ?_
              have HZ : Hid (rgOk xs (0) = false) := by show _ = _; rw [rgOk_at hlt, rgHead_zero hlt]; simp [*]
              go_wp2
              go_ret
              exact ⟨ret_bool (by rw [regionsB_bad hlt HZ.out]), hb.trans (hS0.mono hb.size)⟩
            · skip
              refine wpMix_pure (by kernel_rfl) (fun K hK => ?_); go_big_quiet_op; refine hK _ ?_; clear hK K
              refine wpMix_pure (by kernel_rfl) (fun K hK => ?_); go_big_quiet_op; refine hK _ ?_; clear hK K
              refine wpMix_pure (by kernel_rfl) (fun K hK => ?_); go_big_quiet_op; refine hK _ ?_; clear hK K
              refine wpMix_pure (by kernel_rfl) (fun K hK => ?_); go_big_quiet_op; refine hK _ ?_; clear hK K
              refine wpMix_pure (by kernel_rfl) (fun K hK => ?_); go_big_quiet_op; refine hK _ ?_; clear hK K
              refine wpMix_pure (by kernel_rfl) (fun K hK => ?_); go_big_quiet_op; refine hK _ ?_; clear hK K
              refine wpMix_skip (by kernel_rfl) (fun K hK => ?_)
              simp only [Act.put, List.setIfInBounds_toArray, List.set_cons_zero, List.set_cons_succ]
              refine hK _ ?_; clear hK K
              refine wpMix_skip (by kernel_rfl) (fun K hK => ?_)
              simp only [Act.put, List.setIfInBounds_toArray, List.set_cons_zero, List.set_cons_succ]
              refine hK _ ?_; clear hK K
              refine wpMix_skip (by kernel_rfl) (fun K hK => ?_)
              simp only [Act.put, List.setIfInBounds_toArray, List.set_cons_zero, List.set_cons_succ]
              refine hK _ ?_; clear hK K
              refine wpMix_skip (by kernel_rfl) (fun K hK => ?_)
              simp only [Act.put, List.setIfInBounds_toArray, List.set_cons_zero, List.set_cons_succ]
              refine hK _ ?_; clear hK K
              refine wpMix_skip (by kernel_rfl) (fun K hK => ?_)
              simp only [Act.put, List.setIfInBounds_toArray, List.set_cons_zero, List.set_cons_succ]
              refine hK _ ?_; clear hK K
              refine wpMix_skip (by kernel_rfl) (fun K hK => ?_)
              simp only [Act.put, List.setIfInBounds_toArray, List.set_cons_zero, List.set_cons_succ]
              refine hK _ ?_; clear hK K
              refine wpMix_skip (by kernel_rfl) (fun K hK => ?_)
              simp only [Act.put, List.setIfInBounds_toArray, List.set_cons_zero, List.set_cons_succ]
              refine hK _ ?_; clear hK K
              refine wpMix_skip (by kernel_rfl) (fun K hK => ?_)
              simp only [Act.put, List.setIfInBounds_toArray, List.set_cons_zero, List.set_cons_succ]
              refine hK _ ?_; clear hK K
              refine wpMix_skip (by kernel_rfl) (fun K hK => ?_)
              simp only [Act.put, List.setIfInBounds_toArray, List.set_cons_zero, List.set_cons_succ]
              refine hK _ ?_; clear hK K
              refine wpMix_skip (by kernel_rfl) (fun K hK => ?_)
              simp only [Act.put, List.setIfInBounds_toArray, List.set_cons_zero, List.set_cons_succ]
              refine hK _ ?_; clear hK K
              refine wpMix_skip (by kernel_rfl) (fun K hK => ?_)
              simp only [Act.put, List.setIfInBounds_toArray, List.set_cons_zero, List.set_cons_succ]
              refine hK _ ?_; clear hK K
              refine wpMix_pure (by kernel_rfl) (fun K hK => ?_); go_big_quiet_op; refine hK _ ?_; clear hK K
              refine wpMix_pure (by kernel_rfl) (fun K hK => ?_); go_big_quiet_op; refine hK _ ?_; clear hK K
              refine wpMix_nil ?_
              have HH : Hid (rgHead xs (0) = true) := by show _ = _; rw [rgHead_zero hlt]; simp [*]
              have hSF := hS0
              have z2 := (hS0.cell (block_lt_of_cell c2)).trans c2
              go_wp2
              clear z2
              (try simp only [show ((0 : Nat) : Int) = 0 from rfl])
              refine at_world (fun V => Below wo.heap.size wo V ∧ V.cell? ⟨b, off, none⟩ = some (.string xs[0].id) ∧ V.cell? ⟨b, off + 2, none⟩ = some (.slice A1 xs[0].near.length cap1) ∧ Sl fStr.cod V (.slice A1 xs[0].near.length cap1) xs[0].near fk) ⟨hS0, (hS0.cell (block_lt_of_cell c0)).trans c0, (hS0.cell (block_lt_of_cell c2)).trans c2, hs0.below' hS0⟩ ?_
              (try clear gc0 gc1 gd0)
              clear hSF c0 c1 c2 hs0
              rintro V ⟨hV, c0, c2, hs⟩
              have hbV := hb.trans (hV.mono hb.size)
              go_loopw [5] (fun i wr => ∃ q : Nat, q ≤ xs[0].near.length ∧ i = .int .i64 q ∧ Hid (allIdx (nrOk xs xs[0]) q = true) ∧ Below V.heap.size V wr) (fun i _ => xs[0].near.length - (intOf i).toNat)
              case atStart => exact ⟨0, Nat.zero_le _, rfl, rfl, Below.refl _ _⟩
              case round =>
                obtain ⟨q, hq, rfl, G0, hbi⟩ := hrel
                have hbr := hbV.trans (hbi.mono hbV.size)
                have hxr := hx.below' hbr
                have d0 := (hbi.cell (block_lt_of_cell c0)).trans c0
                have d2 := (hbi.cell (block_lt_of_cell c2)).trans c2
                by_cases hqt : q < xs[0].near.length
                · obtain ⟨b2, off2, hA2, _, hokq, hcq, _⟩ := (hs.below' hbi).cell1 rfl hqt rfl
                  subst hA2
                  rcases Nat.eq_zero_or_pos q with rfl | hqpos
                  · (try rw [Nat.add_zero] at hcq)
                    go_wp2_with fail
                    refine (l18Find_any _ xs fp xs[0].near[0] _ hxr).mono ?_
                    rintro e wf ⟨r, rfl, hf, hbf⟩
                    have HSr := at_self hlt H0.out HH.out hf
                    rcases hf with ⟨rfl, hn⟩ | ⟨kf, rfl, hkf, hef, h0f⟩
                    · have HI := Lib.hid (isNearB_none (t := xs[0].id) hn)
                      clear hn HSr
                      go_wp2
                      refine at_world (fun W => Below wr.heap.size wr W) hbf ?_
                      rintro W hW
                      refine wp_region_mix (C := fun w' => ∃ p : Regrown, w' = Go.Sort.grow (redrawn W p.d) p.os) [true, true, true, true, true, true, true, true, true, true, true, true, true, true, true, true, true, true, true, true, true, true, true, true, true, true, true, true, true, true, true, true, true, true, true, true, true, false, true, true] (by kernel_rfl) (by kernel_rfl) (by kernel_rfl) (fun _ _ d _ _ h => by cases d <;> exact h) (regrown_of_below (Below.drew (Below.refl _ _))) ?_
                      have hS0 : Below (W.heap.size) W W.drew := Below.drew (Below.refl _ _)
                      refine wpMix_pure (by kernel_rfl) (fun K hK => ?_); go_big_quiet_op; refine hK _ ?_; clear hK K
                      refine wpMix_pure (by kernel_rfl) (fun K hK => ?_); go_big_quiet_op; refine hK _ ?_; clear hK K
                      refine wpMix_pure (by kernel_rfl) (fun K hK => ?_); go_big_quiet_op; refine hK _ ?_; clear hK K
                      refine wpMix_skip (by kernel_rfl) (fun K hK => ?_)
                      simp only [Act.put, List.setIfInBounds_toArray, List.set_cons_zero, List.set_cons_succ]
                      refine hK _ ?_; clear hK K
                      refine wpMix_skip (by kernel_rfl) (fun K hK => ?_)
                      simp only [Act.put, List.setIfInBounds_toArray, List.set_cons_zero, List.set_cons_succ]
                      refine hK _ ?_; clear hK K
                      refine wpMix_skip (by kernel_rfl) (fun K hK => ?_)
                      simp only [Act.put, List.setIfInBounds_toArray, List.set_cons_zero, List.set_cons_succ]
                      refine hK _ ?_; clear hK K
                      refine wpMix_pure (by kernel_rfl) (fun K hK => ?_); go_big_quiet_op; refine hK _ ?_; clear hK K
                      refine wpMix_pure (by kernel_rfl) (fun K hK => ?_); go_big_quiet_op; refine hK _ ?_; clear hK K
                      refine wpMix_skip (by kernel_rfl) (fun K hK => ?_)
                      simp only [Act.put, List.setIfInBounds_toArray, List.set_cons_zero, List.set_cons_succ]
                      refine hK _ ?_; clear hK K
                      refine wpMix_skip (by kernel_rfl) (fun K hK => ?_)
                      simp only [Act.put, List.setIfInBounds_toArray, List.set_cons_zero, List.set_cons_succ]
                      refine hK _ ?_; clear hK K
                      refine wpMix_skip (by kernel_rfl) (fun K hK => ?_)
                      simp only [Act.put, List.setIfInBounds_toArray, List.set_cons_zero, List.set_cons_succ]
                      refine hK _ ?_; clear hK K
                      refine wpMix_skip (by kernel_rfl) (fun K hK => ?_)
                      simp only [Act.put, List.setIfInBounds_toArray, List.set_cons_zero, List.set_cons_succ]
                      refine hK _ ?_; clear hK K
                      refine wpMix_skip (by kernel_rfl) (fun K hK => ?_)
                      simp only [Act.put, List.setIfInBounds_toArray, List.set_cons_zero, List.set_cons_succ]
                      refine hK _ ?_; clear hK K
                      refine wpMix_skip (by kernel_rfl) (fun K hK => ?_)
                      simp only [Act.put, List.setIfInBounds_toArray, List.set_cons_zero, List.set_cons_succ]
                      refine hK _ ?_; clear hK K
                      refine wpMix_skip (by kernel_rfl) (fun K hK => ?_)
                      simp only [Act.put, List.setIfInBounds_toArray, List.set_cons_zero, List.set_cons_succ]
                      refine hK _ ?_; clear hK K
                      refine wpMix_skip (by kernel_rfl) (fun K hK => ?_)
                      simp only [Act.put, List.setIfInBounds_toArray, List.set_cons_zero, List.set_cons_succ]
                      refine hK _ ?_; clear hK K
                      refine wpMix_skip (by kernel_rfl) (fun K hK => ?_)
                      simp only [Act.put, List.setIfInBounds_toArray, List.set_cons_zero, List.set_cons_succ]
                      refine hK _ ?_; clear hK K
                      refine wpMix_skip (by kernel_rfl) (fun K hK => ?_)
                      simp only [Act.put, List.setIfInBounds_toArray, List.set_cons_zero, List.set_cons_succ]
                      refine hK _ ?_; clear hK K
                      refine wpMix_skip (by kernel_rfl) (fun K hK => ?_)
                      simp only [Act.put, List.setIfInBounds_toArray, List.set_cons_zero, List.set_cons_succ]
                      refine hK _ ?_; clear hK K
                      refine wpMix_skip (by kernel_rfl) (fun K hK => ?_)
                      simp only [Act.put, List.setIfInBounds_toArray, List.set_cons_zero, List.set_cons_succ]
                      refine hK _ ?_; clear hK K
                      refine wpMix_skip (by kernel_rfl) (fun K hK => ?_)
                      simp only [Act.put, List.setIfInBounds_toArray, List.set_cons_zero, List.set_cons_succ]
                      refine hK _ ?_; clear hK K
                      refine wpMix_skip (by kernel_rfl) (fun K hK => ?_)
                      simp only [Act.put, List.setIfInBounds_toArray, List.set_cons_zero, List.set_cons_succ]
                      refine hK _ ?_; clear hK K
                      refine wpMix_skip (by kernel_rfl) (fun K hK => ?_)
                      simp only [Act.put, List.setIfInBounds_toArray, List.set_cons_zero, List.set_cons_succ]
                      refine hK _ ?_; clear hK K
                      refine wpMix_skip (by kernel_rfl) (fun K hK => ?_)
                      simp only [Act.put, List.setIfInBounds_toArray, List.set_cons_zero, List.set_cons_succ]
                      refine hK _ ?_; clear hK K
                      refine wpMix_skip (by kernel_rfl) (fun K hK => ?_)
                      simp only [Act.put, List.setIfInBounds_toArray, List.set_cons_zero, List.set_cons_succ]
                      refine hK _ ?_; clear hK K
                      refine wpMix_skip (by kernel_rfl) (fun K hK => ?_)
                      simp only [Act.put, List.setIfInBounds_toArray, List.set_cons_zero, List.set_cons_succ]
                      refine hK _ ?_; clear hK K
                      refine wpMix_skip (by kernel_rfl) (fun K hK => ?_)
                      simp only [Act.put, List.setIfInBounds_toArray, List.set_cons_zero, List.set_cons_succ]
                      refine hK _ ?_; clear hK K
                      refine wpMix_skip (by kernel_rfl) (fun K hK => ?_)
                      simp only [Act.put, List.setIfInBounds_toArray, List.set_cons_zero, List.set_cons_succ]
                      refine hK _ ?_; clear hK K
                      refine wpMix_pure (by kernel_rfl) (fun K hK => ?_); go_big_quiet_op; refine hK _ ?_; clear hK K
                      refine wpMix_pure (by kernel_rfl) (fun K hK => ?_); go_big_quiet_op; refine hK _ ?_; clear hK K
                      refine wpMix_skip (by kernel_rfl) (fun K hK => ?_)
                      simp only [Act.put, List.setIfInBounds_toArray, List.set_cons_zero, List.set_cons_succ]
                      refine hK _ ?_; clear hK K
                      refine wpMix_skip (by kernel_rfl) (fun K hK => ?_)
                      simp only [Act.put, List.setIfInBounds_toArray, List.set_cons_zero, List.set_cons_succ]
                      refine hK _ ?_; clear hK K
                      refine wpMix_skip (by kernel_rfl) (fun K hK => ?_)
                      simp only [Act.put, List.setIfInBounds_toArray, List.set_cons_zero, List.set_cons_succ]
                      refine hK _ ?_; clear hK K
                      refine wpMix_skip (by kernel_rfl) (fun K hK => ?_)
                      simp only [Act.put, List.setIfInBounds_toArray, List.set_cons_zero, List.set_cons_succ]
                      refine hK _ ?_; clear hK K
                      refine wpMix_skip (by kernel_rfl) (fun K hK => ?_)
                      simp only [Act.put, List.setIfInBounds_toArray, List.set_cons_zero, List.set_cons_succ]
                      refine hK _ ?_; clear hK K
                      refine wpMix_skip (by kernel_rfl) (fun K hK => ?_)
                      simp only [Act.put, List.setIfInBounds_toArray, List.set_cons_zero, List.set_cons_succ]
                      refine hK _ ?_; clear hK K
                      refine wpMix_skip (by kernel_rfl) (fun K hK => ?_)
                      simp only [Act.put, List.setIfInBounds_toArray, List.set_cons_zero, List.set_cons_succ]
                      refine hK _ ?_; clear hK K
                      refine wpMix_skip (by kernel_rfl) (fun K hK => ?_)
                      simp only [Act.put, List.setIfInBounds_toArray, List.set_cons_zero, List.set_cons_succ]
                      refine hK _ ?_; clear hK K
                      refine wpMix_skip (by kernel_rfl) (fun K hK => ?_)
                      simp only [Act.put, List.setIfInBounds_toArray, List.set_cons_zero, List.set_cons_succ]
                      refine hK _ ?_; clear hK K
                      refine wpMix_pure (by kernel_rfl) (fun K hK => ?_); go_big_quiet_op; refine hK _ ?_; clear hK K
                      refine wpMix_nil ?_
                      have HN : Hid (nrOk xs xs[0] (0) = false) := by show _ = _; rw [nrOk_zero hqt, HI.out, Bool.and_false]
                      have HZ : Hid (rgOk xs (0) = false) := by show _ = _; rw [rgOk_at hlt, allIdx_bad hqt HN.out, Bool.and_false]
                      go_wp2
                      go_ret
                      exact ⟨ret_bool (by rw [regionsB_bad hlt HZ.out]), hbr.trans ((hW.mono hbr.size).trans (hS0.mono (Nat.le_trans hbr.size hW.size)))⟩
                    · have HI := Lib.hid (isNearB_at (t := xs[0].id) hkf hef h0f)
                      have HS := HSr
                      clear hef h0f HSr
                      obtain ⟨bf, of, vf, ff, hAf, g0, g1, h2f, hsf, _⟩ := (hxr.below' hbf).reg hkf
                      injection hAf with hAf
                      injection hAf with hAf hAg _
                      subst hAf hAg
                      go_wp2
                      refine at_world (fun W => Below wr.heap.size wr W ∧ W.cell? ⟨b, off, none⟩ = some (.string xs[0].id) ∧ W.cell? ⟨b, off + 2, none⟩ = some (.slice (some ⟨b2, off2, none⟩) xs[0].near.length cap1) ∧ W.cell? ⟨b2, off2, none⟩ = some (.string xs[0].near[0]) ∧ W.cell? ⟨b, off + kf * 3 + 2, none⟩ = some vf ∧ Sl fStr.cod W vf xs[kf].near ff) ⟨hbf, (hbf.cell (block_lt_of_cell d0)).trans d0, (hbf.cell (block_lt_of_cell d2)).trans d2, (hbf.cell (block_lt_of_cell hcq)).trans hcq, h2f, hsf⟩ ?_
                      clear g0 g1 h2f hsf
                      rintro W ⟨hW, w0, w2, wq, h2f, hsf⟩
                      have e1 : decide ((kf : Int) < 0) = false := by simp
                      have gw0 := cell_regrown w0
                      have gw2 := cell_regrown w2
                      have gwq := cell_regrown wq
                      refine wp_region_mix (C := fun w' => ∃ p : Regrown, w' = Go.Sort.grow (redrawn W p.d) p.os) [true, true, true, true, true, true, true, true, true, true, true, true, true, true, true, true, true, true, true, true, true, true, true, true, true, true, true, true, true, true, true, true, true, true, true, true, true, false, true, true] (by kernel_rfl) (by kernel_rfl) (by kernel_rfl) (fun _ _ d _ _ h => by cases d <;> exact h) (regrown_of_below (Below.drew (Below.refl _ _))) ?_
                      have hS0 : Below (W.heap.size) W W.drew := Below.drew (Below.refl _ _)
                      refine wpMix_pure (by kernel_rfl) (fun K hK => ?_); go_big_quiet_op; refine hK _ ?_; clear hK K
                      refine wpMix_pure (by kernel_rfl) (fun K hK => ?_); go_big_quiet_op; refine hK _ ?_; clear hK K
                      refine wpMix_pure (by kernel_rfl) (fun K hK => ?_); go_big_quiet_op; refine hK _ ?_; clear hK K
                      refine wpMix_pure (by kernel_rfl) (fun K hK => ?_); go_big_quiet_op; refine hK _ ?_; clear hK K
                      refine wpMix_pure (by kernel_rfl) (fun K hK => ?_); go_big_quiet_op; refine hK _ ?_; clear hK K
                      by_cases hq5 : (kf : Int) = 0
                      · skip
                        have e5 : ((kf : Int) == 0) = true := by rw [beq_iff_eq]; exact hq5
                        refine wpMix_pure (by kernel_rfl) (fun K hK => ?_); go_big_quiet_op; refine hK _ ?_; clear hK K
                        refine wpMix_pure (by kernel_rfl) (fun K hK => ?_); go_big_quiet_op; refine hK _ ?_; clear hK K
                        refine wpMix_pure (by kernel_rfl) (fun K hK => ?_); go_big_quiet_op; refine hK _ ?_; clear hK K
                        refine wpMix_skip (by kernel_rfl) (fun K hK => ?_)
                        simp only [Act.put, List.setIfInBounds_toArray, List.set_cons_zero, List.set_cons_succ]
                        refine hK _ ?_; clear hK K
                        refine wpMix_skip (by kernel_rfl) (fun K hK => ?_)
                        simp only [Act.put, List.setIfInBounds_toArray, List.set_cons_zero, List.set_cons_succ]
                        refine hK _ ?_; clear hK K
                        refine wpMix_skip (by kernel_rfl) (fun K hK => ?_)
                        simp only [Act.put, List.setIfInBounds_toArray, List.set_cons_zero, List.set_cons_succ]
                        refine hK _ ?_; clear hK K
                        refine wpMix_skip (by kernel_rfl) (fun K hK => ?_)
                        simp only [Act.put, List.setIfInBounds_toArray, List.set_cons_zero, List.set_cons_succ]
                        refine hK _ ?_; clear hK K
                        refine wpMix_skip (by kernel_rfl) (fun K hK => ?_)
                        simp only [Act.put, List.setIfInBounds_toArray, List.set_cons_zero, List.set_cons_succ]
                        refine hK _ ?_; clear hK K
                        refine wpMix_skip (by kernel_rfl) (fun K hK => ?_)
                        simp only [Act.put, List.setIfInBounds_toArray, List.set_cons_zero, List.set_cons_succ]
                        refine hK _ ?_; clear hK K
                        refine wpMix_skip (by kernel_rfl) (fun K hK => ?_)
                        simp only [Act.put, List.setIfInBounds_toArray, List.set_cons_zero, List.set_cons_succ]
                        refine hK _ ?_; clear hK K
                        refine wpMix_skip (by kernel_rfl) (fun K hK => ?_)
                        simp only [Act.put, List.setIfInBounds_toArray, List.set_cons_zero, List.set_cons_succ]
                        refine hK _ ?_; clear hK K
                        refine wpMix_skip (by kernel_rfl) (fun K hK => ?_)
                        simp only [Act.put, List.setIfInBounds_toArray, List.set_cons_zero, List.set_cons_succ]
                        refine hK _ ?_; clear hK K
                        refine wpMix_skip (by kernel_rfl) (fun K hK => ?_)
                        simp only [Act.put, List.setIfInBounds_toArray, List.set_cons_zero, List.set_cons_succ]
                        refine hK _ ?_; clear hK K
                        refine wpMix_skip (by kernel_rfl) (fun K hK => ?_)
                        simp only [Act.put, List.setIfInBounds_toArray, List.set_cons_zero, List.set_cons_succ]
                        refine hK _ ?_; clear hK K
                        refine wpMix_skip (by kernel_rfl) (fun K hK => ?_)
                        simp only [Act.put, List.setIfInBounds_toArray, List.set_cons_zero, List.set_cons_succ]
                        refine hK _ ?_; clear hK K
                        refine wpMix_skip (by kernel_rfl) (fun K hK => ?_)
                        simp only [Act.put, List.setIfInBounds_toArray, List.set_cons_zero, List.set_cons_succ]
                        refine hK _ ?_; clear hK K
                        refine wpMix_skip (by kernel_rfl) (fun K hK => ?_)
                        simp only [Act.put, List.setIfInBounds_toArray, List.set_cons_zero, List.set_cons_succ]
                        refine hK _ ?_; clear hK K
                        refine wpMix_skip (by kernel_rfl) (fun K hK => ?_)
                        simp only [Act.put, List.setIfInBounds_toArray, List.set_cons_zero, List.set_cons_succ]
                        refine hK _ ?_; clear hK K
                        refine wpMix_skip (by kernel_rfl) (fun K hK => ?_)
                        simp only [Act.put, List.setIfInBounds_toArray, List.set_cons_zero, List.set_cons_succ]
                        refine hK _ ?_; clear hK K
                        refine wpMix_skip (by kernel_rfl) (fun K hK => ?_)
                        simp only [Act.put, List.setIfInBounds_toArray, List.set_cons_zero, List.set_cons_succ]
                        refine hK _ ?_; clear hK K
                        refine wpMix_skip (by kernel_rfl) (fun K hK => ?_)
                        simp only [Act.put, List.setIfInBounds_toArray, List.set_cons_zero, List.set_cons_succ]
                        refine hK _ ?_; clear hK K
                        refine wpMix_skip (by kernel_rfl) (fun K hK => ?_)
                        simp only [Act.put, List.setIfInBounds_toArray, List.set_cons_zero, List.set_cons_succ]
                        refine hK _ ?_; clear hK K
                        refine wpMix_skip (by kernel_rfl) (fun K hK => ?_)
                        simp only [Act.put, List.setIfInBounds_toArray, List.set_cons_zero, List.set_cons_succ]
                        refine hK _ ?_; clear hK K
                        refine wpMix_pure (by kernel_rfl) (fun K hK => ?_); go_big_quiet_op; refine hK _ ?_; clear hK K
                        refine wpMix_pure (by kernel_rfl) (fun K hK => ?_); go_big_quiet_op; refine hK _ ?_; clear hK K
                        refine wpMix_skip (by kernel_rfl) (fun K hK => ?_)
                        simp only [Act.put, List.setIfInBounds_toArray, List.set_cons_zero, List.set_cons_succ]
                        refine hK _ ?_; clear hK K
                        refine wpMix_skip (by kernel_rfl) (fun K hK => ?_)
                        simp only [Act.put, List.setIfInBounds_toArray, List.set_cons_zero, List.set_cons_succ]
                        refine hK _ ?_; clear hK K
                        refine wpMix_skip (by kernel_rfl) (fun K hK => ?_)
                        simp only [Act.put, List.setIfInBounds_toArray, List.set_cons_zero, List.set_cons_succ]
                        refine hK _ ?_; clear hK K
                        refine wpMix_skip (by kernel_rfl) (fun K hK => ?_)
                        simp only [Act.put, List.setIfInBounds_toArray, List.set_cons_zero, List.set_cons_succ]
                        refine hK _ ?_; clear hK K
                        refine wpMix_skip (by kernel_rfl) (fun K hK => ?_)
                        simp only [Act.put, List.setIfInBounds_toArray, List.set_cons_zero, List.set_cons_succ]
                        refine hK _ ?_; clear hK K
                        refine wpMix_skip (by kernel_rfl) (fun K hK => ?_)
                        simp only [Act.put, List.setIfInBounds_toArray, List.set_cons_zero, List.set_cons_succ]
                        refine hK _ ?_; clear hK K
                        refine wpMix_skip (by kernel_rfl) (fun K hK => ?_)
                        simp only [Act.put, List.setIfInBounds_toArray, List.set_cons_zero, List.set_cons_succ]
                        refine hK _ ?_; clear hK K
                        refine wpMix_skip (by kernel_rfl) (fun K hK => ?_)
                        simp only [Act.put, List.setIfInBounds_toArray, List.set_cons_zero, List.set_cons_succ]
                        refine hK _ ?_; clear hK K
                        refine wpMix_skip (by kernel_rfl) (fun K hK => ?_)
                        simp only [Act.put, List.setIfInBounds_toArray, List.set_cons_zero, List.set_cons_succ]
                        refine hK _ ?_; clear hK K
                        refine wpMix_pure (by kernel_rfl) (fun K hK => ?_); go_big_quiet_op; refine hK _ ?_; clear hK K
                        refine wpMix_nil ?_
                        have HN : Hid (nrOk xs xs[0] (0) = false) := by show _ = _; rw [nrOk_zero hqt, decide_eq_true (HS.1 (by omega))]; simp
                        have HZ : Hid (rgOk xs (0) = false) := by show _ = _; rw [rgOk_at hlt, allIdx_bad hqt HN.out, Bool.and_false]
                        go_wp2
                        go_ret
                        exact ⟨ret_bool (by rw [regionsB_bad hlt HZ.out]), hbr.trans ((hW.mono hbr.size).trans (hS0.mono (Nat.le_trans hbr.size hW.size)))⟩
                      · skip
                        have e5 : ((kf : Int) == 0) = false := by rw [beq_eq_false_iff_ne]; exact hq5
                        refine wpMix_pure (by kernel_rfl) (fun K hK => ?_); go_big_quiet_op; refine hK _ ?_; clear hK K
                        refine wpMix_pure (by kernel_rfl) (fun K hK => ?_); go_big_quiet_op; refine hK _ ?_; clear hK K
                        refine wpMix_pure (by kernel_rfl) (fun K hK => ?_); go_big_quiet_op; refine hK _ ?_; clear hK K
                        refine wpMix_pure (by kernel_rfl) (fun K hK => ?_); go_big_quiet_op; refine hK _ ?_; clear hK K
                        refine wpMix_pure (by kernel_rfl) (fun K hK => ?_); go_big_quiet_op; refine hK _ ?_; clear hK K
                        refine wpMix_pure (by kernel_rfl) (fun K hK => ?_); go_big_quiet_op; refine hK _ ?_; clear hK K
                        refine wpMix_skip (by kernel_rfl) (fun K hK => ?_)
                        simp only [Act.put, List.setIfInBounds_toArray, List.set_cons_zero, List.set_cons_succ]
                        refine hK _ ?_; clear hK K
                        refine wpMix_skip (by kernel_rfl) (fun K hK => ?_)
                        simp only [Act.put, List.setIfInBounds_toArray, List.set_cons_zero, List.set_cons_succ]
                        refine hK _ ?_; clear hK K
                        refine wpMix_skip (by kernel_rfl) (fun K hK => ?_)
                        simp only [Act.put, List.setIfInBounds_toArray, List.set_cons_zero, List.set_cons_succ]
                        refine hK _ ?_; clear hK K
                        refine wpMix_skip (by kernel_rfl) (fun K hK => ?_)
                        simp only [Act.put, List.setIfInBounds_toArray, List.set_cons_zero, List.set_cons_succ]
                        refine hK _ ?_; clear hK K
                        refine wpMix_skip (by kernel_rfl) (fun K hK => ?_)
                        simp only [Act.put, List.setIfInBounds_toArray, List.set_cons_zero, List.set_cons_succ]
                        refine hK _ ?_; clear hK K
                        refine wpMix_skip (by kernel_rfl) (fun K hK => ?_)
                        simp only [Act.put, List.setIfInBounds_toArray, List.set_cons_zero, List.set_cons_succ]
                        refine hK _ ?_; clear hK K
                        refine wpMix_skip (by kernel_rfl) (fun K hK => ?_)
                        simp only [Act.put, List.setIfInBounds_toArray, List.set_cons_zero, List.set_cons_succ]
                        refine hK _ ?_; clear hK K
                        refine wpMix_skip (by kernel_rfl) (fun K hK => ?_)
                        simp only [Act.put, List.setIfInBounds_toArray, List.set_cons_zero, List.set_cons_succ]
                        refine hK _ ?_; clear hK K
                        refine wpMix_skip (by kernel_rfl) (fun K hK => ?_)
                        simp only [Act.put, List.setIfInBounds_toArray, List.set_cons_zero, List.set_cons_succ]
                        refine hK _ ?_; clear hK K
                        refine wpMix_skip (by kernel_rfl) (fun K hK => ?_)
                        simp only [Act.put, List.setIfInBounds_toArray, List.set_cons_zero, List.set_cons_succ]
                        refine hK _ ?_; clear hK K
                        refine wpMix_skip (by kernel_rfl) (fun K hK => ?_)
                        simp only [Act.put, List.setIfInBounds_toArray, List.set_cons_zero, List.set_cons_succ]
                        refine hK _ ?_; clear hK K
                        refine wpMix_skip (by kernel_rfl) (fun K hK => ?_)
                        simp only [Act.put, List.setIfInBounds_toArray, List.set_cons_zero, List.set_cons_succ]
                        refine hK _ ?_; clear hK K
                        refine wpMix_skip (by kernel_rfl) (fun K hK => ?_)
                        simp only [Act.put, List.setIfInBounds_toArray, List.set_cons_zero, List.set_cons_succ]
                        refine hK _ ?_; clear hK K
                        refine wpMix_skip (by kernel_rfl) (fun K hK => ?_)
                        simp only [Act.put, List.setIfInBounds_toArray, List.set_cons_zero, List.set_cons_succ]
                        refine hK _ ?_; clear hK K
                        refine wpMix_skip (by kernel_rfl) (fun K hK => ?_)
                        simp only [Act.put, List.setIfInBounds_toArray, List.set_cons_zero, List.set_cons_succ]
                        refine hK _ ?_; clear hK K
                        refine wpMix_skip (by kernel_rfl) (fun K hK => ?_)
                        simp only [Act.put, List.setIfInBounds_toArray, List.set_cons_zero, List.set_cons_succ]
                        refine hK _ ?_; clear hK K
                        refine wpMix_pure (by kernel_rfl) (fun K hK => ?_); go_big_quiet_op; refine hK _ ?_; clear hK K
                        refine wpMix_pure (by kernel_rfl) (fun K hK => ?_); go_big_quiet_op; refine hK _ ?_; clear hK K
                        refine wpMix_pure (by kernel_rfl) (fun K hK => ?_); go_big_quiet_op; refine hK _ ?_; clear hK K
                        refine wpMix_pure (by kernel_rfl) (fun K hK => ?_); go_big_quiet_op; refine hK _ ?_; clear hK K
                        refine wpMix_pure (by kernel_rfl) (fun K hK => ?_); go_big_quiet_op; refine hK _ ?_; clear hK K
                        refine wpMix_pure (by kernel_rfl) (fun K hK => ?_); go_big_quiet_op; refine hK _ ?_; clear hK K
                        refine wpMix_pure (by kernel_rfl) (fun K hK => ?_); go_big_quiet_op; refine hK _ ?_; clear hK K
                        refine wpMix_pure (by kernel_rfl) (fun K hK => ?_); go_big_quiet_op; refine hK _ ?_; clear hK K
                        refine wpMix_pure (by kernel_rfl) (fun K hK => ?_); go_big_quiet_op; refine hK _ ?_; clear hK K
                        refine wpMix_pure (by kernel_rfl) (fun K hK => ?_); go_big_quiet_op; refine hK _ ?_; clear hK K
                        refine wpMix_act (by kernel_rfl) (fun K hK => ?_)
                        go_big_op
                        refine (l18Near_any b (off + kf * 3) _ _ _ xs[0].id _ ((hS0.cell (block_lt_of_cell h2f)).trans h2f) (hsf.below' hS0)).mono ?_
                        rintro e w' ⟨rfl, rfl⟩
                        refine hK _ _ (regrown_of_below hS0) ?_
                        clear hK K
                        cases hq37 : memS xs[0].id xs[kf].near
                        · skip
                          refine wpMix_pure (by kernel_rfl) (fun K hK => ?_); go_big_quiet_op; refine hK _ ?_; clear hK K
                          refine wpMix_pure (by kernel_rfl) (fun K hK => ?_); go_big_quiet_op; refine hK _ ?_; clear hK K
                          refine wpMix_nil ?_
                          have HN : Hid (nrOk xs xs[0] (0) = false) := by show _ = _; rw [nrOk_zero hqt, HI.out, hq37, Bool.and_false]
                          have HZ : Hid (rgOk xs (0) = false) := by show _ = _; rw [rgOk_at hlt, allIdx_bad hqt HN.out, Bool.and_false]
                          go_wp2
                          go_ret
                          exact ⟨ret_bool (by rw [regionsB_bad hlt HZ.out]), hbr.trans ((hW.mono hbr.size).trans (hS0.mono (Nat.le_trans hbr.size hW.size)))⟩
                        · skip
                          refine wpMix_pure (by kernel_rfl) (fun K hK => ?_); go_big_quiet_op; refine hK _ ?_; clear hK K
                          refine wpMix_pure (by kernel_rfl) (fun K hK => ?_); go_big_quiet_op; refine hK _ ?_; clear hK K
                          refine wpMix_nil ?_
                          have HN : Hid (nrOk xs xs[0] (0) = true) := by show _ = _; rw [nrOk_zero hqt, HI.out, hq37, decide_eq_false (fun e => hq5 (by have := HS.2 e; omega))]; rfl
                          go_wp2
                          go_roundw
                          case rel => exact ⟨0 + 1, by omega, by go_num, allIdx_step G0.out HN.out, hbi.trans ((hW.mono hbi.size).trans (hS0.mono (Nat.le_trans hbi.size hW.size)))⟩
                          case measure => simp [intOf]; omega
                  · obtain ⟨p, rfl⟩ : ∃ p, q = p + 1 := ⟨q - 1, by omega⟩
                    have hp : p < xs[0].near.length := by omega
                    obtain ⟨b3, off3, hA3, _, hokp, hcp, _⟩ := (hs.below' hbi).cell1 rfl hp rfl
                    injection hA3 with hA3
                    injection hA3 with hA3 hA4 _
                    subst hA3 hA4
                    go_wp2_with fail
                    refine (l18Find_any _ xs fp xs[0].near[p + 1] _ hxr).mono ?_
                    rintro e wf ⟨r, rfl, hf, hbf⟩
                    have HSr := at_self hlt H0.out HH.out hf
                    rcases hf with ⟨rfl, hn⟩ | ⟨kf, rfl, hkf, hef, h0f⟩
                    · have HI := Lib.hid (isNearB_none (t := xs[0].id) hn)
                      clear hn HSr
                      go_wp2
                      refine at_world (fun W => Below wr.heap.size wr W) hbf ?_
                      rintro W hW
                      refine wp_region_mix (C := fun w' => ∃ p : Regrown, w' = Go.Sort.grow (redrawn W p.d) p.os) [true, true, true, true, true, true, true, true, true, true, true, true, true, true, true, true, true, true, true, true, true, true, true, true, true, true, true, true, true, true, true, true, true, true, true, true, true, false, true, true] (by kernel_rfl) (by kernel_rfl) (by kernel_rfl) (fun _ _ d _ _ h => by cases d <;> exact h) (regrown_of_below (Below.drew (Below.refl _ _))) ?_
                      have hS0 : Below (W.heap.size) W W.drew := Below.drew (Below.refl _ _)
                      refine wpMix_pure (by kernel_rfl) (fun K hK => ?_); go_big_quiet_op; refine hK _ ?_; clear hK K
                      refine wpMix_pure (by kernel_rfl) (fun K hK => ?_); go_big_quiet_op; refine hK _ ?_; clear hK K
                      refine wpMix_pure (by kernel_rfl) (fun K hK => ?_); go_big_quiet_op; refine hK _ ?_; clear hK K
                      refine wpMix_skip (by kernel_rfl) (fun K hK => ?_)
                      simp only [Act.put, List.setIfInBounds_toArray, List.set_cons_zero, List.set_cons_succ]
                      refine hK _ ?_; clear hK K
                      refine wpMix_skip (by kernel_rfl) (fun K hK => ?_)
                      simp only [Act.put, List.setIfInBounds_toArray, List.set_cons_zero, List.set_cons_succ]
                      refine hK _ ?_; clear hK K
                      refine wpMix_skip (by kernel_rfl) (fun K hK => ?_)
                      simp only [Act.put, List.setIfInBounds_toArray, List.set_cons_zero, List.set_cons_succ]
                      refine hK _ ?_; clear hK K
                      refine wpMix_pure (by kernel_rfl) (fun K hK => ?_); go_big_quiet_op; refine hK _ ?_; clear hK K
                      refine wpMix_pure (by kernel_rfl) (fun K hK => ?_); go_big_quiet_op; refine hK _ ?_; clear hK K
                      refine wpMix_skip (by kernel_rfl) (fun K hK => ?_)
                      simp only [Act.put, List.setIfInBounds_toArray, List.set_cons_zero, List.set_cons_succ]
                      refine hK _ ?_; clear hK K
                      refine wpMix_skip (by kernel_rfl) (fun K hK => ?_)
                      simp only [Act.put, List.setIfInBounds_toArray, List.set_cons_zero, List.set_cons_succ]
                      refine hK _ ?_; clear hK K
                      refine wpMix_skip (by kernel_rfl) (fun K hK => ?_)
                      simp only [Act.put, List.setIfInBounds_toArray, List.set_cons_zero, List.set_cons_succ]
                      refine hK _ ?_; clear hK K
                      refine wpMix_skip (by kernel_rfl) (fun K hK => ?_)
                      simp only [Act.put, List.setIfInBounds_toArray, List.set_cons_zero, List.set_cons_succ]
                      refine hK _ ?_; clear hK K
                      refine wpMix_skip (by kernel_rfl) (fun K hK => ?_)
                      simp only [Act.put, List.setIfInBounds_toArray, List.set_cons_zero, List.set_cons_succ]
                      refine hK _ ?_; clear hK K
                      refine wpMix_skip (by kernel_rfl) (fun K hK => ?_)
                      simp only [Act.put, List.setIfInBounds_toArray, List.set_cons_zero, List.set_cons_succ]
                      refine hK _ ?_; clear hK K
                      refine wpMix_skip (by kernel_rfl) (fun K hK => ?_)
                      simp only [Act.put, List.setIfInBounds_toArray, List.set_cons_zero, List.set_cons_succ]
                      refine hK _ ?_; clear hK K
                      refine wpMix_skip (by kernel_rfl) (fun K hK => ?_)
                      simp only [Act.put, List.setIfInBounds_toArray, List.set_cons_zero, List.set_cons_succ]
                      refine hK _ ?_; clear hK K
                      refine wpMix_skip (by kernel_rfl) (fun K hK => ?_)
                      simp only [Act.put, List.setIfInBounds_toArray, List.set_cons_zero, List.set_cons_succ]
                      refine hK _ ?_; clear hK K
                      refine wpMix_skip (by kernel_rfl) (fun K hK => ?_)
                      simp only [Act.put, List.setIfInBounds_toArray, List.set_cons_zero, List.set_cons_succ]
                      refine hK _ ?_; clear hK K
                      refine wpMix_skip (by kernel_rfl) (fun K hK => ?_)
                      simp only [Act.put, List.setIfInBounds_toArray, List.set_cons_zero, List.set_cons_succ]
                      refine hK _ ?_; clear hK K
                      refine wpMix_skip (by kernel_rfl) (fun K hK => ?_)
                      simp only [Act.put, List.setIfInBounds_toArray, List.set_cons_zero, List.set_cons_succ]
                      refine hK _ ?_; clear hK K
                      refine wpMix_skip (by kernel_rfl) (fun K hK => ?_)
                      simp only [Act.put, List.setIfInBounds_toArray, List.set_cons_zero, List.set_cons_succ]
                      refine hK _ ?_; clear hK K
                      refine wpMix_skip (by kernel_rfl) (fun K hK => ?_)
                      simp only [Act.put, List.setIfInBounds_toArray, List.set_cons_zero, List.set_cons_succ]
                      refine hK _ ?_; clear hK K
                      refine wpMix_skip (by kernel_rfl) (fun K hK => ?_)
                      simp only [Act.put, List.setIfInBounds_toArray, List.set_cons_zero, List.set_cons_succ]
                      refine hK _ ?_; clear hK K
                      refine wpMix_skip (by kernel_rfl) (fun K hK => ?_)
                      simp only [Act.put, List.setIfInBounds_toArray, List.set_cons_zero, List.set_cons_succ]
                      refine hK _ ?_; clear hK K
                      refine wpMix_skip (by kernel_rfl) (fun K hK => ?_)
                      simp only [Act.put, List.setIfInBounds_toArray, List.set_cons_zero, List.set_cons_succ]
                      refine hK _ ?_; clear hK K
                      refine wpMix_skip (by kernel_rfl) (fun K hK => ?_)
                      simp only [Act.put, List.setIfInBounds_toArray, List.set_cons_zero, List.set_cons_succ]
                      refine hK _ ?_; clear hK K
                      refine wpMix_skip (by kernel_rfl) (fun K hK => ?_)
                      simp only [Act.put, List.setIfInBounds_toArray, List.set_cons_zero, List.set_cons_succ]
                      refine hK _ ?_; clear hK K
                      refine wpMix_skip (by kernel_rfl) (fun K hK => ?_)
                      simp only [Act.put, List.setIfInBounds_toArray, List.set_cons_zero, List.set_cons_succ]
                      refine hK _ ?_; clear hK K
                      refine wpMix_pure (by kernel_rfl) (fun K hK => ?_); go_big_quiet_op; refine hK _ ?_; clear hK K
                      refine wpMix_pure (by kernel_rfl) (fun K hK => ?_); go_big_quiet_op; refine hK _ ?_; clear hK K
                      refine wpMix_skip (by kernel_rfl) (fun K hK => ?_)
                      simp only [Act.put, List.setIfInBounds_toArray, List.set_cons_zero, List.set_cons_succ]
                      refine hK _ ?_; clear hK K
                      refine wpMix_skip (by kernel_rfl) (fun K hK => ?_)
                      simp only [Act.put, List.setIfInBounds_toArray, List.set_cons_zero, List.set_cons_succ]
                      refine hK _ ?_; clear hK K
                      refine wpMix_skip (by kernel_rfl) (fun K hK => ?_)
                      simp only [Act.put, List.setIfInBounds_toArray, List.set_cons_zero, List.set_cons_succ]
                      refine hK _ ?_; clear hK K
                      refine wpMix_skip (by kernel_rfl) (fun K hK => ?_)
                      simp only [Act.put, List.setIfInBounds_toArray, List.set_cons_zero, List.set_cons_succ]
                      refine hK _ ?_; clear hK K
                      refine wpMix_skip (by kernel_rfl) (fun K hK => ?_)
                      simp only [Act.put, List.setIfInBounds_toArray, List.set_cons_zero, List.set_cons_succ]
                      refine hK _ ?_; clear hK K
                      refine wpMix_skip (by kernel_rfl) (fun K hK => ?_)
                      simp only [Act.put, List.setIfInBounds_toArray, List.set_cons_zero, List.set_cons_succ]
                      refine hK _ ?_; clear hK K
                      refine wpMix_skip (by kernel_rfl) (fun K hK => ?_)
                      simp only [Act.put, List.setIfInBounds_toArray, List.set_cons_zero, List.set_cons_succ]
                      refine hK _ ?_; clear hK K
                      refine wpMix_skip (by kernel_rfl) (fun K hK => ?_)
                      simp only [Act.put, List.setIfInBounds_toArray, List.set_cons_zero, List.set_cons_succ]
                      refine hK _ ?_; clear hK K
                      refine wpMix_skip (by kernel_rfl) (fun K hK => ?_)
                      simp only [Act.put, List.setIfInBounds_toArray, List.set_cons_zero, List.set_cons_succ]
                      refine hK _ ?_; clear hK K
                      refine wpMix_pure (by kernel_rfl) (fun K hK => ?_); go_big_quiet_op; refine hK _ ?_; clear hK K
                      refine wpMix_nil ?_
                      have HN : Hid (nrOk xs xs[0] (p + 1) = false) := by show _ = _; rw [nrOk_succ hqt, HI.out, Bool.and_false]
                      have HZ : Hid (rgOk xs (0) = false) := by show _ = _; rw [rgOk_at hlt, allIdx_bad hqt HN.out, Bool.and_false]
                      go_wp2
                      go_ret
                      exact ⟨ret_bool (by rw [regionsB_bad hlt HZ.out]), hbr.trans ((hW.mono hbr.size).trans (hS0.mono (Nat.le_trans hbr.size hW.size)))⟩
                    · have HI := Lib.hid (isNearB_at (t := xs[0].id) hkf hef h0f)
                      have HS := HSr
                      clear hef h0f HSr
                      obtain ⟨bf, of, vf, ff, hAf, g0, g1, h2f, hsf, _⟩ := (hxr.below' hbf).reg hkf
                      injection hAf with hAf
                      injection hAf with hAf hAg _
                      subst hAf hAg
                      go_wp2
                      refine at_world (fun W => Below wr.heap.size wr W ∧ W.cell? ⟨b, off, none⟩ = some (.string xs[0].id) ∧ W.cell? ⟨b, off + 2, none⟩ = some (.slice (some ⟨b2, off2, none⟩) xs[0].near.length cap1) ∧ W.cell? ⟨b2, off2 + (p + 1), none⟩ = some (.string xs[0].near[p + 1]) ∧ W.cell? ⟨b, off + kf * 3 + 2, none⟩ = some vf ∧ Sl fStr.cod W vf xs[kf].near ff ∧ W.cell? ⟨b2, off2 + p, none⟩ = some (.string xs[0].near[p])) ⟨hbf, (hbf.cell (block_lt_of_cell d0)).trans d0, (hbf.cell (block_lt_of_cell d2)).trans d2, (hbf.cell (block_lt_of_cell hcq)).trans hcq, h2f, hsf, (hbf.cell (block_lt_of_cell hcp)).trans hcp⟩ ?_
                      clear g0 g1 h2f hsf
                      rintro W ⟨hW, w0, w2, wq, h2f, hsf, wp⟩
                      have e1 : decide ((kf : Int) < 0) = false := by simp
                      have gw0 := cell_regrown w0
                      have gw2 := cell_regrown w2
                      have gwq := cell_regrown wq
                      have gwp := cell_regrown wp
                      refine wp_region_mix (C := fun w' => ∃ p : Regrown, w' = Go.Sort.grow (redrawn W p.d) p.os) [true, true, true, true, true, true, true, true, true, true, true, true, true, true, true, true, true, true, true, true, true, true, true, true, true, true, true, true, true, true, true, true, true, true, true, true, true, false, true, true] (by kernel_rfl) (by kernel_rfl) (by kernel_rfl) (fun _ _ d _ _ h => by cases d <;> exact h) (regrown_of_below (Below.drew (Below.refl _ _))) ?_
                      have hS0 : Below (W.heap.size) W W.drew := Below.drew (Below.refl _ _)
                      refine wpMix_pure (by kernel_rfl) (fun K hK => ?_); go_big_quiet_op; refine hK _ ?_; clear hK K
                      refine wpMix_pure (by kernel_rfl) (fun K hK => ?_); go_big_quiet_op; refine hK _ ?_; clear hK K
                      refine wpMix_pure (by kernel_rfl) (fun K hK => ?_); go_big_quiet_op; refine hK _ ?_; clear hK K
                      refine wpMix_pure (by kernel_rfl) (fun K hK => ?_); go_big_quiet_op; refine hK _ ?_; clear hK K
                      refine wpMix_pure (by kernel_rfl) (fun K hK => ?_); go_big_quiet_op; refine hK _ ?_; clear hK K
                      by_cases hq5 : (kf : Int) = 0
                      · skip
                        have e5 : ((kf : Int) == 0) = true := by rw [beq_iff_eq]; exact hq5
                        refine wpMix_pure (by kernel_rfl) (fun K hK => ?_); go_big_quiet_op; refine hK _ ?_; clear hK K
                        refine wpMix_pure (by kernel_rfl) (fun K hK => ?_); go_big_quiet_op; refine hK _ ?_; clear hK K
                        refine wpMix_pure (by kernel_rfl) (fun K hK => ?_); go_big_quiet_op; refine hK _ ?_; clear hK K
                        refine wpMix_skip (by kernel_rfl) (fun K hK => ?_)
                        simp only [Act.put, List.setIfInBounds_toArray, List.set_cons_zero, List.set_cons_succ]
                        refine hK _ ?_; clear hK K
                        refine wpMix_skip (by kernel_rfl) (fun K hK => ?_)
                        simp only [Act.put, List.setIfInBounds_toArray, List.set_cons_zero, List.set_cons_succ]
                        refine hK _ ?_; clear hK K
                        refine wpMix_skip (by kernel_rfl) (fun K hK => ?_)
                        simp only [Act.put, List.setIfInBounds_toArray, List.set_cons_zero, List.set_cons_succ]
                        refine hK _ ?_; clear hK K
                        refine wpMix_skip (by kernel_rfl) (fun K hK => ?_)
                        simp only [Act.put, List.setIfInBounds_toArray, List.set_cons_zero, List.set_cons_succ]
                        refine hK _ ?_; clear hK K
                        refine wpMix_skip (by kernel_rfl) (fun K hK => ?_)
                        simp only [Act.put, List.setIfInBounds_toArray, List.set_cons_zero, List.set_cons_succ]
                        refine hK _ ?_; clear hK K
                        refine wpMix_skip (by kernel_rfl) (fun K hK => ?_)
                        simp only [Act.put, List.setIfInBounds_toArray, List.set_cons_zero, List.set_cons_succ]
                        refine hK _ ?_; clear hK K
                        refine wpMix_skip (by kernel_rfl) (fun K hK => ?_)
                        simp only [Act.put, List.setIfInBounds_toArray, List.set_cons_zero, List.set_cons_succ]
                        refine hK _ ?_; clear hK K
                        refine wpMix_skip (by kernel_rfl) (fun K hK => ?_)
                        simp only [Act.put, List.setIfInBounds_toArray, List.set_cons_zero, List.set_cons_succ]
                        refine hK _ ?_; clear hK K
                        refine wpMix_skip (by kernel_rfl) (fun K hK => ?_)
                        simp only [Act.put, List.setIfInBounds_toArray, List.set_cons_zero, List.set_cons_succ]
                        refine hK _ ?_; clear hK K
                        refine wpMix_skip (by kernel_rfl) (fun K hK => ?_)
                        simp only [Act.put, List.setIfInBounds_toArray, List.set_cons_zero, List.set_cons_succ]
                        refine hK _ ?_; clear hK K
                        refine wpMix_skip (by kernel_rfl) (fun K hK => ?_)
                        simp only [Act.put, List.setIfInBounds_toArray, List.set_cons_zero, List.set_cons_succ]
                        refine hK _ ?_; clear hK K
                        refine wpMix_skip (by kernel_rfl) (fun K hK => ?_)
                        simp only [Act.put, List.setIfInBounds_toArray, List.set_cons_zero, List.set_cons_succ]
                        refine hK _ ?_; clear hK K
                        refine wpMix_skip (by kernel_rfl) (fun K hK => ?_)
                        simp only [Act.put, List.setIfInBounds_toArray, List.set_cons_zero, List.set_cons_succ]
                        refine hK _ ?_; clear hK K
                        refine wpMix_skip (by kernel_rfl) (fun K hK => ?_)
                        simp only [Act.put, List.setIfInBounds_toArray, List.set_cons_zero, List.set_cons_succ]
                        refine hK _ ?_; clear hK K
                        refine wpMix_skip (by kernel_rfl) (fun K hK => ?_)
                        simp only [Act.put, List.setIfInBounds_toArray, List.set_cons_zero, List.set_cons_succ]
                        refine hK _ ?_; clear hK K
                        refine wpMix_skip (by kernel_rfl) (fun K hK => ?_)
                        simp only [Act.put, List.setIfInBounds_toArray, List.set_cons_zero, List.set_cons_succ]
                        refine hK _ ?_; clear hK K
                        refine wpMix_skip (by kernel_rfl) (fun K hK => ?_)
                        simp only [Act.put, List.setIfInBounds_toArray, List.set_cons_zero, List.set_cons_succ]
                        refine hK _ ?_; clear hK K
                        refine wpMix_skip (by kernel_rfl) (fun K hK => ?_)
                        simp only [Act.put, List.setIfInBounds_toArray, List.set_cons_zero, List.set_cons_succ]
                        refine hK _ ?_; clear hK K
                        refine wpMix_skip (by kernel_rfl) (fun K hK => ?_)
                        simp only [Act.put, List.setIfInBounds_toArray, List.set_cons_zero, List.set_cons_succ]
                        refine hK _ ?_; clear hK K
                        refine wpMix_skip (by kernel_rfl) (fun K hK => ?_)
                        simp only [Act.put, List.setIfInBounds_toArray, List.set_cons_zero, List.set_cons_succ]
                        refine hK _ ?_; clear hK K
                        refine wpMix_pure (by kernel_rfl) (fun K hK => ?_); go_big_quiet_op; refine hK _ ?_; clear hK K
                        refine wpMix_pure (by kernel_rfl) (fun K hK => ?_); go_big_quiet_op; refine hK _ ?_; clear hK K
                        refine wpMix_skip (by kernel_rfl) (fun K hK => ?_)
                        simp only [Act.put, List.setIfInBounds_toArray, List.set_cons_zero, List.set_cons_succ]
                        refine hK _ ?_; clear hK K
                        refine wpMix_skip (by kernel_rfl) (fun K hK => ?_)
                        simp only [Act.put, List.setIfInBounds_toArray, List.set_cons_zero, List.set_cons_succ]
                        refine hK _ ?_; clear hK K
                        refine wpMix_skip (by kernel_rfl) (fun K hK => ?_)
                        simp only [Act.put, List.setIfInBounds_toArray, List.set_cons_zero, List.set_cons_succ]
                        refine hK _ ?_; clear hK K
                        refine wpMix_skip (by kernel_rfl) (fun K hK => ?_)
                        simp only [Act.put, List.setIfInBounds_toArray, List.set_cons_zero, List.set_cons_succ]
                        refine hK _ ?_; clear hK K
                        refine wpMix_skip (by kernel_rfl) (fun K hK => ?_)
                        simp only [Act.put, List.setIfInBounds_toArray, List.set_cons_zero, List.set_cons_succ]
                        refine hK _ ?_; clear hK K
                        refine wpMix_skip (by kernel_rfl) (fun K hK => ?_)
                        simp only [Act.put, List.setIfInBounds_toArray, List.set_cons_zero, List.set_cons_succ]
                        refine hK _ ?_; clear hK K
                        refine wpMix_skip (by kernel_rfl) (fun K hK => ?_)
                        simp only [Act.put, List.setIfInBounds_toArray, List.set_cons_zero, List.set_cons_succ]
                        refine hK _ ?_; clear hK K
                        refine wpMix_skip (by kernel_rfl) (fun K hK => ?_)
                        simp only [Act.put, List.setIfInBounds_toArray, List.set_cons_zero, List.set_cons_succ]
                        refine hK _ ?_; clear hK K
                        refine wpMix_skip (by kernel_rfl) (fun K hK => ?_)
                        simp only [Act.put, List.setIfInBounds_toArray, List.set_cons_zero, List.set_cons_succ]
                        refine hK _ ?_; clear hK K
                        refine wpMix_pure (by kernel_rfl) (fun K hK => ?_); go_big_quiet_op; refine hK _ ?_; clear hK K
                        refine wpMix_nil ?_
                        have HN : Hid (nrOk xs xs[0] (p + 1) = false) := by show _ = _; rw [nrOk_succ hqt, decide_eq_true (HS.1 (by omega))]; simp
                        have HZ : Hid (rgOk xs (0) = false) := by show _ = _; rw [rgOk_at hlt, allIdx_bad hqt HN.out, Bool.and_false]
                        go_wp2
                        go_ret
                        exact ⟨ret_bool (by rw [regionsB_bad hlt HZ.out]), hbr.trans ((hW.mono hbr.size).trans (hS0.mono (Nat.le_trans hbr.size hW.size)))⟩
                      · skip
                        have e5 : ((kf : Int) == 0) = false := by rw [beq_eq_false_iff_ne]; exact hq5
                        refine wpMix_pure (by kernel_rfl) (fun K hK => ?_); go_big_quiet_op; refine hK _ ?_; clear hK K
                        refine wpMix_pure (by kernel_rfl) (fun K hK => ?_); go_big_quiet_op; refine hK _ ?_; clear hK K
                        refine wpMix_pure (by kernel_rfl) (fun K hK => ?_); go_big_quiet_op; refine hK _ ?_; clear hK K
                        refine wpMix_pure (by kernel_rfl) (fun K hK => ?_); go_big_quiet_op; refine hK _ ?_; clear hK K
                        refine wpMix_pure (by kernel_rfl) (fun K hK => ?_); go_big_quiet_op; refine hK _ ?_; clear hK K
                        refine wpMix_pure (by kernel_rfl) (fun K hK => ?_); go_big_quiet_op; refine hK _ ?_; clear hK K
                        refine wpMix_pure (by kernel_rfl) (fun K hK => ?_); go_big_quiet_op; refine hK _ ?_; clear hK K
                        refine wpMix_pure (by kernel_rfl) (fun K hK => ?_); go_big_quiet_op; refine hK _ ?_; clear hK K
                        refine wpMix_pure (by kernel_rfl) (fun K hK => ?_); go_big_quiet_op; refine hK _ ?_; clear hK K
                        refine wpMix_pure (by kernel_rfl) (fun K hK => ?_); go_big_quiet_op; refine hK _ ?_; clear hK K
                        refine wpMix_pure (by kernel_rfl) (fun K hK => ?_); go_big_quiet_op; refine hK _ ?_; clear hK K
                        refine wpMix_pure (by kernel_rfl) (fun K hK => ?_); go_big_quiet_op; refine hK _ ?_; clear hK K
                        refine wpMix_pure (by kernel_rfl) (fun K hK => ?_); go_big_quiet_op; refine hK _ ?_; clear hK K
                        refine wpMix_pure (by kernel_rfl) (fun K hK => ?_); go_big_quiet_op; refine hK _ ?_; clear hK K
                        refine wpMix_pure (by kernel_rfl) (fun K hK => ?_); go_big_quiet_op; refine hK _ ?_; clear hK K
                        refine wpMix_pure (by kernel_rfl) (fun K hK => ?_); go_big_quiet_op; refine hK _ ?_; clear hK K
                        refine wpMix_pure (by kernel_rfl) (fun K hK => ?_); go_big_quiet_op; refine hK _ ?_; clear hK K
                        refine wpMix_pure (by kernel_rfl) (fun K hK => ?_); go_big_quiet_op; refine hK _ ?_; clear hK K
                        refine wpMix_pure (by kernel_rfl) (fun K hK => ?_); go_big_quiet_op; refine hK _ ?_; clear hK K
                        refine wpMix_pure (by kernel_rfl) (fun K hK => ?_); go_big_quiet_op; refine hK _ ?_; clear hK K
                        refine wpMix_pure (by kernel_rfl) (fun K hK => ?_); go_big_quiet_op; refine hK _ ?_; clear hK K
                        by_cases hq26 : ltS xs[0].near[p] xs[0].near[p + 1] = true
                        · skip
                          have e26 : Op.bytesLess xs[0].near[p].toList xs[0].near[p + 1].toList = true := hq26
                          refine wpMix_pure (by kernel_rfl) (fun K hK => ?_); go_big_quiet_op; refine hK _ ?_; clear hK K
                          refine wpMix_pure (by kernel_rfl) (fun K hK => ?_); go_big_quiet_op; refine hK _ ?_; clear hK K
                          refine wpMix_pure (by kernel_rfl) (fun K hK => ?_); go_big_quiet_op; refine hK _ ?_; clear hK K
                          refine wpMix_pure (by kernel_rfl) (fun K hK => ?_); go_big_quiet_op; refine hK _ ?_; clear hK K
                          refine wpMix_pure (by kernel_rfl) (fun K hK => ?_); go_big_quiet_op; refine hK _ ?_; clear hK K
                          refine wpMix_pure (by kernel_rfl) (fun K hK => ?_); go_big_quiet_op; refine hK _ ?_; clear hK K
                          refine wpMix_pure (by kernel_rfl) (fun K hK => ?_); go_big_quiet_op; refine hK _ ?_; clear hK K
                          refine wpMix_pure (by kernel_rfl) (fun K hK => ?_); go_big_quiet_op; refine hK _ ?_; clear hK K
                          refine wpMix_pure (by kernel_rfl) (fun K hK => ?_); go_big_quiet_op; refine hK _ ?_; clear hK K
                          refine wpMix_pure (by kernel_rfl) (fun K hK => ?_); go_big_quiet_op; refine hK _ ?_; clear hK K
                          refine wpMix_pure (by kernel_rfl) (fun K hK => ?_); go_big_quiet_op; refine hK _ ?_; clear hK K
                          refine wpMix_act (by kernel_rfl) (fun K hK => ?_)
                          go_big_op
                          refine (l18Near_any b (off + kf * 3) _ _ _ xs[0].id _ ((hS0.cell (block_lt_of_cell h2f)).trans h2f) (hsf.below' hS0)).mono ?_
                          rintro e w' ⟨rfl, rfl⟩
                          refine hK _ _ (regrown_of_below hS0) ?_
                          clear hK K
                          cases hq37 : memS xs[0].id xs[kf].near
                          · skip
                            refine wpMix_pure (by kernel_rfl) (fun K hK => ?_); go_big_quiet_op; refine hK _ ?_; clear hK K
                            refine wpMix_pure (by kernel_rfl) (fun K hK => ?_); go_big_quiet_op; refine hK _ ?_; clear hK K
                            refine wpMix_nil ?_
                            have HN : Hid (nrOk xs xs[0] (p + 1) = false) := by show _ = _; rw [nrOk_succ hqt, HI.out, hq37, Bool.and_false]
                            have HZ : Hid (rgOk xs (0) = false) := by show _ = _; rw [rgOk_at hlt, allIdx_bad hqt HN.out, Bool.and_false]
                            go_wp2
                            go_ret
                            exact ⟨ret_bool (by rw [regionsB_bad hlt HZ.out]), hbr.trans ((hW.mono hbr.size).trans (hS0.mono (Nat.le_trans hbr.size hW.size)))⟩
                          · skip
                            refine wpMix_pure (by kernel_rfl) (fun K hK => ?_); go_big_quiet_op; refine hK _ ?_; clear hK K
                            refine wpMix_pure (by kernel_rfl) (fun K hK => ?_); go_big_quiet_op; refine hK _ ?_; clear hK K
                            refine wpMix_nil ?_
                            have HN : Hid (nrOk xs xs[0] (p + 1) = true) := by show _ = _; rw [nrOk_succ hqt, HI.out, hq37, hq26, decide_eq_false (fun e => hq5 (by have := HS.2 e; omega))]; rfl
                            go_wp2
                            go_roundw
                            case rel => exact ⟨p + 1 + 1, by omega, by go_num, allIdx_step G0.out HN.out, hbi.trans ((hW.mono hbi.size).trans (hS0.mono (Nat.le_trans hbi.size hW.size)))⟩
                            case measure => simp [intOf]; omega
                        · skip
                          have e26 : Op.bytesLess xs[0].near[p].toList xs[0].near[p + 1].toList = false := by simpa [ltS] using hq26
                          refine wpMix_pure (by kernel_rfl) (fun K hK => ?_); go_big_quiet_op; refine hK _ ?_; clear hK K
                          refine wpMix_pure (by kernel_rfl) (fun K hK => ?_); go_big_quiet_op; refine hK _ ?_; clear hK K
                          refine wpMix_pure (by kernel_rfl) (fun K hK => ?_); go_big_quiet_op; refine hK _ ?_; clear hK K
                          refine wpMix_pure (by kernel_rfl) (fun K hK => ?_); go_big_quiet_op; refine hK _ ?_; clear hK K
                          refine wpMix_skip (by kernel_rfl) (fun K hK => ?_)
                          simp only [Act.put, List.setIfInBounds_toArray, List.set_cons_zero, List.set_cons_succ]
                          refine hK _ ?_; clear hK K
                          refine wpMix_skip (by kernel_rfl) (fun K hK => ?_)
                          simp only [Act.put, List.setIfInBounds_toArray, List.set_cons_zero, List.set_cons_succ]
                          refine hK _ ?_; clear hK K
                          refine wpMix_skip (by kernel_rfl) (fun K hK => ?_)
                          simp only [Act.put, List.setIfInBounds_toArray, List.set_cons_zero, List.set_cons_succ]
                          refine hK _ ?_; clear hK K
                          refine wpMix_skip (by kernel_rfl) (fun K hK => ?_)
                          simp only [Act.put, List.setIfInBounds_toArray, List.set_cons_zero, List.set_cons_succ]
                          refine hK _ ?_; clear hK K
                          refine wpMix_skip (by kernel_rfl) (fun K hK => ?_)
                          simp only [Act.put, List.setIfInBounds_toArray, List.set_cons_zero, List.set_cons_succ]
                          refine hK _ ?_; clear hK K
                          refine wpMix_skip (by kernel_rfl) (fun K hK => ?_)
                          simp only [Act.put, List.setIfInBounds_toArray, List.set_cons_zero, List.set_cons_succ]
                          refine hK _ ?_; clear hK K
                          refine wpMix_skip (by kernel_rfl) (fun K hK => ?_)
                          simp only [Act.put, List.setIfInBounds_toArray, List.set_cons_zero, List.set_cons_succ]
                          refine hK _ ?_; clear hK K
                          refine wpMix_skip (by kernel_rfl) (fun K hK => ?_)
                          simp only [Act.put, List.setIfInBounds_toArray, List.set_cons_zero, List.set_cons_succ]
                          refine hK _ ?_; clear hK K
                          refine wpMix_skip (by kernel_rfl) (fun K hK => ?_)
                          simp only [Act.put, List.setIfInBounds_toArray, List.set_cons_zero, List.set_cons_succ]
                          refine hK _ ?_; clear hK K
                          refine wpMix_pure (by kernel_rfl) (fun K hK => ?_); go_big_quiet_op; refine hK _ ?_; clear hK K
                          refine wpMix_nil ?_
                          have HN : Hid (nrOk xs xs[0] (p + 1) = false) := by show _ = _; rw [nrOk_succ hqt, Bool.eq_false_iff.2 hq26]; rfl
                          have HZ : Hid (rgOk xs (0) = false) := by show _ = _; rw [rgOk_at hlt, allIdx_bad hqt HN.out, Bool.and_false]
                          go_wp2
                          go_ret
                          exact ⟨ret_bool (by rw [regionsB_bad hlt HZ.out]), hbr.trans ((hW.mono hbr.size).trans (hS0.mono (Nat.le_trans hbr.size hW.size)))⟩
                · have HN := Lib.hid (allIdx_full (by omega) hq G0.out)
                  have HZ : Hid (rgOk xs (0) = true) := by show _ = _; rw [rgOk_at hlt, HH.out, HN.out]; rfl
                  go_wp2
                  go_roundw
                  case rel => exact ⟨0 + 1, by omega, by go_num, allIdx_step H0.out HZ.out, hbr⟩
                  case measure => simp [intOf]; omega
        · obtain ⟨m, rfl⟩ : ∃ m, k = m + 1 := ⟨k - 1, by omega⟩
          have hm : m < xs.length := by omega
          obtain ⟨b, off, vk, fk, rfl, c0, c1, c2, hs0, _, _, hok, _⟩ := (hx.below' hb).reg hlt
          skip
          obtain ⟨A1, cap1, rfl, hlen1, hcap1⟩ := hs0.form
          have k1 : xs[m + 1].id.size ≤ 9223372036854775807 := hok
          obtain ⟨b1, off1, vm, fm, hA1, d0, _⟩ := (hx.below' hb).reg hm
          injection hA1 with hA1
          injection hA1 with hA1 hA2 _
          subst hA1 hA2
          go_wp2
          have gc0 := cell_regrown c0
          have gc1 := cell_regrown c1
          have gd0 := cell_regrown d0
          refine wp_region_mix (C := fun w' => ∃ p : Regrown, w' = Go.Sort.grow (redrawn wo p.d) p.os) [true, true, true, true, false, true, true, true, true, true, true, false, true, true, true, true, true, true, true, true, true, true, true, true, true, true, true, true, true, true, true] (by kernel_rfl) (by kernel_rfl) (by kernel_rfl) (fun _ _ d _ _ h => by cases d <;> exact h) (regrown_of_below (Below.drew (Below.refl _ _))) ?_
          have hS0 : Below (wo.heap.size) wo wo.drew := Below.drew (Below.refl _ _)
          refine wpMix_pure (by kernel_rfl) (fun K hK => ?_); go_big_quiet_op; refine hK _ ?_; clear hK K
          refine wpMix_pure (by kernel_rfl) (fun K hK => ?_); go_big_quiet_op; refine hK _ ?_; clear hK K
          refine wpMix_pure (by kernel_rfl) (fun K hK => ?_); go_big_quiet_op; refine hK _ ?_; clear hK K
          refine wpMix_pure (by kernel_rfl) (fun K hK => ?_); go_big_quiet_op; refine hK _ ?_; clear hK K
          refine wpMix_act (by kernel_rfl) (fun K hK => ?_)
          go_big_op
          refine (l01Name_any _ _ k1).mono ?_
          rintro e w' ⟨rfl, rfl⟩
          refine hK _ _ (regrown_of_below hS0) ?_
          clear hK K
          cases hq4 : nameB xs[m + 1].id
          · skip
            refine wpMix_pure (by kernel_rfl) (fun K hK => ?_); go_big_quiet_op; refine hK _ ?_; clear hK K
            refine wpMix_pure (by kernel_rfl) (fun K hK => ?_); go_big_quiet_op; refine hK _ ?_; clear hK K
            refine wpMix_skip (by kernel_rfl) (fun K hK => ?_)
            simp only [Act.put, List.setIfInBounds_toArray, List.set_cons_zero, List.set_cons_succ]
            refine hK _ ?_; clear hK K
            refine wpMix_skip (by kernel_rfl) (fun K hK => ?_)
            simp only [Act.put, List.setIfInBounds_toArray, List.set_cons_zero, List.set_cons_succ]
            refine hK _ ?_; clear hK K
            refine wpMix_skip (by kernel_rfl) (fun K hK => ?_)
            simp only [Act.put, List.setIfInBounds_toArray, List.set_cons_zero, List.set_cons_succ]
            refine hK _ ?_; clear hK K
            refine wpMix_skip (by kernel_rfl) (fun K hK => ?_)
            simp only [Act.put, List.setIfInBounds_toArray, List.set_cons_zero, List.set_cons_succ]
            refine hK _ ?_; clear hK K
            refine wpMix_skip (by kernel_rfl) (fun K hK => ?_)
            simp only [Act.put, List.setIfInBounds_toArray, List.set_cons_zero, List.set_cons_succ]
            refine hK _ ?_; clear hK K
            refine wpMix_skip (by kernel_rfl) (fun K hK => ?_)
            simp only [Act.put, List.setIfInBounds_toArray, List.set_cons_zero, List.set_cons_succ]
            refine hK _ ?_; clear hK K
            refine wpMix_pure (by kernel_rfl) (fun K hK => ?_); go_big_quiet_op; refine hK _ ?_; clear hK K
            refine wpMix_pure (by kernel_rfl) (fun K hK => ?_); go_big_quiet_op; refine hK _ ?_; clear hK K
            refine wpMix_skip (by kernel_rfl) (fun K hK => ?_)
            simp only [Act.put, List.setIfInBounds_toArray, List.set_cons_zero, List.set_cons_succ]
            refine hK _ ?_; clear hK K
            refine wpMix_skip (by kernel_rfl) (fun K hK => ?_)
            simp only [Act.put, List.setIfInBounds_toArray, List.set_cons_zero, List.set_cons_succ]
            refine hK _ ?_; clear hK K
            refine wpMix_skip (by kernel_rfl) (fun K hK => ?_)
            simp only [Act.put, List.setIfInBounds_toArray, List.set_cons_zero, List.set_cons_succ]
            refine hK _ ?_; clear hK K
            refine wpMix_skip (by kernel_rfl) (fun K hK => ?_)
            simp only [Act.put, List.setIfInBounds_toArray, List.set_cons_zero, List.set_cons_succ]
            refine hK _ ?_; clear hK K
            refine wpMix_skip (by kernel_rfl) (fun K hK => ?_)
            simp only [Act.put, List.setIfInBounds_toArray, List.set_cons_zero, List.set_cons_succ]
            refine hK _ ?_; clear hK K
            refine wpMix_skip (by kernel_rfl) (fun K hK => ?_)
            simp only [Act.put, List.setIfInBounds_toArray, List.set_cons_zero, List.set_cons_succ]
            refine hK _ ?_; clear hK K
            refine wpMix_skip (by kernel_rfl) (fun K hK => ?_)
            simp only [Act.put, List.setIfInBounds_toArray, List.set_cons_zero, List.set_cons_succ]
            refine hK _ ?_; clear hK K
            refine wpMix_skip (by kernel_rfl) (fun K hK => ?_)
            simp only [Act.put, List.setIfInBounds_toArray, List.set_cons_zero, List.set_cons_succ]
            refine hK _ ?_; clear hK K
            refine wpMix_skip (by kernel_rfl) (fun K hK => ?_)
            simp only [Act.put, List.setIfInBounds_toArray, List.set_cons_zero, List.set_cons_succ]
            refine hK _ ?_; clear hK K
            refine wpMix_skip (by kernel_rfl) (fun K hK => ?_)
            simp only [Act.put, List.setIfInBounds_toArray, List.set_cons_zero, List.set_cons_succ]
            refine hK _ ?_; clear hK K
            refine wpMix_skip (by kernel_rfl) (fun K hK => ?_)
            simp only [Act.put, List.setIfInBounds_toArray, List.set_cons_zero, List.set_cons_succ]
            refine hK _ ?_; clear hK K
            refine wpMix_skip (by kernel_rfl) (fun K hK => ?_)
            simp only [Act.put, List.setIfInBounds_toArray, List.set_cons_zero, List.set_cons_succ]
            refine hK _ ?_; clear hK K
            refine wpMix_skip (by kernel_rfl) (fun K hK => ?_)
            simp only [Act.put, List.setIfInBounds_toArray, List.set_cons_zero, List.set_cons_succ]
            refine hK _ ?_; clear hK K
            refine wpMix_skip (by kernel_rfl) (fun K hK => ?_)
            simp only [Act.put, List.setIfInBounds_toArray, List.set_cons_zero, List.set_cons_succ]
            refine hK _ ?_; clear hK K
            refine wpMix_skip (by kernel_rfl) (fun K hK => ?_)
            simp only [Act.put, List.setIfInBounds_toArray, List.set_cons_zero, List.set_cons_succ]
            refine hK _ ?_; clear hK K
            refine wpMix_pure (by kernel_rfl) (fun K hK => ?_); go_big_quiet_op; refine hK _ ?_; clear hK K
            refine wpMix_nil ?_
            have HZ : Hid (rgOk xs (m + 1) = false) := by show _ = _; rw [rgOk_at hlt, rgHead_succ hlt]; simp [*]
            go_wp2
            go_ret
            exact ⟨ret_bool (by rw [regionsB_bad hlt HZ.out]), hb.trans (hS0.mono hb.size)⟩
          · skip
            refine wpMix_pure (by kernel_rfl) (fun K hK => ?_); go_big_quiet_op; refine hK _ ?_; clear hK K
            refine wpMix_pure (by kernel_rfl) (fun K hK => ?_); go_big_quiet_op; refine hK _ ?_; clear hK K
            refine wpMix_pure (by kernel_rfl) (fun K hK => ?_); go_big_quiet_op; refine hK _ ?_; clear hK K
            refine wpMix_pure (by kernel_rfl) (fun K hK => ?_); go_big_quiet_op; refine hK _ ?_; clear hK K
            refine wpMix_pure (by kernel_rfl) (fun K hK => ?_); go_big_quiet_op; refine hK _ ?_; clear hK K
            refine wpMix_pure (by kernel_rfl) (fun K hK => ?_); go_big_quiet_op; refine hK _ ?_; clear hK K
            refine wpMix_act (by kernel_rfl) (fun K hK => ?_)
            go_big_op
            refine (l17IsV_any _ _).mono ?_
            rintro e w' ⟨rfl, rfl⟩
            refine hK _ _ (regrown_of_below hS0) ?_
            clear hK K
            cases hq11 : inB xs[m + 1].level 1 5
            · skip
              refine wpMix_pure (by kernel_rfl) (fun K hK => ?_); go_big_quiet_op; refine hK _ ?_; clear hK K
              refine wpMix_pure (by kernel_rfl) (fun K hK => ?_); go_big_quiet_op; refine hK _ ?_; clear hK K
              refine wpMix_pure (by kernel_rfl) (fun K hK => ?_); go_big_quiet_op; refine hK _ ?_; clear hK K
              refine wpMix_skip (by kernel_rfl) (fun K hK => ?_)
              simp only [Act.put, List.setIfInBounds_toArray, List.set_cons_zero, List.set_cons_succ]
              refine hK _ ?_; clear hK K
              refine wpMix_skip (by kernel_rfl) (fun K hK => ?_)
              simp only [Act.put, List.setIfInBounds_toArray, List.set_cons_zero, List.set_cons_succ]
              refine hK _ ?_; clear hK K
              refine wpMix_skip (by kernel_rfl) (fun K hK => ?_)
              simp only [Act.put, List.setIfInBounds_toArray, List.set_cons_zero, List.set_cons_succ]
              refine hK _ ?_; clear hK K
              refine wpMix_skip (by kernel_rfl) (fun K hK => ?_)
              simp only [Act.put, List.setIfInBounds_toArray, List.set_cons_zero, List.set_cons_succ]
              refine hK _ ?_; clear hK K
              refine wpMix_skip (by kernel_rfl) (fun K hK => ?_)
              simp only [Act.put, List.setIfInBounds_toArray, List.set_cons_zero, List.set_cons_succ]
              refine hK _ ?_; clear hK K
              refine wpMix_skip (by kernel_rfl) (fun K hK => ?_)
              simp only [Act.put, List.setIfInBounds_toArray, List.set_cons_zero, List.set_cons_succ]
              refine hK _ ?_; clear hK K
              refine wpMix_skip (by kernel_rfl) (fun K hK => ?_)
              simp only [Act.put, List.setIfInBounds_toArray, List.set_cons_zero, List.set_cons_succ]
              refine hK _ ?_; clear hK K
              refine wpMix_skip (by kernel_rfl) (fun K hK => ?_)
              simp only [Act.put, List.setIfInBounds_toArray, List.set_cons_zero, List.set_cons_succ]
              refine hK _ ?_; clear hK K
              refine wpMix_skip (by kernel_rfl) (fun K hK => ?_)
              simp only [Act.put, List.setIfInBounds_toArray, List.set_cons_zero, List.set_cons_succ]
              refine hK _ ?_; clear hK K
              refine wpMix_skip (by kernel_rfl) (fun K hK => ?_)
              simp only [Act.put, List.setIfInBounds_toArray, List.set_cons_zero, List.set_cons_succ]
              refine hK _ ?_; clear hK K
              refine wpMix_skip (by kernel_rfl) (fun K hK => ?_)
              simp only [Act.put, List.setIfInBounds_toArray, List.set_cons_zero, List.set_cons_succ]
              refine hK _ ?_; clear hK K
              refine wpMix_skip (by kernel_rfl) (fun K hK => ?_)
              simp only [Act.put, List.setIfInBounds_toArray, List.set_cons_zero, List.set_cons_succ]
              refine hK _ ?_; clear hK K
              refine wpMix_skip (by kernel_rfl) (fun K hK => ?_)
              simp only [Act.put, List.setIfInBounds_toArray, List.set_cons_zero, List.set_cons_succ]
              refine hK _ ?_; clear hK K
              refine wpMix_skip (by kernel_rfl) (fun K hK => ?_)
              simp only [Act.put, List.setIfInBounds_toArray, List.set_cons_zero, List.set_cons_succ]
              refine hK _ ?_; clear hK K
              refine wpMix_skip (by kernel_rfl) (fun K hK => ?_)
              simp only [Act.put, List.setIfInBounds_toArray, List.set_cons_zero, List.set_cons_succ]
              refine hK _ ?_; clear hK K
              refine wpMix_pure (by kernel_rfl) (fun K hK => ?_); go_big_quiet_op; refine hK _ ?_; clear hK K
              refine wpMix_nil ?_
              have HZ : Hid (rgOk xs (m + 1) = false) := by show _ = _; rw [rgOk_at hlt, rgHead_succ hlt]; simp [*]
              go_wp2
              go_ret
              exact ⟨ret_bool (by rw [regionsB_bad hlt HZ.out]), hb.trans (hS0.mono hb.size)⟩
            · skip
              refine wpMix_pure (by kernel_rfl) (fun K hK => ?_); go_big_quiet_op; refine hK _ ?_; clear hK K
              refine wpMix_pure (by kernel_rfl) (fun K hK => ?_); go_big_quiet_op; refine hK _ ?_; clear hK K
              refine wpMix_pure (by kernel_rfl) (fun K hK => ?_); go_big_quiet_op; refine hK _ ?_; clear hK K
              refine wpMix_pure (by kernel_rfl) (fun K hK => ?_); go_big_quiet_op; refine hK _ ?_; clear hK K
              refine wpMix_pure (by kernel_rfl) (fun K hK => ?_); go_big_quiet_op; refine hK _ ?_; clear hK K
              refine wpMix_pure (by kernel_rfl) (fun K hK => ?_); go_big_quiet_op; refine hK _ ?_; clear hK K
              refine wpMix_pure (by kernel_rfl) (fun K hK => ?_); go_big_quiet_op; refine hK _ ?_; clear hK K
              refine wpMix_pure (by kernel_rfl) (fun K hK => ?_); go_big_quiet_op; refine hK _ ?_; clear hK K
              refine wpMix_pure (by kernel_rfl) (fun K hK => ?_); go_big_quiet_op; refine hK _ ?_; clear hK K
              refine wpMix_pure (by kernel_rfl) (fun K hK => ?_); go_big_quiet_op; refine hK _ ?_; clear hK K
              refine wpMix_pure (by kernel_rfl) (fun K hK => ?_); go_big_quiet_op; refine hK _ ?_; clear hK K
              refine wpMix_pure (by kernel_rfl) (fun K hK => ?_); go_big_quiet_op; refine hK _ ?_; clear hK K
              refine wpMix_pure (by kernel_rfl) (fun K hK => ?_); go_big_quiet_op; refine hK _ ?_; clear hK K
              refine wpMix_pure (by kernel_rfl) (fun K hK => ?_); go_big_quiet_op; refine hK _ ?_; clear hK K
              refine wpMix_pure (by kernel_rfl) (fun K hK => ?_); go_big_quiet_op; refine hK _ ?_; clear hK K
              refine wpMix_pure (by kernel_rfl) (fun K hK => ?_); go_big_quiet_op; refine hK _ ?_; clear hK K
              by_cases hq28 : ltS xs[m].id xs[m + 1].id = true
              · skip
                have e20 : Op.bytesLess xs[m].id.toList xs[m + 1].id.toList = true := hq28
                refine wpMix_pure (by kernel_rfl) (fun K hK => ?_); go_big_quiet_op; refine hK _ ?_; clear hK K
                refine wpMix_pure (by kernel_rfl) (fun K hK => ?_); go_big_quiet_op; refine hK _ ?_; clear hK K
                refine wpMix_pure (by kernel_rfl) (fun K hK => ?_); go_big_quiet_op; refine hK _ ?_; clear hK K
                refine wpMix_nil ?_
                have HH : Hid (rgHead xs (m + 1) = true) := by show _ = _; rw [rgHead_succ hlt]; simp [*]
                have hSF := hS0
                have z2 := (hS0.cell (block_lt_of_cell c2)).trans c2
                go_wp2
                clear z2
                (try simp only [show ((0 : Nat) : Int) = 0 from rfl])
                refine at_world (fun V => Below wo.heap.size wo V ∧ V.cell? ⟨b, off + (m + 1) * 3, none⟩ = some (.string xs[m + 1].id) ∧ V.cell? ⟨b, off + (m + 1) * 3 + 2, none⟩ = some (.slice A1 xs[m + 1].near.length cap1) ∧ Sl fStr.cod V (.slice A1 xs[m + 1].near.length cap1) xs[m + 1].near fk) ⟨hS0, (hS0.cell (block_lt_of_cell c0)).trans c0, (hS0.cell (block_lt_of_cell c2)).trans c2, hs0.below' hS0⟩ ?_
                (try clear gc0 gc1 gd0)
                clear hSF c0 c1 c2 hs0 d0
                rintro V ⟨hV, c0, c2, hs⟩
                have hbV := hb.trans (hV.mono hb.size)
                go_loopw [5] (fun i wr => ∃ q : Nat, q ≤ xs[m + 1].near.length ∧ i = .int .i64 q ∧ Hid (allIdx (nrOk xs xs[m + 1]) q = true) ∧ Below V.heap.size V wr) (fun i _ => xs[m + 1].near.length - (intOf i).toNat)
                case atStart => exact ⟨0, Nat.zero_le _, rfl, rfl, Below.refl _ _⟩
                case round =>
                  obtain ⟨q, hq, rfl, G0, hbi⟩ := hrel
                  have hbr := hbV.trans (hbi.mono hbV.size)
                  have hxr := hx.below' hbr
                  have d0 := (hbi.cell (block_lt_of_cell c0)).trans c0
                  have d2 := (hbi.cell (block_lt_of_cell c2)).trans c2
                  by_cases hqt : q < xs[m + 1].near.length
                  · obtain ⟨b2, off2, hA2, _, hokq, hcq, _⟩ := (hs.below' hbi).cell1 rfl hqt rfl
                    subst hA2
                    rcases Nat.eq_zero_or_pos q with rfl | hqpos
                    · (try rw [Nat.add_zero] at hcq)
                      go_wp2_with fail
                      refine (l18Find_any _ xs fp xs[m + 1].near[0] _ hxr).mono ?_
                      rintro e wf ⟨r, rfl, hf, hbf⟩
                      have HSr := at_self hlt H0.out HH.out hf
                      rcases hf with ⟨rfl, hn⟩ | ⟨kf, rfl, hkf, hef, h0f⟩
                      · have HI := Lib.hid (isNearB_none (t := xs[m + 1].id) hn)
                        clear hn HSr
                        go_wp2
                        refine at_world (fun W => Below wr.heap.size wr W) hbf ?_
                        rintro W hW
                        refine wp_region_mix (C := fun w' => ∃ p : Regrown, w' = Go.Sort.grow (redrawn W p.d) p.os) [true, true, true, true, true, true, true, true, true, true, true, true, true, true, true, true, true, true, true, true, true, true, true, true, true, true, true, true, true, true, true, true, true, true, true, true, true, false, true, true] (by kernel_rfl) (by kernel_rfl) (by kernel_rfl) (fun _ _ d _ _ h => by cases d <;> exact h) (regrown_of_below (Below.drew (Below.refl _ _))) ?_
                        have hS0 : Below (W.heap.size) W W.drew := Below.drew (Below.refl _ _)
                        refine wpMix_pure (by kernel_rfl) (fun K hK => ?_); go_big_quiet_op; refine hK _ ?_; clear hK K
                        refine wpMix_pure (by kernel_rfl) (fun K hK => ?_); go_big_quiet_op; refine hK _ ?_; clear hK K
                        refine wpMix_pure (by kernel_rfl) (fun K hK => ?_); go_big_quiet_op; refine hK _ ?_; clear hK K
                        refine wpMix_skip (by kernel_rfl) (fun K hK => ?_)
                        simp only [Act.put, List.setIfInBounds_toArray, List.set_cons_zero, List.set_cons_succ]
                        refine hK _ ?_; clear hK K
                        refine wpMix_skip (by kernel_rfl) (fun K hK => ?_)
                        simp only [Act.put, List.setIfInBounds_toArray, List.set_cons_zero, List.set_cons_succ]
                        refine hK _ ?_; clear hK K
                        refine wpMix_skip (by kernel_rfl) (fun K hK => ?_)
                        simp only [Act.put, List.setIfInBounds_toArray, List.set_cons_zero, List.set_cons_succ]
                        refine hK _ ?_; clear hK K
                        refine wpMix_pure (by kernel_rfl) (fun K hK => ?_); go_big_quiet_op; refine hK _ ?_; clear hK K
                        refine wpMix_pure (by kernel_rfl) (fun K hK => ?_); go_big_quiet_op; refine hK _ ?_; clear hK K
                        refine wpMix_skip (by kernel_rfl) (fun K hK => ?_)
                        simp only [Act.put, List.setIfInBounds_toArray, List.set_cons_zero, List.set_cons_succ]
                        refine hK _ ?_; clear hK K
                        refine wpMix_skip (by kernel_rfl) (fun K hK => ?_)
                        simp only [Act.put, List.setIfInBounds_toArray, List.set_cons_zero, List.set_cons_succ]
                        refine hK _ ?_; clear hK K
                        refine wpMix_skip (by kernel_rfl) (fun K hK => ?_)
                        simp only [Act.put, List.setIfInBounds_toArray, List.set_cons_zero, List.set_cons_succ]
                        refine hK _ ?_; clear hK K
                        refine wpMix_skip (by kernel_rfl) (fun K hK => ?_)
                        simp only [Act.put, List.setIfInBounds_toArray, List.set_cons_zero, List.set_cons_succ]
                        refine hK _ ?_; clear hK K
                        refine wpMix_skip (by kernel_rfl) (fun K hK => ?_)
                        simp only [Act.put, List.setIfInBounds_toArray, List.set_cons_zero, List.set_cons_succ]
                        refine hK _ ?_; clear hK K
                        refine wpMix_skip (by kernel_rfl) (fun K hK => ?_)
                        simp only [Act.put, List.setIfInBounds_toArray, List.set_cons_zero, List.set_cons_succ]
                        refine hK _ ?_; clear hK K
                        refine wpMix_skip (by kernel_rfl) (fun K hK => ?_)
                        simp only [Act.put, List.setIfInBounds_toArray, List.set_cons_zero, List.set_cons_succ]
                        refine hK _ ?_; clear hK K
                        refine wpMix_skip (by kernel_rfl) (fun K hK => ?_)
                        simp only [Act.put, List.setIfInBounds_toArray, List.set_cons_zero, List.set_cons_succ]
                        refine hK _ ?_; clear hK K
                        refine wpMix_skip (by kernel_rfl) (fun K hK => ?_)
                        simp only [Act.put, List.setIfInBounds_toArray, List.set_cons_zero, List.set_cons_succ]
                        refine hK _ ?_; clear hK K
                        refine wpMix_skip (by kernel_rfl) (fun K hK => ?_)
                        simp only [Act.put, List.setIfInBounds_toArray, List.set_cons_zero, List.set_cons_succ]
                        refine hK _ ?_; clear hK K
                        refine wpMix_skip (by kernel_rfl) (fun K hK => ?_)
                        simp only [Act.put, List.setIfInBounds_toArray, List.set_cons_zero, List.set_cons_succ]
                        refine hK _ ?_; clear hK K
                        refine wpMix_skip (by kernel_rfl) (fun K hK => ?_)
                        simp only [Act.put, List.setIfInBounds_toArray, List.set_cons_zero, List.set_cons_succ]
                        refine hK _ ?_; clear hK K
                        refine wpMix_skip (by kernel_rfl) (fun K hK => ?_)
                        simp only [Act.put, List.setIfInBounds_toArray, List.set_cons_zero, List.set_cons_succ]
                        refine hK _ ?_; clear hK K
                        refine wpMix_skip (by kernel_rfl) (fun K hK => ?_)
                        simp only [Act.put, List.setIfInBounds_toArray, List.set_cons_zero, List.set_cons_succ]
                        refine hK _ ?_; clear hK K
                        refine wpMix_skip (by kernel_rfl) (fun K hK => ?_)
                        simp only [Act.put, List.setIfInBounds_toArray, List.set_cons_zero, List.set_cons_succ]
                        refine hK _ ?_; clear hK K
                        refine wpMix_skip (by kernel_rfl) (fun K hK => ?_)
                        simp only [Act.put, List.setIfInBounds_toArray, List.set_cons_zero, List.set_cons_succ]
                        refine hK _ ?_; clear hK K
                        refine wpMix_skip (by kernel_rfl) (fun K hK => ?_)
                        simp only [Act.put, List.setIfInBounds_toArray, List.set_cons_zero, List.set_cons_succ]
                        refine hK _ ?_; clear hK K
                        refine wpMix_skip (by kernel_rfl) (fun K hK => ?_)
                        simp only [Act.put, List.setIfInBounds_toArray, List.set_cons_zero, List.set_cons_succ]
                        refine hK _ ?_; clear hK K
                        refine wpMix_skip (by kernel_rfl) (fun K hK => ?_)
                        simp only [Act.put, List.setIfInBounds_toArray, List.set_cons_zero, List.set_cons_succ]
                        refine hK _ ?_; clear hK K
                        refine wpMix_skip (by kernel_rfl) (fun K hK => ?_)
                        simp only [Act.put, List.setIfInBounds_toArray, List.set_cons_zero, List.set_cons_succ]
                        refine hK _ ?_; clear hK K
                        refine wpMix_pure (by kernel_rfl) (fun K hK => ?_); go_big_quiet_op; refine hK _ ?_; clear hK K
                        refine wpMix_pure (by kernel_rfl) (fun K hK => ?_); go_big_quiet_op; refine hK _ ?_; clear hK K
                        refine wpMix_skip (by kernel_rfl) (fun K hK => ?_)
                        simp only [Act.put, List.setIfInBounds_toArray, List.set_cons_zero, List.set_cons_succ]
                        refine hK _ ?_; clear hK K
                        refine wpMix_skip (by kernel_rfl) (fun K hK => ?_)
                        simp only [Act.put, List.setIfInBounds_toArray, List.set_cons_zero, List.set_cons_succ]
                        refine hK _ ?_; clear hK K
                        refine wpMix_skip (by kernel_rfl) (fun K hK => ?_)
                        simp only [Act.put, List.setIfInBounds_toArray, List.set_cons_zero, List.set_cons_succ]
                        refine hK _ ?_; clear hK K
                        refine wpMix_skip (by kernel_rfl) (fun K hK => ?_)
                        simp only [Act.put, List.setIfInBounds_toArray, List.set_cons_zero, List.set_cons_succ]
                        refine hK _ ?_; clear hK K
                        refine wpMix_skip (by kernel_rfl) (fun K hK => ?_)
                        simp only [Act.put, List.setIfInBounds_toArray, List.set_cons_zero, List.set_cons_succ]
                        refine hK _ ?_; clear hK K
                        refine wpMix_skip (by kernel_rfl) (fun K hK => ?_)
                        simp only [Act.put, List.setIfInBounds_toArray, List.set_cons_zero, List.set_cons_succ]
                        refine hK _ ?_; clear hK K
                        refine wpMix_skip (by kernel_rfl) (fun K hK => ?_)
                        simp only [Act.put, List.setIfInBounds_toArray, List.set_cons_zero, List.set_cons_succ]
                        refine hK _ ?_; clear hK K
                        refine wpMix_skip (by kernel_rfl) (fun K hK => ?_)
                        simp only [Act.put, List.setIfInBounds_toArray, List.set_cons_zero, List.set_cons_succ]
                        refine hK _ ?_; clear hK K
                        refine wpMix_skip (by kernel_rfl) (fun K hK => ?_)
                        simp only [Act.put, List.setIfInBounds_toArray, List.set_cons_zero, List.set_cons_succ]
                        refine hK _ ?_; clear hK K
                        refine wpMix_pure (by kernel_rfl) (fun K hK => ?_); go_big_quiet_op; refine hK _ ?_; clear hK K
                        refine wpMix_nil ?_
                        have HN : Hid (nrOk xs xs[m + 1] (0) = false) := by show _ = _; rw [nrOk_zero hqt, HI.out, Bool.and_false]
                        have HZ : Hid (rgOk xs (m + 1) = false) := by show _ = _; rw [rgOk_at hlt, allIdx_bad hqt HN.out, Bool.and_false]
                        go_wp2
                        go_ret
                        exact ⟨ret_bool (by rw [regionsB_bad hlt HZ.out]), hbr.trans ((hW.mono hbr.size).trans (hS0.mono (Nat.le_trans hbr.size hW.size)))⟩
                      · have HI := Lib.hid (isNearB_at (t := xs[m + 1].id) hkf hef h0f)
                        have HS := HSr
                        clear hef h0f HSr
                        obtain ⟨bf, of, vf, ff, hAf, g0, g1, h2f, hsf, _⟩ := (hxr.below' hbf).reg hkf
                        injection hAf with hAf
                        injection hAf with hAf hAg _
                        subst hAf hAg
                        go_wp2
                        refine at_world (fun W => Below wr.heap.size wr W ∧ W.cell? ⟨b, off + (m + 1) * 3, none⟩ = some (.string xs[m + 1].id) ∧ W.cell? ⟨b, off + (m + 1) * 3 + 2, none⟩ = some (.slice (some ⟨b2, off2, none⟩) xs[m + 1].near.length cap1) ∧ W.cell? ⟨b2, off2, none⟩ = some (.string xs[m + 1].near[0]) ∧ W.cell? ⟨b, off + kf * 3 + 2, none⟩ = some vf ∧ Sl fStr.cod W vf xs[kf].near ff) ⟨hbf, (hbf.cell (block_lt_of_cell d0)).trans d0, (hbf.cell (block_lt_of_cell d2)).trans d2, (hbf.cell (block_lt_of_cell hcq)).trans hcq, h2f, hsf⟩ ?_
                        clear g0 g1 h2f hsf
                        rintro W ⟨hW, w0, w2, wq, h2f, hsf⟩
                        have e1 : decide ((kf : Int) < 0) = false := by simp
                        have gw0 := cell_regrown w0
                        have gw2 := cell_regrown w2
                        have gwq := cell_regrown wq
                        refine wp_region_mix (C := fun w' => ∃ p : Regrown, w' = Go.Sort.grow (redrawn W p.d) p.os) [true, true, true, true, true, true, true, true, true, true, true, true, true, true, true, true, true, true, true, true, true, true, true, true, true, true, true, true, true, true, true, true, true, true, true, true, true, false, true, true] (by kernel_rfl) (by kernel_rfl) (by kernel_rfl) (fun _ _ d _ _ h => by cases d <;> exact h) (regrown_of_below (Below.drew (Below.refl _ _))) ?_
                        have hS0 : Below (W.heap.size) W W.drew := Below.drew (Below.refl _ _)
                        refine wpMix_pure (by kernel_rfl) (fun K hK => ?_); go_big_quiet_op; refine hK _ ?_; clear hK K
                        refine wpMix_pure (by kernel_rfl) (fun K hK => ?_); go_big_quiet_op; refine hK _ ?_; clear hK K
                        refine wpMix_pure (by kernel_rfl) (fun K hK => ?_); go_big_quiet_op; refine hK _ ?_; clear hK K
                        refine wpMix_pure (by kernel_rfl) (fun K hK => ?_); go_big_quiet_op; refine hK _ ?_; clear hK K
                        refine wpMix_pure (by kernel_rfl) (fun K hK => ?_); go_big_quiet_op; refine hK _ ?_; clear hK K
                        by_cases hq5 : (kf : Int) = (m : Int) + 1
                        · skip
                          have e5 : ((kf : Int) == (m : Int) + 1) = true := by rw [beq_iff_eq]; exact hq5
                          refine wpMix_pure (by kernel_rfl) (fun K hK => ?_); go_big_quiet_op; refine hK _ ?_; clear hK K
                          refine wpMix_pure (by kernel_rfl) (fun K hK => ?_); go_big_quiet_op; refine hK _ ?_; clear hK K
                          refine wpMix_pure (by kernel_rfl) (fun K hK => ?_); go_big_quiet_op; refine hK _ ?_; clear hK K
                          refine wpMix_skip (by kernel_rfl) (fun K hK => ?_)
                          simp only [Act.put, List.setIfInBounds_toArray, List.set_cons_zero, List.set_cons_succ]
                          refine hK _ ?_; clear hK K
                          refine wpMix_skip (by kernel_rfl) (fun K hK => ?_)
                          simp only [Act.put, List.setIfInBounds_toArray, List.set_cons_zero, List.set_cons_succ]
                          refine hK _ ?_; clear hK K
                          refine wpMix_skip (by kernel_rfl) (fun K hK => ?_)
                          simp only [Act.put, List.setIfInBounds_toArray, List.set_cons_zero, List.set_cons_succ]
                          refine hK _ ?_; clear hK K
                          refine wpMix_skip (by kernel_rfl) (fun K hK => ?_)
                          simp only [Act.put, List.setIfInBounds_toArray, List.set_cons_zero, List.set_cons_succ]
                          refine hK _ ?_; clear hK K
                          refine wpMix_skip (by kernel_rfl) (fun K hK => ?_)
                          simp only [Act.put, List.setIfInBounds_toArray, List.set_cons_zero, List.set_cons_succ]
                          refine hK _ ?_; clear hK K
                          refine wpMix_skip (by kernel_rfl) (fun K hK => ?_)
                          simp only [Act.put, List.setIfInBounds_toArray, List.set_cons_zero, List.set_cons_succ]
                          refine hK _ ?_; clear hK K
                          refine wpMix_skip (by kernel_rfl) (fun K hK => ?_)
                          simp only [Act.put, List.setIfInBounds_toArray, List.set_cons_zero, List.set_cons_succ]
                          refine hK _ ?_; clear hK K
                          refine wpMix_skip (by kernel_rfl) (fun K hK => ?_)
                          simp only [Act.put, List.setIfInBounds_toArray, List.set_cons_zero, List.set_cons_succ]
                          refine hK _ ?_; clear hK K
                          refine wpMix_skip (by kernel_rfl) (fun K hK => ?_)
                          simp only [Act.put, List.setIfInBounds_toArray, List.set_cons_zero, List.set_cons_succ]
                          refine hK _ ?_; clear hK K
                          refine wpMix_skip (by kernel_rfl) (fun K hK => ?_)
                          simp only [Act.put, List.setIfInBounds_toArray, List.set_cons_zero, List.set_cons_succ]
                          refine hK _ ?_; clear hK K
                          refine wpMix_skip (by kernel_rfl) (fun K hK => ?_)
                          simp only [Act.put, List.setIfInBounds_toArray, List.set_cons_zero, List.set_cons_succ]
                          refine hK _ ?_; clear hK K
                          refine wpMix_skip (by kernel_rfl) (fun K hK => ?_)
                          simp only [Act.put, List.setIfInBounds_toArray, List.set_cons_zero, List.set_cons_succ]
                          refine hK _ ?_; clear hK K
                          refine wpMix_skip (by kernel_rfl) (fun K hK => ?_)
                          simp only [Act.put, List.setIfInBounds_toArray, List.set_cons_zero, List.set_cons_succ]
                          refine hK _ ?_; clear hK K
                          refine wpMix_skip (by kernel_rfl) (fun K hK => ?_)
                          simp only [Act.put, List.setIfInBounds_toArray, List.set_cons_zero, List.set_cons_succ]
                          refine hK _ ?_; clear hK K
                          refine wpMix_skip (by kernel_rfl) (fun K hK => ?_)
                          simp only [Act.put, List.setIfInBounds_toArray, List.set_cons_zero, List.set_cons_succ]
                          refine hK _ ?_; clear hK K
                          refine wpMix_skip (by kernel_rfl) (fun K hK => ?_)
                          simp only [Act.put, List.setIfInBounds_toArray, List.set_cons_zero, List.set_cons_succ]
                          refine hK _ ?_; clear hK K
                          refine wpMix_skip (by kernel_rfl) (fun K hK => ?_)
                          simp only [Act.put, List.setIfInBounds_toArray, List.set_cons_zero, List.set_cons_succ]
                          refine hK _ ?_; clear hK K
                          refine wpMix_skip (by kernel_rfl) (fun K hK => ?_)
                          simp only [Act.put, List.setIfInBounds_toArray, List.set_cons_zero, List.set_cons_succ]
                          refine hK _ ?_; clear hK K
                          refine wpMix_skip (by kernel_rfl) (fun K hK => ?_)
                          simp only [Act.put, List.setIfInBounds_toArray, List.set_cons_zero, List.set_cons_succ]
                          refine hK _ ?_; clear hK K
                          refine wpMix_skip (by kernel_rfl) (fun K hK => ?_)
                          simp only [Act.put, List.setIfInBounds_toArray, List.set_cons_zero, List.set_cons_succ]
                          refine hK _ ?_; clear hK K
                          refine wpMix_pure (by kernel_rfl) (fun K hK => ?_); go_big_quiet_op; refine hK _ ?_; clear hK K
                          refine wpMix_pure (by kernel_rfl) (fun K hK => ?_); go_big_quiet_op; refine hK _ ?_; clear hK K
                          refine wpMix_skip (by kernel_rfl) (fun K hK => ?_)
                          simp only [Act.put, List.setIfInBounds_toArray, List.set_cons_zero, List.set_cons_succ]
                          refine hK _ ?_; clear hK K
                          refine wpMix_skip (by kernel_rfl) (fun K hK => ?_)
                          simp only [Act.put, List.setIfInBounds_toArray, List.set_cons_zero, List.set_cons_succ]
                          refine hK _ ?_; clear hK K
                          refine wpMix_skip (by kernel_rfl) (fun K hK => ?_)
                          simp only [Act.put, List.setIfInBounds_toArray, List.set_cons_zero, List.set_cons_succ]
                          refine hK _ ?_; clear hK K
                          refine wpMix_skip (by kernel_rfl) (fun K hK => ?_)
                          simp only [Act.put, List.setIfInBounds_toArray, List.set_cons_zero, List.set_cons_succ]
                          refine hK _ ?_; clear hK K
                          refine wpMix_skip (by kernel_rfl) (fun K hK => ?_)
                          simp only [Act.put, List.setIfInBounds_toArray, List.set_cons_zero, List.set_cons_succ]
                          refine hK _ ?_; clear hK K
                          refine wpMix_skip (by kernel_rfl) (fun K hK => ?_)
                          simp only [Act.put, List.setIfInBounds_toArray, List.set_cons_zero, List.set_cons_succ]
                          refine hK _ ?_; clear hK K
                          refine wpMix_skip (by kernel_rfl) (fun K hK => ?_)
                          simp only [Act.put, List.setIfInBounds_toArray, List.set_cons_zero, List.set_cons_succ]
                          refine hK _ ?_; clear hK K
                          refine wpMix_skip (by kernel_rfl) (fun K hK => ?_)
                          simp only [Act.put, List.setIfInBounds_toArray, List.set_cons_zero, List.set_cons_succ]
                          refine hK _ ?_; clear hK K
                          refine wpMix_skip (by kernel_rfl) (fun K hK => ?_)
                          simp only [Act.put, List.setIfInBounds_toArray, List.set_cons_zero, List.set_cons_succ]
                          refine hK _ ?_; clear hK K
                          refine wpMix_pure (by kernel_rfl) (fun K hK => ?_); go_big_quiet_op; refine hK _ ?_; clear hK K
                          refine wpMix_nil ?_
                          have HN : Hid (nrOk xs xs[m + 1] (0) = false) := by show _ = _; rw [nrOk_zero hqt, decide_eq_true (HS.1 (by omega))]; simp
                          have HZ : Hid (rgOk xs (m + 1) = false) := by show _ = _; rw [rgOk_at hlt, allIdx_bad hqt HN.out, Bool.and_false]
                          go_wp2
                          go_ret
                          exact ⟨ret_bool (by rw [regionsB_bad hlt HZ.out]), hbr.trans ((hW.mono hbr.size).trans (hS0.mono (Nat.le_trans hbr.size hW.size)))⟩
                        · skip
                          have e5 : ((kf : Int) == (m : Int) + 1) = false := by rw [beq_eq_false_iff_ne]; exact hq5
                          refine wpMix_pure (by kernel_rfl) (fun K hK => ?_); go_big_quiet_op; refine hK _ ?_; clear hK K
                          refine wpMix_pure (by kernel_rfl) (fun K hK => ?_); go_big_quiet_op; refine hK _ ?_; clear hK K
                          refine wpMix_pure (by kernel_rfl) (fun K hK => ?_); go_big_quiet_op; refine hK _ ?_; clear hK K
                          refine wpMix_pure (by kernel_rfl) (fun K hK => ?_); go_big_quiet_op; refine hK _ ?_; clear hK K
                          refine wpMix_pure (by kernel_rfl) (fun K hK => ?_); go_big_quiet_op; refine hK _ ?_; clear hK K
                          refine wpMix_pure (by kernel_rfl) (fun K hK => ?_); go_big_quiet_op; refine hK _ ?_; clear hK K
                          refine wpMix_skip (by kernel_rfl) (fun K hK => ?_)
                          simp only [Act.put, List.setIfInBounds_toArray, List.set_cons_zero, List.set_cons_succ]
                          refine hK _ ?_; clear hK K
                          refine wpMix_skip (by kernel_rfl) (fun K hK => ?_)
                          simp only [Act.put, List.setIfInBounds_toArray, List.set_cons_zero, List.set_cons_succ]
                          refine hK _ ?_; clear hK K
                          refine wpMix_skip (by kernel_rfl) (fun K hK => ?_)
                          simp only [Act.put, List.setIfInBounds_toArray, List.set_cons_zero, List.set_cons_succ]
                          refine hK _ ?_; clear hK K
                          refine wpMix_skip (by kernel_rfl) (fun K hK => ?_)
                          simp only [Act.put, List.setIfInBounds_toArray, List.set_cons_zero, List.set_cons_succ]
                          refine hK _ ?_; clear hK K
                          refine wpMix_skip (by kernel_rfl) (fun K hK => ?_)
                          simp only [Act.put, List.setIfInBounds_toArray, List.set_cons_zero, List.set_cons_succ]
                          refine hK _ ?_; clear hK K
                          refine wpMix_skip (by kernel_rfl) (fun K hK => ?_)
                          simp only [Act.put, List.setIfInBounds_toArray, List.set_cons_zero, List.set_cons_succ]
                          refine hK _ ?_; clear hK K
                          refine wpMix_skip (by kernel_rfl) (fun K hK => ?_)
                          simp only [Act.put, List.setIfInBounds_toArray, List.set_cons_zero, List.set_cons_succ]
                          refine hK _ ?_; clear hK K
                          refine wpMix_skip (by kernel_rfl) (fun K hK => ?_)
                          simp only [Act.put, List.setIfInBounds_toArray, List.set_cons_zero, List.set_cons_succ]
                          refine hK _ ?_; clear hK K
                          refine wpMix_skip (by kernel_rfl) (fun K hK => ?_)
                          simp only [Act.put, List.setIfInBounds_toArray, List.set_cons_zero, List.set_cons_succ]
                          refine hK _ ?_; clear hK K
                          refine wpMix_skip (by kernel_rfl) (fun K hK => ?_)
                          simp only [Act.put, List.setIfInBounds_toArray, List.set_cons_zero, List.set_cons_succ]
                          refine hK _ ?_; clear hK K
                          refine wpMix_skip (by kernel_rfl) (fun K hK => ?_)
                          simp only [Act.put, List.setIfInBounds_toArray, List.set_cons_zero, List.set_cons_succ]
                          refine hK _ ?_; clear hK K
                          refine wpMix_skip (by kernel_rfl) (fun K hK => ?_)
                          simp only [Act.put, List.setIfInBounds_toArray, List.set_cons_zero, List.set_cons_succ]
                          refine hK _ ?_; clear hK K
                          refine wpMix_skip (by kernel_rfl) (fun K hK => ?_)
                          simp only [Act.put, List.setIfInBounds_toArray, List.set_cons_zero, List.set_cons_succ]
                          refine hK _ ?_; clear hK K
                          refine wpMix_skip (by kernel_rfl) (fun K hK => ?_)
                          simp only [Act.put, List.setIfInBounds_toArray, List.set_cons_zero, List.set_cons_succ]
                          refine hK _ ?_; clear hK K
                          refine wpMix_skip (by kernel_rfl) (fun K hK => ?_)
                          simp only [Act.put, List.setIfInBounds_toArray, List.set_cons_zero, List.set_cons_succ]
                          refine hK _ ?_; clear hK K
                          refine wpMix_skip (by kernel_rfl) (fun K hK => ?_)
                          simp only [Act.put, List.setIfInBounds_toArray, List.set_cons_zero, List.set_cons_succ]
                          refine hK _ ?_; clear hK K
                          refine wpMix_pure (by kernel_rfl) (fun K hK => ?_); go_big_quiet_op; refine hK _ ?_; clear hK K
                          refine wpMix_pure (by kernel_rfl) (fun K hK => ?_); go_big_quiet_op; refine hK _ ?_; clear hK K
                          refine wpMix_pure (by kernel_rfl) (fun K hK => ?_); go_big_quiet_op; refine hK _ ?_; clear hK K
                          refine wpMix_pure (by kernel_rfl) (fun K hK => ?_); go_big_quiet_op; refine hK _ ?_; clear hK K
                          refine wpMix_pure (by kernel_rfl) (fun K hK => ?_); go_big_quiet_op; refine hK _ ?_; clear hK K
                          refine wpMix_pure (by kernel_rfl) (fun K hK => ?_); go_big_quiet_op; refine hK _ ?_; clear hK K
                          refine wpMix_pure (by kernel_rfl) (fun K hK => ?_); go_big_quiet_op; refine hK _ ?_; clear hK K
                          refine wpMix_pure (by kernel_rfl) (fun K hK => ?_); go_big_quiet_op; refine hK _ ?_; clear hK K
                          refine wpMix_pure (by kernel_rfl) (fun K hK => ?_); go_big_quiet_op; refine hK _ ?_; clear hK K
                          refine wpMix_pure (by kernel_rfl) (fun K hK => ?_); go_big_quiet_op; refine hK _ ?_; clear hK K
                          refine wpMix_act (by kernel_rfl) (fun K hK => ?_)
                          go_big_op
                          refine (l18Near_any b (off + kf * 3) _ _ _ xs[m + 1].id _ ((hS0.cell (block_lt_of_cell h2f)).trans h2f) (hsf.below' hS0)).mono ?_
                          rintro e w' ⟨rfl, rfl⟩
                          refine hK _ _ (regrown_of_below hS0) ?_
                          clear hK K
                          cases hq37 : memS xs[m + 1].id xs[kf].near
                          · skip
                            refine wpMix_pure (by kernel_rfl) (fun K hK => ?_); go_big_quiet_op; refine hK _ ?_; clear hK K
                            refine wpMix_pure (by kernel_rfl) (fun K hK => ?_); go_big_quiet_op; refine hK _ ?_; clear hK K
                            refine wpMix_nil ?_
                            have HN : Hid (nrOk xs xs[m + 1] (0) = false) := by show _ = _; rw [nrOk_zero hqt, HI.out, hq37, Bool.and_false]
                            have HZ : Hid (rgOk xs (m + 1) = false) := by show _ = _; rw [rgOk_at hlt, allIdx_bad hqt HN.out, Bool.and_false]
                            go_wp2
                            go_ret
                            exact ⟨ret_bool (by rw [regionsB_bad hlt HZ.out]), hbr.trans ((hW.mono hbr.size).trans (hS0.mono (Nat.le_trans hbr.size hW.size)))⟩
                          · skip
                            refine wpMix_pure (by kernel_rfl) (fun K hK => ?_); go_big_quiet_op; refine hK _ ?_; clear hK K
                            refine wpMix_pure (by kernel_rfl) (fun K hK => ?_); go_big_quiet_op; refine hK _ ?_; clear hK K
                            refine wpMix_nil ?_
                            have HN : Hid (nrOk xs xs[m + 1] (0) = true) := by show _ = _; rw [nrOk_zero hqt, HI.out, hq37, decide_eq_false (fun e => hq5 (by have := HS.2 e; omega))]; rfl
                            go_wp2
                            go_roundw
                            case rel => exact ⟨0 + 1, by omega, by go_num, allIdx_step G0.out HN.out, hbi.trans ((hW.mono hbi.size).trans (hS0.mono (Nat.le_trans hbi.size hW.size)))⟩
                            case measure => simp [intOf]; omega
                    · obtain ⟨p, rfl⟩ : ∃ p, q = p + 1 := ⟨q - 1, by omega⟩
                      have hp : p < xs[m + 1].near.length := by omega
                      obtain ⟨b3, off3, hA3, _, hokp, hcp, _⟩ := (hs.below' hbi).cell1 rfl hp rfl
                      injection hA3 with hA3
                      injection hA3 with hA3 hA4 _
                      subst hA3 hA4
                      go_wp2_with fail
                      refine (l18Find_any _ xs fp xs[m + 1].near[p + 1] _ hxr).mono ?_
                      rintro e wf ⟨r, rfl, hf, hbf⟩
                      have HSr := at_self hlt H0.out HH.out hf
                      rcases hf with ⟨rfl, hn⟩ | ⟨kf, rfl, hkf, hef, h0f⟩
                      · have HI := Lib.hid (isNearB_none (t := xs[m + 1].id) hn)
                        clear hn HSr
                        go_wp2
                        refine at_world (fun W => Below wr.heap.size wr W) hbf ?_
                        rintro W hW
                        refine wp_region_mix (C := fun w' => ∃ p : Regrown, w' = Go.Sort.grow (redrawn W p.d) p.os) [true, true, true, true, true, true, true, true, true, true, true, true, true, true, true, true, true, true, true, true, true, true, true, true, true, true, true, true, true, true, true, true, true, true, true, true, true, false, true, true] (by kernel_rfl) (by kernel_rfl) (by kernel_rfl) (fun _ _ d _ _ h => by cases d <;> exact h) (regrown_of_below (Below.drew (Below.refl _ _))) ?_
                        have hS0 : Below (W.heap.size) W W.drew := Below.drew (Below.refl _ _)
                        refine wpMix_pure (by kernel_rfl) (fun K hK => ?_); go_big_quiet_op; refine hK _ ?_; clear hK K
                        refine wpMix_pure (by kernel_rfl) (fun K hK => ?_); go_big_quiet_op; refine hK _ ?_; clear hK K
                        refine wpMix_pure (by kernel_rfl) (fun K hK => ?_); go_big_quiet_op; refine hK _ ?_; clear hK K
                        refine wpMix_skip (by kernel_rfl) (fun K hK => ?_)
                        simp only [Act.put, List.setIfInBounds_toArray, List.set_cons_zero, List.set_cons_succ]
                        refine hK _ ?_; clear hK K
                        refine wpMix_skip (by kernel_rfl) (fun K hK => ?_)
                        simp only [Act.put, List.setIfInBounds_toArray, List.set_cons_zero, List.set_cons_succ]
                        refine hK _ ?_; clear hK K
                        refine wpMix_skip (by kernel_rfl) (fun K hK => ?_)
                        simp only [Act.put, List.setIfInBounds_toArray, List.set_cons_zero, List.set_cons_succ]
                        refine hK _ ?_; clear hK K
                        refine wpMix_pure (by kernel_rfl) (fun K hK => ?_); go_big_quiet_op; refine hK _ ?_; clear hK K
                        refine wpMix_pure (by kernel_rfl) (fun K hK => ?_); go_big_quiet_op; refine hK _ ?_; clear hK K
                        refine wpMix_skip (by kernel_rfl) (fun K hK => ?_)
                        simp only [Act.put, List.setIfInBounds_toArray, List.set_cons_zero, List.set_cons_succ]
                        refine hK _ ?_; clear hK K
                        refine wpMix_skip (by kernel_rfl) (fun K hK => ?_)
                        simp only [Act.put, List.setIfInBounds_toArray, List.set_cons_zero, List.set_cons_succ]
                        refine hK _ ?_; clear hK K
                        refine wpMix_skip (by kernel_rfl) (fun K hK => ?_)
                        simp only [Act.put, List.setIfInBounds_toArray, List.set_cons_zero, List.set_cons_succ]
                        refine hK _ ?_; clear hK K
                        refine wpMix_skip (by kernel_rfl) (fun K hK => ?_)
                        simp only [Act.put, List.setIfInBounds_toArray, List.set_cons_zero, List.set_cons_succ]
                        refine hK _ ?_; clear hK K
                        refine wpMix_skip (by kernel_rfl) (fun K hK => ?_)
                        simp only [Act.put, List.setIfInBounds_toArray, List.set_cons_zero, List.set_cons_succ]
                        refine hK _ ?_; clear hK K
                        refine wpMix_skip (by kernel_rfl) (fun K hK => ?_)
                        simp only [Act.put, List.setIfInBounds_toArray, List.set_cons_zero, List.set_cons_succ]
                        refine hK _ ?_; clear hK K
                        refine wpMix_skip (by kernel_rfl) (fun K hK => ?_)
                        simp only [Act.put, List.setIfInBounds_toArray, List.set_cons_zero, List.set_cons_succ]
                        refine hK _ ?_; clear hK K
                        refine wpMix_skip (by kernel_rfl) (fun K hK => ?_)
                        simp only [Act.put, List.setIfInBounds_toArray, List.set_cons_zero, List.set_cons_succ]
                        refine hK _ ?_; clear hK K
                        refine wpMix_skip (by kernel_rfl) (fun K hK => ?_)
                        simp only [Act.put, List.setIfInBounds_toArray, List.set_cons_zero, List.set_cons_succ]
                        refine hK _ ?_; clear hK K
                        refine wpMix_skip (by kernel_rfl) (fun K hK => ?_)
                        simp only [Act.put, List.setIfInBounds_toArray, List.set_cons_zero, List.set_cons_succ]
                        refine hK _ ?_; clear hK K
                        refine wpMix_skip (by kernel_rfl) (fun K hK => ?_)
                        simp only [Act.put, List.setIfInBounds_toArray, List.set_cons_zero, List.set_cons_succ]
                        refine hK _ ?_; clear hK K
                        refine wpMix_skip (by kernel_rfl) (fun K hK => ?_)
                        simp only [Act.put, List.setIfInBounds_toArray, List.set_cons_zero, List.set_cons_succ]
                        refine hK _ ?_; clear hK K
                        refine wpMix_skip (by kernel_rfl) (fun K hK => ?_)
                        simp only [Act.put, List.setIfInBounds_toArray, List.set_cons_zero, List.set_cons_succ]
                        refine hK _ ?_; clear hK K
                        refine wpMix_skip (by kernel_rfl) (fun K hK => ?_)
                        simp only [Act.put, List.setIfInBounds_toArray, List.set_cons_zero, List.set_cons_succ]
                        refine hK _ ?_; clear hK K
                        refine wpMix_skip (by kernel_rfl) (fun K hK => ?_)
                        simp only [Act.put, List.setIfInBounds_toArray, List.set_cons_zero, List.set_cons_succ]
                        refine hK _ ?_; clear hK K
                        refine wpMix_skip (by kernel_rfl) (fun K hK => ?_)
                        simp only [Act.put, List.setIfInBounds_toArray, List.set_cons_zero, List.set_cons_succ]
                        refine hK _ ?_; clear hK K
                        refine wpMix_skip (by kernel_rfl) (fun K hK => ?_)
                        simp only [Act.put, List.setIfInBounds_toArray, List.set_cons_zero, List.set_cons_succ]
                        refine hK _ ?_; clear hK K
                        refine wpMix_skip (by kernel_rfl) (fun K hK => ?_)
                        simp only [Act.put, List.setIfInBounds_toArray, List.set_cons_zero, List.set_cons_succ]
                        refine hK _ ?_; clear hK K
                        refine wpMix_skip (by kernel_rfl) (fun K hK => ?_)
                        simp only [Act.put, List.setIfInBounds_toArray, List.set_cons_zero, List.set_cons_succ]
                        refine hK _ ?_; clear hK K
                        refine wpMix_skip (by kernel_rfl) (fun K hK => ?_)
                        simp only [Act.put, List.setIfInBounds_toArray, List.set_cons_zero, List.set_cons_succ]
                        refine hK _ ?_; clear hK K
                        refine wpMix_pure (by kernel_rfl) (fun K hK => ?_); go_big_quiet_op; refine hK _ ?_; clear hK K
                        refine wpMix_pure (by kernel_rfl) (fun K hK => ?_); go_big_quiet_op; refine hK _ ?_; clear hK K
                        refine wpMix_skip (by kernel_rfl) (fun K hK => ?_)
                        simp only [Act.put, List.setIfInBounds_toArray, List.set_cons_zero, List.set_cons_succ]
                        refine hK _ ?_; clear hK K
                        refine wpMix_skip (by kernel_rfl) (fun K hK => ?_)
                        simp only [Act.put, List.setIfInBounds_toArray, List.set_cons_zero, List.set_cons_succ]
                        refine hK _ ?_; clear hK K
                        refine wpMix_skip (by kernel_rfl) (fun K hK => ?_)
                        simp only [Act.put, List.setIfInBounds_toArray, List.set_cons_zero, List.set_cons_succ]
                        refine hK _ ?_; clear hK K
                        refine wpMix_skip (by kernel_rfl) (fun K hK => ?_)
                        simp only [Act.put, List.setIfInBounds_toArray, List.set_cons_zero, List.set_cons_succ]
                        refine hK _ ?_; clear hK K
                        refine wpMix_skip (by kernel_rfl) (fun K hK => ?_)
                        simp only [Act.put, List.setIfInBounds_toArray, List.set_cons_zero, List.set_cons_succ]
                        refine hK _ ?_; clear hK K
                        refine wpMix_skip (by kernel_rfl) (fun K hK => ?_)
                        simp only [Act.put, List.setIfInBounds_toArray, List.set_cons_zero, List.set_cons_succ]
                        refine hK _ ?_; clear hK K
                        refine wpMix_skip (by kernel_rfl) (fun K hK => ?_)
                        simp only [Act.put, List.setIfInBounds_toArray, List.set_cons_zero, List.set_cons_succ]
                        refine hK _ ?_; clear hK K
                        refine wpMix_skip (by kernel_rfl) (fun K hK => ?_)
                        simp only [Act.put, List.setIfInBounds_toArray, List.set_cons_zero, List.set_cons_succ]
                        refine hK _ ?_; clear hK K
                        refine wpMix_skip (by kernel_rfl) (fun K hK => ?_)
                        simp only [Act.put, List.setIfInBounds_toArray, List.set_cons_zero, List.set_cons_succ]
                        refine hK _ ?_; clear hK K
                        refine wpMix_pure (by kernel_rfl) (fun K hK => ?_); go_big_quiet_op; refine hK _ ?_; clear hK K
                        refine wpMix_nil ?_
                        have HN : Hid (nrOk xs xs[m + 1] (p + 1) = false) := by show _ = _; rw [nrOk_succ hqt, HI.out, Bool.and_false]
                        have HZ : Hid (rgOk xs (m + 1) = false) := by show _ = _; rw [rgOk_at hlt, allIdx_bad hqt HN.out, Bool.and_false]
                        go_wp2
                        go_ret
                        exact ⟨ret_bool (by rw [regionsB_bad hlt HZ.out]), hbr.trans ((hW.mono hbr.size).trans (hS0.mono (Nat.le_trans hbr.size hW.size)))⟩
                      · have HI := Lib.hid (isNearB_at (t := xs[m + 1].id) hkf hef h0f)
                        have HS := HSr
                        clear hef h0f HSr
                        obtain ⟨bf, of, vf, ff, hAf, g0, g1, h2f, hsf, _⟩ := (hxr.below' hbf).reg hkf
                        injection hAf with hAf
                        injection hAf with hAf hAg _
                        subst hAf hAg
                        go_wp2
                        refine at_world (fun W => Below wr.heap.size wr W ∧ W.cell? ⟨b, off + (m + 1) * 3, none⟩ = some (.string xs[m + 1].id) ∧ W.cell? ⟨b, off + (m + 1) * 3 + 2, none⟩ = some (.slice (some ⟨b2, off2, none⟩) xs[m + 1].near.length cap1) ∧ W.cell? ⟨b2, off2 + (p + 1), none⟩ = some (.string xs[m + 1].near[p + 1]) ∧ W.cell? ⟨b, off + kf * 3 + 2, none⟩ = some vf ∧ Sl fStr.cod W vf xs[kf].near ff ∧ W.cell? ⟨b2, off2 + p, none⟩ = some (.string xs[m + 1].near[p])) ⟨hbf, (hbf.cell (block_lt_of_cell d0)).trans d0, (hbf.cell (block_lt_of_cell d2)).trans d2, (hbf.cell (block_lt_of_cell hcq)).trans hcq, h2f, hsf, (hbf.cell (block_lt_of_cell hcp)).trans hcp⟩ ?_
                        clear g0 g1 h2f hsf
                        rintro W ⟨hW, w0, w2, wq, h2f, hsf, wp⟩
                        have e1 : decide ((kf : Int) < 0) = false := by simp
                        have gw0 := cell_regrown w0
                        have gw2 := cell_regrown w2
                        have gwq := cell_regrown wq
                        have gwp := cell_regrown wp
                        refine wp_region_mix (C := fun w' => ∃ p : Regrown, w' = Go.Sort.grow (redrawn W p.d) p.os) [true, true, true, true, true, true, true, true, true, true, true, true, true, true, true, true, true, true, true, true, true, true, true, true, true, true, true, true, true, true, true, true, true, true, true, true, true, false, true, true] (by kernel_rfl) (by kernel_rfl) (by kernel_rfl) (fun _ _ d _ _ h => by cases d <;> exact h) (regrown_of_below (Below.drew (Below.refl _ _))) ?_
                        have hS0 : Below (W.heap.size) W W.drew := Below.drew (Below.refl _ _)
                        refine wpMix_pure (by kernel_rfl) (fun K hK => ?_); go_big_quiet_op; refine hK _ ?_; clear hK K
                        refine wpMix_pure (by kernel_rfl) (fun K hK => ?_); go_big_quiet_op; refine hK _ ?_; clear hK K
                        refine wpMix_pure (by kernel_rfl) (fun K hK => ?_); go_big_quiet_op; refine hK _ ?_; clear hK K
                        refine wpMix_pure (by kernel_rfl) (fun K hK => ?_); go_big_quiet_op; refine hK _ ?_; clear hK K
                        refine wpMix_pure (by kernel_rfl) (fun K hK => ?_); go_big_quiet_op; refine hK _ ?_; clear hK K
                        by_cases hq5 : (kf : Int) = (m : Int) + 1
                        · skip
                          have e5 : ((kf : Int) == (m : Int) + 1) = true := by rw [beq_iff_eq]; exact hq5
                          refine wpMix_pure (by kernel_rfl) (fun K hK => ?_); go_big_quiet_op; refine hK _ ?_; clear hK K
                          refine wpMix_pure (by kernel_rfl) (fun K hK => ?_); go_big_quiet_op; refine hK _ ?_; clear hK K
                          refine wpMix_pure (by kernel_rfl) (fun K hK => ?_); go_big_quiet_op; refine hK _ ?_; clear hK K
                          refine wpMix_skip (by kernel_rfl) (fun K hK => ?_)
                          simp only [Act.put, List.setIfInBounds_toArray, List.set_cons_zero, List.set_cons_succ]
                          refine hK _ ?_; clear hK K
                          refine wpMix_skip (by kernel_rfl) (fun K hK => ?_)
                          simp only [Act.put, List.setIfInBounds_toArray, List.set_cons_zero, List.set_cons_succ]
                          refine hK _ ?_; clear hK K
                          refine wpMix_skip (by kernel_rfl) (fun K hK => ?_)
                          simp only [Act.put, List.setIfInBounds_toArray, List.set_cons_zero, List.set_cons_succ]
                          refine hK _ ?_; clear hK K
                          refine wpMix_skip (by kernel_rfl) (fun K hK => ?_)
                          simp only [Act.put, List.setIfInBounds_toArray, List.set_cons_zero, List.set_cons_succ]
                          refine hK _ ?_; clear hK K
                          refine wpMix_skip (by kernel_rfl) (fun K hK => ?_)
                          simp only [Act.put, List.setIfInBounds_toArray, List.set_cons_zero, List.set_cons_succ]
                          refine hK _ ?_; clear hK K
                          refine wpMix_skip (by kernel_rfl) (fun K hK => ?_)
                          simp only [Act.put, List.setIfInBounds_toArray, List.set_cons_zero, List.set_cons_succ]
                          refine hK _ ?_; clear hK K
                          refine wpMix_skip (by kernel_rfl) (fun K hK => ?_)
                          simp only [Act.put, List.setIfInBounds_toArray, List.set_cons_zero, List.set_cons_succ]
                          refine hK _ ?_; clear hK K
                          refine wpMix_skip (by kernel_rfl) (fun K hK => ?_)
                          simp only [Act.put, List.setIfInBounds_toArray, List.set_cons_zero, List.set_cons_succ]
                          refine hK _ ?_; clear hK K
                          refine wpMix_skip (by kernel_rfl) (fun K hK => ?_)
                          simp only [Act.put, List.setIfInBounds_toArray, List.set_cons_zero, List.set_cons_succ]
                          refine hK _ ?_; clear hK K
                          refine wpMix_skip (by kernel_rfl) (fun K hK => ?_)
                          simp only [Act.put, List.setIfInBounds_toArray, List.set_cons_zero, List.set_cons_succ]
                          refine hK _ ?_; clear hK K
                          refine wpMix_skip (by kernel_rfl) (fun K hK => ?_)
                          simp only [Act.put, List.setIfInBounds_toArray, List.set_cons_zero, List.set_cons_succ]
                          refine hK _ ?_; clear hK K
                          refine wpMix_skip (by kernel_rfl) (fun K hK => ?_)
                          simp only [Act.put, List.setIfInBounds_toArray, List.set_cons_zero, List.set_cons_succ]
                          refine hK _ ?_; clear hK K
                          refine wpMix_skip (by kernel_rfl) (fun K hK => ?_)
                          simp only [Act.put, List.setIfInBounds_toArray, List.set_cons_zero, List.set_cons_succ]
                          refine hK _ ?_; clear hK K
                          refine wpMix_skip (by kernel_rfl) (fun K hK => ?_)
                          simp only [Act.put, List.setIfInBounds_toArray, List.set_cons_zero, List.set_cons_succ]
                          refine hK _ ?_; clear hK K
                          refine wpMix_skip (by kernel_rfl) (fun K hK => ?_)
                          simp only [Act.put, List.setIfInBounds_toArray, List.set_cons_zero, List.set_cons_succ]
                          refine hK _ ?_; clear hK K
                          refine wpMix_skip (by kernel_rfl) (fun K hK => ?_)
                          simp only [Act.put, List.setIfInBounds_toArray, List.set_cons_zero, List.set_cons_succ]
                          refine hK _ ?_; clear hK K
                          refine wpMix_skip (by kernel_rfl) (fun K hK => ?_)
                          simp only [Act.put, List.setIfInBounds_toArray, List.set_cons_zero, List.set_cons_succ]
                          refine hK _ ?_; clear hK K
                          refine wpMix_skip (by kernel_rfl) (fun K hK => ?_)
                          simp only [Act.put, List.setIfInBounds_toArray, List.set_cons_zero, List.set_cons_succ]
                          refine hK _ ?_; clear hK K
                          refine wpMix_skip (by kernel_rfl) (fun K hK => ?_)
                          simp only [Act.put, List.setIfInBounds_toArray, List.set_cons_zero, List.set_cons_succ]
                          refine hK _ ?_; clear hK K
                          refine wpMix_skip (by kernel_rfl) (fun K hK => ?_)
                          simp only [Act.put, List.setIfInBounds_toArray, List.set_cons_zero, List.set_cons_succ]
                          refine hK _ ?_; clear hK K
                          refine wpMix_pure (by kernel_rfl) (fun K hK => ?_); go_big_quiet_op; refine hK _ ?_; clear hK K
                          refine wpMix_pure (by kernel_rfl) (fun K hK => ?_); go_big_quiet_op; refine hK _ ?_; clear hK K
                          refine wpMix_skip (by kernel_rfl) (fun K hK => ?_)
                          simp only [Act.put, List.setIfInBounds_toArray, List.set_cons_zero, List.set_cons_succ]
                          refine hK _ ?_; clear hK K
                          refine wpMix_skip (by kernel_rfl) (fun K hK => ?_)
                          simp only [Act.put, List.setIfInBounds_toArray, List.set_cons_zero, List.set_cons_succ]
                          refine hK _ ?_; clear hK K
                          refine wpMix_skip (by kernel_rfl) (fun K hK => ?_)
                          simp only [Act.put, List.setIfInBounds_toArray, List.set_cons_zero, List.set_cons_succ]
                          refine hK _ ?_; clear hK K
                          refine wpMix_skip (by kernel_rfl) (fun K hK => ?_)
                          simp only [Act.put, List.setIfInBounds_toArray, List.set_cons_zero, List.set_cons_succ]
                          refine hK _ ?_; clear hK K
                          refine wpMix_skip (by kernel_rfl) (fun K hK => ?_)
                          simp only [Act.put, List.setIfInBounds_toArray, List.set_cons_zero, List.set_cons_succ]
                          refine hK _ ?_; clear hK K
                          refine wpMix_skip (by kernel_rfl) (fun K hK => ?_)
                          simp only [Act.put, List.setIfInBounds_toArray, List.set_cons_zero, List.set_cons_succ]
                          refine hK _ ?_; clear hK K
                          refine wpMix_skip (by kernel_rfl) (fun K hK => ?_)
                          simp only [Act.put, List.setIfInBounds_toArray, List.set_cons_zero, List.set_cons_succ]
                          refine hK _ ?_; clear hK K
                          refine wpMix_skip (by kernel_rfl) (fun K hK => ?_)
                          simp only [Act.put, List.setIfInBounds_toArray, List.set_cons_zero, List.set_cons_succ]
                          refine hK _ ?_; clear hK K
                          refine wpMix_skip (by kernel_rfl) (fun K hK => ?_)
                          simp only [Act.put, List.setIfInBounds_toArray, List.set_cons_zero, List.set_cons_succ]
                          refine hK _ ?_; clear hK K
                          refine wpMix_pure (by kernel_rfl) (fun K hK => ?_); go_big_quiet_op; refine hK _ ?_; clear hK K
                          refine wpMix_nil ?_
                          have HN : Hid (nrOk xs xs[m + 1] (p + 1) = false) := by show _ = _; rw [nrOk_succ hqt, decide_eq_true (HS.1 (by omega))]; simp
                          have HZ : Hid (rgOk xs (m + 1) = false) := by show _ = _; rw [rgOk_at hlt, allIdx_bad hqt HN.out, Bool.and_false]
                          go_wp2
                          go_ret
                          exact ⟨ret_bool (by rw [regionsB_bad hlt HZ.out]), hbr.trans ((hW.mono hbr.size).trans (hS0.mono (Nat.le_trans hbr.size hW.size)))⟩
                        · skip
                          have e5 : ((kf : Int) == (m : Int) + 1) = false := by rw [beq_eq_false_iff_ne]; exact hq5
                          refine wpMix_pure (by kernel_rfl) (fun K hK => ?_); go_big_quiet_op; refine hK _ ?_; clear hK K
                          refine wpMix_pure (by kernel_rfl) (fun K hK => ?_); go_big_quiet_op; refine hK _ ?_; clear hK K
                          refine wpMix_pure (by kernel_rfl) (fun K hK => ?_); go_big_quiet_op; refine hK _ ?_; clear hK K
                          refine wpMix_pure (by kernel_rfl) (fun K hK => ?_); go_big_quiet_op; refine hK _ ?_; clear hK K
                          refine wpMix_pure (by kernel_rfl) (fun K hK => ?_); go_big_quiet_op; refine hK _ ?_; clear hK K
                          refine wpMix_pure (by kernel_rfl) (fun K hK => ?_); go_big_quiet_op; refine hK _ ?_; clear hK K
                          refine wpMix_pure (by kernel_rfl) (fun K hK => ?_); go_big_quiet_op; refine hK _ ?_; clear hK K
                          refine wpMix_pure (by kernel_rfl) (fun K hK => ?_); go_big_quiet_op; refine hK _ ?_; clear hK K
                          refine wpMix_pure (by kernel_rfl) (fun K hK => ?_); go_big_quiet_op; refine hK _ ?_; clear hK K
                          refine wpMix_pure (by kernel_rfl) (fun K hK => ?_); go_big_quiet_op; refine hK _ ?_; clear hK K
                          refine wpMix_pure (by kernel_rfl) (fun K hK => ?_); go_big_quiet_op; refine hK _ ?_; clear hK K
                          refine wpMix_pure (by kernel_rfl) (fun K hK => ?_); go_big_quiet_op; refine hK _ ?_; clear hK K
                          refine wpMix_pure (by kernel_rfl) (fun K hK => ?_); go_big_quiet_op; refine hK _ ?_; clear hK K
                          refine wpMix_pure (by kernel_rfl) (fun K hK => ?_); go_big_quiet_op; refine hK _ ?_; clear hK K
                          refine wpMix_pure (by kernel_rfl) (fun K hK => ?_); go_big_quiet_op; refine hK _ ?_; clear hK K
                          refine wpMix_pure (by kernel_rfl) (fun K hK => ?_); go_big_quiet_op; refine hK _ ?_; clear hK K
                          refine wpMix_pure (by kernel_rfl) (fun K hK => ?_); go_big_quiet_op; refine hK _ ?_; clear hK K
                          refine wpMix_pure (by kernel_rfl) (fun K hK => ?_); go_big_quiet_op; refine hK _ ?_; clear hK K
                          refine wpMix_pure (by kernel_rfl) (fun K hK => ?_); go_big_quiet_op; refine hK _ ?_; clear hK K
                          refine wpMix_pure (by kernel_rfl) (fun K hK => ?_); go_big_quiet_op; refine hK _ ?_; clear hK K
                          refine wpMix_pure (by kernel_rfl) (fun K hK => ?_); go_big_quiet_op; refine hK _ ?_; clear hK K
                          by_cases hq26 : ltS xs[m + 1].near[p] xs[m + 1].near[p + 1] = true
                          · skip
                            have e26 : Op.bytesLess xs[m + 1].near[p].toList xs[m + 1].near[p + 1].toList = true := hq26
                            refine wpMix_pure (by kernel_rfl) (fun K hK => ?_); go_big_quiet_op; refine hK _ ?_; clear hK K
                            refine wpMix_pure (by kernel_rfl) (fun K hK => ?_); go_big_quiet_op; refine hK _ ?_; clear hK K
                            refine wpMix_pure (by kernel_rfl) (fun K hK => ?_); go_big_quiet_op; refine hK _ ?_; clear hK K
                            refine wpMix_pure (by kernel_rfl) (fun K hK => ?_); go_big_quiet_op; refine hK _ ?_; clear hK K
                            refine wpMix_pure (by kernel_rfl) (fun K hK => ?_); go_big_quiet_op; refine hK _ ?_; clear hK K
                            refine wpMix_pure (by kernel_rfl) (fun K hK => ?_); go_big_quiet_op; refine hK _ ?_; clear hK K
                            refine wpMix_pure (by kernel_rfl) (fun K hK => ?_); go_big_quiet_op; refine hK _ ?_; clear hK K
                            refine wpMix_pure (by kernel_rfl) (fun K hK => ?_); go_big_quiet_op; refine hK _ ?_; clear hK K
                            refine wpMix_pure (by kernel_rfl) (fun K hK => ?_); go_big_quiet_op; refine hK _ ?_; clear hK K
                            refine wpMix_pure (by kernel_rfl) (fun K hK => ?_); go_big_quiet_op; refine hK _ ?_; clear hK K
                            refine wpMix_pure (by kernel_rfl) (fun K hK => ?_); go_big_quiet_op; refine hK _ ?_; clear hK K
                            refine wpMix_act (by kernel_rfl) (fun K hK => ?_)
                            go_big_op
                            refine (l18Near_any b (off + kf * 3) _ _ _ xs[m + 1].id _ ((hS0.cell (block_lt_of_cell h2f)).trans h2f) (hsf.below' hS0)).mono ?_
                            rintro e w' ⟨rfl, rfl⟩
                            refine hK _ _ (regrown_of_below hS0) ?_
                            clear hK K
                            cases hq37 : memS xs[m + 1].id xs[kf].near
                            · skip
                              refine wpMix_pure (by kernel_rfl) (fun K hK => ?_); go_big_quiet_op; refine hK _ ?_; clear hK K
                              refine wpMix_pure (by kernel_rfl) (fun K hK => ?_); go_big_quiet_op; refine hK _ ?_; clear hK K
                              refine wpMix_nil ?_
                              have HN : Hid (nrOk xs xs[m + 1] (p + 1) = false) := by show _ = _; rw [nrOk_succ hqt, HI.out, hq37, Bool.and_false]
                              have HZ : Hid (rgOk xs (m + 1) = false) := by show _ = _; rw [rgOk_at hlt, allIdx_bad hqt HN.out, Bool.and_false]
                              go_wp2
                              go_ret
                              exact ⟨ret_bool (by rw [regionsB_bad hlt HZ.out]), hbr.trans ((hW.mono hbr.size).trans (hS0.mono (Nat.le_trans hbr.size hW.size)))⟩
                            · skip
                              refine wpMix_pure (by kernel_rfl) (fun K hK => ?_); go_big_quiet_op; refine hK _ ?_; clear hK K
                              refine wpMix_pure (by kernel_rfl) (fun K hK => ?_); go_big_quiet_op; refine hK _ ?_; clear hK K
                              refine wpMix_nil ?_
                              have HN : Hid (nrOk xs xs[m + 1] (p + 1) = true) := by show _ = _; rw [nrOk_succ hqt, HI.out, hq37, hq26, decide_eq_false (fun e => hq5 (by have := HS.2 e; omega))]; rfl
                              go_wp2
                              go_roundw
                              case rel => exact ⟨p + 1 + 1, by omega, by go_num, allIdx_step G0.out HN.out, hbi.trans ((hW.mono hbi.size).trans (hS0.mono (Nat.le_trans hbi.size hW.size)))⟩
                              case measure => simp [intOf]; omega
                          · skip
                            have e26 : Op.bytesLess xs[m + 1].near[p].toList xs[m + 1].near[p + 1].toList = false := by simpa [ltS] using hq26
                            refine wpMix_pure (by kernel_rfl) (fun K hK => ?_); go_big_quiet_op; refine hK _ ?_; clear hK K
                            refine wpMix_pure (by kernel_rfl) (fun K hK => ?_); go_big_quiet_op; refine hK _ ?_; clear hK K
                            refine wpMix_pure (by kernel_rfl) (fun K hK => ?_); go_big_quiet_op; refine hK _ ?_; clear hK K
                            refine wpMix_pure (by kernel_rfl) (fun K hK => ?_); go_big_quiet_op; refine hK _ ?_; clear hK K
                            refine wpMix_skip (by kernel_rfl) (fun K hK => ?_)
                            simp only [Act.put, List.setIfInBounds_toArray, List.set_cons_zero, List.set_cons_succ]
                            refine hK _ ?_; clear hK K
                            refine wpMix_skip (by kernel_rfl) (fun K hK => ?_)
                            simp only [Act.put, List.setIfInBounds_toArray, List.set_cons_zero, List.set_cons_succ]
                            refine hK _ ?_; clear hK K
                            refine wpMix_skip (by kernel_rfl) (fun K hK => ?_)
                            simp only [Act.put, List.setIfInBounds_toArray, List.set_cons_zero, List.set_cons_succ]
                            refine hK _ ?_; clear hK K
                            refine wpMix_skip (by kernel_rfl) (fun K hK => ?_)
                            simp only [Act.put, List.setIfInBounds_toArray, List.set_cons_zero, List.set_cons_succ]
                            refine hK _ ?_; clear hK K
                            refine wpMix_skip (by kernel_rfl) (fun K hK => ?_)
                            simp only [Act.put, List.setIfInBounds_toArray, List.set_cons_zero, List.set_cons_succ]
                            refine hK _ ?_; clear hK K
                            refine wpMix_skip (by kernel_rfl) (fun K hK => ?_)
                            simp only [Act.put, List.setIfInBounds_toArray, List.set_cons_zero, List.set_cons_succ]
                            refine hK _ ?_; clear hK K
                            refine wpMix_skip (by kernel_rfl) (fun K hK => ?_)
                            simp only [Act.put, List.setIfInBounds_toArray, List.set_cons_zero, List.set_cons_succ]
                            refine hK _ ?_; clear hK K
                            refine wpMix_skip (by kernel_rfl) (fun K hK => ?_)
                            simp only [Act.put, List.setIfInBounds_toArray, List.set_cons_zero, List.set_cons_succ]
                            refine hK _ ?_; clear hK K
                            refine wpMix_skip (by kernel_rfl) (fun K hK => ?_)
                            simp only [Act.put, List.setIfInBounds_toArray, List.set_cons_zero, List.set_cons_succ]
                            refine hK _ ?_; clear hK K
                            refine wpMix_pure (by kernel_rfl) (fun K hK => ?_); go_big_quiet_op; refine hK _ ?_; clear hK K
                            refine wpMix_nil ?_
                            have HN : Hid (nrOk xs xs[m + 1] (p + 1) = false) := by show _ = _; rw [nrOk_succ hqt, Bool.eq_false_iff.2 hq26]; rfl
                            have HZ : Hid (rgOk xs (m + 1) = false) := by show _ = _; rw [rgOk_at hlt, allIdx_bad hqt HN.out, Bool.and_false]
                            go_wp2
                            go_ret
                            exact ⟨ret_bool (by rw [regionsB_bad hlt HZ.out]), hbr.trans ((hW.mono hbr.size).trans (hS0.mono (Nat.le_trans hbr.size hW.size)))⟩
                  · have HN := Lib.hid (allIdx_full (by omega) hq G0.out)
                    have HZ : Hid (rgOk xs (m + 1) = true) := by show _ = _; rw [rgOk_at hlt, HH.out, HN.out]; rfl
                    go_wp2
                    go_roundw
                    case rel => exact ⟨m + 1 + 1, by omega, by go_num, allIdx_step H0.out HZ.out, hbr⟩
                    case measure => simp [intOf]; omega
              · skip
                have e20 : Op.bytesLess xs[m].id.toList xs[m + 1].id.toList = false := by simpa [ltS] using hq28
                refine wpMix_pure (by kernel_rfl) (fun K hK => ?_); go_big_quiet_op; refine hK _ ?_; clear hK K
                refine wpMix_pure (by kernel_rfl) (fun K hK => ?_); go_big_quiet_op; refine hK _ ?_; clear hK K
                refine wpMix_pure (by kernel_rfl) (fun K hK => ?_); go_big_quiet_op; refine hK _ ?_; clear hK K
                refine wpMix_nil ?_
                have HZ : Hid (rgOk xs (m + 1) = false) := by show _ = _; rw [rgOk_at hlt, rgHead_succ hlt]; simp [*]
                go_wp2
                go_ret
                exact ⟨ret_bool (by rw [regionsB_bad hlt HZ.out]), hb.trans (hS0.mono hb.size)⟩
      · have HF := Lib.hid (allIdx_full (by omega) hk H0.out)
        go_wp2
        go_ret
        exact ⟨ret_bool (by rw [regionsB_full hle HF.out]), hb⟩
  · go_enter Tryz.func27, Tryz.ntmps27
    go_wp2
    go_ret
    exact ⟨ret_bool (by rw [regionsB_long hle]), Below.refl _ _⟩
end Go.Proofs.YtgnbhcgagdfaiaaGreatDoor
