/- PagesOf of the spec. Written by wip/gen/pp.py. -/
import Derived.Test.YthejcbhplgjmgaaPg
import Derived.Test.YthejcbhplgjmgaaTk
import Derived.Test.YthejcbhplgjmgaaLn
import Derived.Test.YthejcbhplgjmgaaNm
import Derived.Test.YthejcbhplgjmgaaTStringSS
import Derived.Deep.AppendLies
namespace Go.Proofs.Ythejcbhplgjmgaa
open Go.RowKit
set_option linter.unusedVariables false

theorem infoStrP : (Try.prog.info? 9).map (fun i => (i.zero, i.size, i.bytes)) = some (some (.string ⟨#[]⟩), 1, 16) := by kernel_rfl
def pgOk (h : Int) (hd : ByteArray) : Bool := inB h 2 200 && lineB hd
def pgC (xs : List ByteArray) (h : Int) (hd : ByteArray) : Int := if linesB xs then (if pgOk h hd then 0 else 2) else 1
def pgF (xs : List ByteArray) (h : Int) (hd : ByteArray) : List (List ByteArray) := if linesB xs && pgOk h hd then pgAll (h.toNat - 1) hd xs else []
theorem pg_bad1 {xs : List ByteArray} {h : Int} {hd : ByteArray} (h0 : linesB xs = false) : pgC xs h hd = 1 ∧ pgF xs h hd = [] := by unfold pgC pgF; rw [h0]; exact ⟨rfl, rfl⟩
theorem pg_bad2 {xs : List ByteArray} {h : Int} {hd : ByteArray} (h0 : linesB xs = true) (h1 : pgOk h hd = false) : pgC xs h hd = 2 ∧ pgF xs h hd = [] := by unfold pgC pgF; rw [h0, h1]; exact ⟨rfl, rfl⟩
theorem pg_good {xs : List ByteArray} {h : Int} {hd : ByteArray} (h0 : linesB xs = true) (h1 : pgOk h hd = true) : pgC xs h hd = 0 ∧ pgF xs h hd = pgAll (h.toNat - 1) hd xs := by unfold pgC pgF; rw [h0, h1]; exact ⟨rfl, rfl⟩
theorem linesB_parts {xs : List ByteArray} (h : linesB xs = true) : xs.length ≤ 200 ∧ ∀ x ∈ xs, x.size ≤ 100 := by
  unfold linesB at h
  rw [Bool.and_eq_true, decide_eq_true_eq, List.all_eq_true] at h
  refine ⟨h.2, fun x hx => ?_⟩
  have := h.1 x hx
  unfold lineB at this
  rw [Bool.and_eq_true, decide_eq_true_eq] at this
  exact this.2
theorem PgV.cell {w : World} {B n g cap : Nat} {V : Nat → Value} {X : Nat → List ByteArray} {G : Nat → Nat} (h : PgV w B (.slice (some ⟨g, 0, none⟩) n cap) n V X G) {i : Nat} (hi : i < n) : w.cell? ⟨g, i, none⟩ = some (V i) := by
  rw [h.own.cellAt i (by omega), List.getElem?_map, List.getElem?_range hi]; rfl
theorem PgV.frz {w : World} {B n g cap : Nat} {V : Nat → Value} {X : Nat → List ByteArray} {G : Nat → Nat} (h : PgV w B (.slice (some ⟨g, 0, none⟩) n cap) n V X G) (i : Nat) : w.frozen? ⟨g, i, none⟩ = false := h.own.frozenAt i
theorem pg_ok {m k : Nat} {hd : ByteArray} {xs : List ByteArray} (hx : ∀ x ∈ xs, x.size ≤ 100) (hh : hd.size ≤ 100) (j : Nat) : ∀ x ∈ hd :: pgAt m (xs.take k) j, fStr.ok x := by
  intro x hx'
  have hs : x.size ≤ 100 := by
    rcases List.mem_cons.1 hx' with rfl | hx'
    · exact hh
    · exact hx x (List.mem_of_mem_take (List.mem_of_mem_drop (List.mem_of_mem_take hx')))
  show x.size ≤ _
  omega
set_option maxRecDepth 100000 in
set_option maxHeartbeats 8000000 in
theorem specPagesOf_any (v : Value) (xs : List ByteArray) (fp : List Nat) (h : Int) (hd : ByteArray) (w : World) (hx : Sl fStr.cod w v xs fp) (hhd : hd.size ≤ 9223372036854775807) :
    Calls Try.prog 14 #[v, .int .i64 h, .string hd] w fun e w' => NewR2 fStr.cod.slice w (pgF xs h hd) (pgC xs h hd) e w' := by
  obtain ⟨A, cap, rfl, hle, hca⟩ := hx.form
  obtain ⟨i0, hi, hz0, hz1, hz2⟩ := info_parts infoSliceR
  obtain ⟨j0, hj, hy0, hy1, hy2⟩ := info_parts infoStrP
  have hlt0 := hx.lt
  go_enter Try.func14, Try.ntmps14
  go_wp2_with fail
  refine (l30Ok_any _ _ _ _ hx).mono ?_
  rintro e w' ⟨rfl, rfl⟩
  cases h0 : linesB xs
  · obtain ⟨hc, hf⟩ := pg_bad1 (h := h) (hd := hd) h0
    clear h0
    go_wp2
    go_ret2
    exact ⟨_, by rw [hc]; rfl, by rw [hf]; exact New.nil (Below.refl _ _)⟩
  · have hbad2 := fun h1 => pg_bad2 (xs := xs) (h := h) (hd := hd) h0 h1
    have hgood := fun h1 => pg_good (xs := xs) (h := h) (hd := hd) h0 h1
    obtain ⟨hl200, hx100⟩ := linesB_parts h0
    clear h0
    go_wp2_with fail
    refine (l00InB_any h 2 200 _).mono ?_
    rintro e w' ⟨rfl, rfl⟩
    cases h1 : inB h 2 200
    · obtain ⟨hc, hf⟩ := hbad2 (by unfold pgOk; rw [h1]; rfl)
      clear h1 hbad2 hgood
      go_wp2
      go_ret2
      exact ⟨_, by rw [hc]; rfl, by rw [hf]; exact New.nil (Below.refl _ _)⟩
    · have h1b := inB_true.1 h1
      go_wp2_with fail
      refine (l30Line_any hd _ hhd).mono ?_
      rintro e w' ⟨rfl, rfl⟩
      cases h2 : lineB hd
      · obtain ⟨hc, hf⟩ := hbad2 (by unfold pgOk; rw [h1, h2]; rfl)
        clear h1 hbad2 hgood
        go_wp2
        go_ret2
        exact ⟨_, by rw [hc]; rfl, by rw [hf]; exact New.nil (Below.refl _ _)⟩
      · obtain ⟨hc, hf⟩ := hgood (by unfold pgOk; rw [h1, h2]; rfl)
        have hh100 : hd.size ≤ 100 := by unfold lineB at h2; rw [Bool.and_eq_true, decide_eq_true_eq] at h2; exact h2.2
        obtain ⟨m, hm⟩ : ∃ m : Nat, h = (m : Int) + 1 := ⟨h.toNat - 1, by omega⟩
        subst hm
        have hm0 : 0 < m := by omega
        have hm2 : m ≤ 199 := by omega
        rw [show ((m : Int) + 1).toNat - 1 = m by omega] at hf
        have HC := Lib.hid hc
        have HF := Lib.hid hf
        clear hc hf hbad2 hgood h1 h2
        go_wp2
        have hO0 : World.ownsRow (w.alloc (.cells #[] 54)) w.heap.size 54 1 (.slice (some ⟨w.heap.size, 0, none⟩) 0 0) 0 [] := (Own.lit0m fStr (Nat.le_refl _) : Own fStr _ _ 54 _ [])
        go_loopw [8, 9, 10] (fun v i nn wr => ∃ (k : Nat) (V : Nat → Value) (G : Nat → Nat), k ≤ xs.length ∧ i = .int .i64 k ∧ PgV wr w.heap.size v (pgN m k) V (fun j => hd :: pgAt m (xs.take k) j) G ∧ Below w.heap.size w wr) (fun _ i _ _ => xs.length - (intOf i).toNat)
        case atStart => exact ⟨0, _, _, Nat.zero_le _, rfl, by rw [pgN_zero hm0]; exact (PgV.nil (c := 0) hO0).congr (fun i hi => absurd hi (Nat.not_lt_zero i)), (Below.refl _ _).alloc (Nat.le_refl _) _⟩
        case round =>
          obtain ⟨k, V, G, hk, rfl, hp, hb⟩ := hrel
          have hBs := hb.size
          by_cases hlt : k < xs.length
          · obtain ⟨b, off, rfl, hbm, hok, hcl, _⟩ := (hx.below' hb).cell1 rfl hlt rfl
            have hbw := hlt0 b hbm
            obtain ⟨q, r, hqr, hr⟩ : ∃ q r, k = q * m + r ∧ r < m := ⟨k / m, k % m, by rw [Nat.mul_comm]; exact (Nat.div_add_mod k m).symm, Nat.mod_lt _ hm0⟩
            have hq : q ≤ k := by rw [hqr]; exact Nat.le_trans (Nat.le_mul_of_pos_right q hm0) (Nat.le_add_right _ _)
            by_cases hr0 : r = 0
            · -- a new page
              subst hr0
              rw [Nat.add_zero] at hqr
              obtain ⟨hN, hN1⟩ := pgN_full hm0 hqr
              rw [hN] at hp
              have hfirst := pgAt_first hqr hm0 hlt
              have hold : ∀ j, j < q → hd :: pgAt m (xs.take k) j = hd :: pgAt m (xs.take (k + 1)) j := fun j hj => by
                have : (j + 1) * m ≤ q * m := Nat.mul_le_mul_right _ hj
                rw [pgAt_take_old (k' := k + 1) (by omega) (by omega)]
              have HOLD := Lib.hid hold
              have HFI := Lib.hid hfirst
              have HN1 := Lib.hid hN1
              clear hold hfirst hN1 hN
              by_cases hq0 : q = 0
              · subst hq0
                obtain ⟨Av, cv, rfl⟩ := hp.form
                have hpA : PgV ((wr.alloc (.cells #[.string hd] 9)).alloc (.cells #[.slice (some ⟨wr.heap.size, 0, none⟩) 1 1] 54)) w.heap.size (.slice Av 0 cv) 0 V (fun j => hd :: pgAt m (xs.take k) j) G := (hp.below ((Below.refl _ _).alloc (Nat.le_refl _) _)).below ((Below.refl _ _).alloc (Nat.le_refl _) _)
                have hyA : Own fStr ((wr.alloc (.cells #[.string hd] 9)).alloc (.cells #[.slice (some ⟨wr.heap.size, 0, none⟩) 1 1] 54)) w.heap.size 9 (.slice (some ⟨wr.heap.size, 0, none⟩) 1 1) [hd] := World.ownsRow.alloc (World.ownsRow_lit (e := 9) (size := 1) wr #[.string hd] 1 hBs (by decide) rfl) _
                have hbA : Below w.heap.size w ((wr.alloc (.cells #[.string hd] 9)).alloc (.cells #[.slice (some ⟨wr.heap.size, 0, none⟩) 1 1] 54)) := (hb.alloc hBs _).alloc (by rw [World.size_alloc]; omega) _
                have hvy : ((.slice Av 0 cv) : Value).ownBlock ≠ some wr.heap.size := fun e => by have := (hp.own.lt _ e).2; omega
                have hnw : ∀ (j : Nat) (u : Value), [(.slice (some ⟨wr.heap.size, 0, none⟩) 1 1 : Value)][j]? = some u → ((wr.alloc (.cells #[.string hd] 9)).alloc (.cells #[.slice (some ⟨wr.heap.size, 0, none⟩) 1 1] 54)).cell? ((⟨wr.heap.size + 1, 0, none⟩ : Addr).add j) = some u := fun j u hj => by
                  match j, hj with
                  | 0, hj => injection hj with hj; subst hj; simp [Addr.add]
                  | j + 1, hj => simp at hj
                obtain ⟨LV, hLV⟩ : ∃ LV : List Value, LV = (List.range (0)).map V := ⟨_, rfl⟩
                have hown0 := hpA.own
                rw [← hLV] at hown0
                have HLV := Lib.hid hLV
                clear hLV hqr
                have hGy : ∀ i, i < 0 → G i ≠ wr.heap.size := fun i hi e => by have := (hp.gl hi).2; omega
                go_wp2_with (at_builtin; refine wpList_append_lies _ rfl _ _ 56 rfl w.heap.size 54 i0 (.slice none 0 0) 1 24 Try.underlying56 hi hz0 hz1 hz2 rfl (by decide) (.slice Av 0 cv) 0 _ rfl hown0 _ 1 1 [.slice (some ⟨wr.heap.size, 0, none⟩) 1 1] rfl rfl hnw (by intro u hu; rw [List.mem_singleton] at hu; subst hu; rfl) (by decide) (by unfold maxLen; omega) (by omega) (by simp; omega) (wr.heap.size + 2) (by simp) ?_)
                intro g5 c5 w5 hown5 hgr5 hat5 hlt5
                rw [HLV.out] at hown5
                clear hown0 HLV hnw
                have hl5 : (Value.slice (some ⟨g5, 0, none⟩) (0 + 1) c5).ownBlock = ((.slice Av 0 cv) : Value).ownBlock ∨ (Value.slice (some ⟨g5, 0, none⟩) (0 + 1) c5).ownBlock = some (((wr.alloc (.cells #[.string hd] 9)).alloc (.cells #[.slice (some ⟨wr.heap.size, 0, none⟩) 1 1] 54))).heap.size := by
                  rcases hat5 with e | e
                  · exact .inl e.symm
                  · refine .inr ?_
                    show some g5 = _
                    rw [e]; simp
                have hp2 := hpA.push hyA rfl hGy hvy hown5 hgr5 hl5
                have hbW : Below w.heap.size w w5 := hbA.grown hgr5 (by simp; omega) (fun k hk => (hp.own.lt k hk).1)
                have hbWs := hbW.size
                have hcl5 : w5.cell? ⟨b, off + k, none⟩ = some (.string xs[k]) := ((hbW.cell (p := ⟨b, off + k, none⟩) hbw).trans (hb.cell (p := ⟨b, off + k, none⟩) hbw).symm).trans hcl
                have hyf : (fun i => if i = 0 then (.slice (some ⟨wr.heap.size, 0, none⟩) 1 1 : Value) else V i) 0 = .slice (some ⟨wr.heap.size, 0, none⟩) 1 1 := if_pos rfl
                have hL : ((fun i => if i = 0 then [hd] else hd :: pgAt m (xs.take k) i) 0).length = 1 := by simp
                have hXn : ∀ i, i < 0 + 1 → (if i = 0 then (fun i => if i = 0 then [hd] else hd :: pgAt m (xs.take k) i) 0 ++ [xs[k]] else (fun i => if i = 0 then [hd] else hd :: pgAt m (xs.take k) i) i) = hd :: pgAt m (xs.take (k + 1)) i := fun i hi => by
                  by_cases e : i = 0
                  · subst e; simp [HFI.out]
                  · rw [if_neg e]
                    show (if i = 0 then _ else _) = _
                    rw [if_neg e]; exact HOLD.out i (by omega)
                generalize (fun i => if i = 0 then (.slice (some ⟨wr.heap.size, 0, none⟩) 1 1 : Value) else V i) = V2 at hp2 hyf
                generalize (fun i => if i = 0 then [hd] else hd :: pgAt m (xs.take k) i) = X2 at hp2 hL hXn
                generalize (fun i => if i = 0 then wr.heap.size else G i) = G2 at hp2
                have hg5B : w.heap.size ≤ g5 ∧ g5 < w5.heap.size := hp2.own.lt g5 rfl
                have HXN := Lib.hid hXn
                clear hpA hyA hbA hvy hGy hown5 hgr5 hat5 hl5 hp hcl hXn HFI HOLD
                generalize wr.heap.size = gy at *
                clear hlt5 hb hBs
                go_wp2
                have hcv : w5.drew.cell? ⟨g5, 0, none⟩ = some (.slice (some ⟨gy, 0, none⟩) 1 1) := (hp2.cell (i := 0) (by omega)).trans (by rw [hyf])
                have hclw : w5.cell? ⟨b, off + k, none⟩ = some (.string xs[k]) := hcl5
                have gv : ∀ p : KeptW (w.heap.size) w5 (fun N => N.cell? ⟨g5, 0, none⟩ = some (.slice (some ⟨gy, 0, none⟩) 1 1)), p.v.cell? ⟨g5, 0, none⟩ = some (.slice (some ⟨gy, 0, none⟩) 1 1) := fun p => p.x
                have glc : ∀ p : KeptW (w.heap.size) w5 (fun N => N.cell? ⟨g5, 0, none⟩ = some (.slice (some ⟨gy, 0, none⟩) 1 1)), p.v.cell? ⟨b, off + k, none⟩ = some (.string xs[k]) := fun p => (p.below.cell (p := ⟨b, off + k, none⟩) hbw).trans hclw
                haveI hKne : Nonempty (KeptW (w.heap.size) w5 (fun N => N.cell? ⟨g5, 0, none⟩ = some (.slice (some ⟨gy, 0, none⟩) 1 1))) := ⟨⟨_, Below.drew (Below.refl _ _), hcv⟩⟩
                refine wp_region_sink (C := fun w' => ∃ p : KeptW (w.heap.size) w5 (fun N => N.cell? ⟨g5, 0, none⟩ = some (.slice (some ⟨gy, 0, none⟩) 1 1)), w' = p.v) [0, 1, 2, 3, 4, 5, 6, 7, 8, 9, 10, 11, 12, 13, 14, 15] [true, true, true, true, true, true, true, true, true, true, true, true, false, false, true, false] 15 (by kernel_rfl) (by kernel_rfl) (by kernel_rfl) (fun _ _ d _ _ h => by cases d <;> exact h) ⟨⟨_, Below.drew (Below.refl _ _), hcv⟩, rfl⟩ ?_
                simp only [List.map_cons, List.map_nil, List.getD_cons_zero, List.getD_cons_succ]
                have hS0 : Below (w.heap.size) w5 w5.drew := Below.drew (Below.refl _ _)
                refine wpMixS_pure (by kernel_rfl) (fun K hK => ?_)
                go_big_quiet_op
                refine hK _ ?_; clear hK K
                refine wpMixS_pure (by kernel_rfl) (fun K hK => ?_)
                go_big_quiet_op
                refine hK _ ?_; clear hK K
                refine wpMixS_pure (by kernel_rfl) (fun K hK => ?_)
                go_big_quiet_op
                refine hK _ ?_; clear hK K
                refine wpMixS_pure (by kernel_rfl) (fun K hK => ?_)
                go_big_quiet_op
                refine hK _ ?_; clear hK K
                refine wpMixS_pure (by kernel_rfl) (fun K hK => ?_)
                go_big_quiet_op
                refine hK _ ?_; clear hK K
                refine wpMixS_pure (by kernel_rfl) (fun K hK => ?_)
                go_big_quiet_op
                refine hK _ ?_; clear hK K
                refine wpMixS_pure (by kernel_rfl) (fun K hK => ?_)
                go_big_quiet_op
                refine hK _ ?_; clear hK K
                refine wpMixS_pure (by kernel_rfl) (fun K hK => ?_)
                go_big_quiet_op
                refine hK _ ?_; clear hK K
                refine wpMixS_pure (by kernel_rfl) (fun K hK => ?_)
                go_big_quiet_op
                refine hK _ ?_; clear hK K
                refine wpMixS_pure (by kernel_rfl) (fun K hK => ?_)
                go_big_quiet_op
                refine hK _ ?_; clear hK K
                refine wpMixS_pure (by kernel_rfl) (fun K hK => ?_)
                go_big_quiet_op
                refine hK _ ?_; clear hK K
                refine wpMixS_pure (by kernel_rfl) (fun K hK => ?_)
                go_big_quiet_op
                refine hK _ ?_; clear hK K
                refine wpMixS_act (by kernel_rfl) (fun K hK => ?_)
                go_big_op
                refine hK _ _ ⟨⟨_, (hS0.alloc (Nat.le_trans hbWs hS0.size) _), ((((Below.refl _ _).alloc (Nat.le_refl _) _).cell (p := ⟨g5, 0, none⟩) hg5B.2).trans hcv)⟩, rfl⟩ ?_
                clear hK K
                refine mixS_world (fun N => Below (w.heap.size) w5 N ∧ N.cell? ⟨w5.drew.heap.size, 0, none⟩ = some (.string xs[k]) ∧ PgV N w.heap.size (.slice (some ⟨g5, 0, none⟩) (0 + 1) c5) (0 + 1) V2 X2 G2) ⟨hS0.alloc (Nat.le_trans hbWs hS0.size) _, ⟨by simp, (hp2.below (Below.drew (Below.refl _ _))).below ((Below.refl _ _).alloc (Nat.le_refl _) _)⟩⟩ ?_
                rintro wr1 ⟨hbr1S, hbr1F⟩
                refine wpMixS_act (by kernel_rfl) (fun K hK => ?_)
                obtain ⟨q0, hpN⟩ := hbr1F
                have hyo : wr1.ownsRow w.heap.size 9 1 (.slice (some ⟨gy, 0, none⟩) 1 1) 1 ((X2 (0)).flatMap fStr.enc) := by have := hpN.row (0) (by omega); rw [hyf] at this; unfold Own at this; rw [hL] at this; exact this
                have hgyG : G2 (0) = gy := by have := hpN.blk (0) (by omega); rw [hyf] at this; injection this with this; exact this.symm
                have hgne : g5 ≠ gy := fun e => hpN.ap (0) (by omega) (by rw [hgyG, ← e]; rfl)
                have hg5N : g5 < wr1.heap.size := Nat.lt_of_lt_of_le hg5B.2 hbr1S.size
                have hcN := hpN.cell (i := 0) (by omega)
                have hfN := hpN.frz (0)
                rw [hyf] at hcN
                refine wp_append_at2 _ _ _ 54 rfl w.heap.size 9 j0 (.string ⟨#[]⟩) 1 16 Try.underlying54 hj hy0 hy1 hy2 rfl (by decide) (.slice (some ⟨gy, 0, none⟩) 1 1) (1) _ rfl hyo [.string xs[k]] rfl (by intro u hu; rw [List.mem_singleton] at hu; subst hu; rfl) w5.heap.size rfl (by intro j u hj; match j, hj with | 0, hj => (injection hj with hj; subst hj; exact q0) | j + 1, hj => (simp at hj)) (by omega) (by decide) (Nat.le_trans hbWs hbr1S.size) ?_
                intro v' u hown hbu hgr hvl
                have hy' : Own fStr u w.heap.size 9 v' (X2 (0) ++ [xs[k]]) := Own.push _ (by rw [hL]) hown
                clear hown
                have hl2 : (X2 (0) ++ [xs[k]]).length = 2 := by rw [List.length_append, hL]; rfl
                obtain ⟨Ay, cy2, he2⟩ := hy'.form
                rw [hl2] at he2
                subst he2
                have hpu : u.cell? ⟨g5, 0, none⟩ = some (.slice (some ⟨gy, 0, none⟩) 1 1) := (World.cell?_of_block (a := ⟨g5, 0, none⟩) (hgr.block g5 hg5N (fun e => hgne (by injection e)))).trans hcN
                have hfu : u.frozen? ⟨g5, 0, none⟩ = false := (World.frozen?_of_block (a := ⟨g5, 0, none⟩) (hgr.block g5 hg5N (fun e => hgne (by injection e)))).trans hfN
                have hbuS : Below (w.heap.size) w5 u := hbr1S.trans hbu
                try simp only [Act.put, List.setIfInBounds_toArray, List.set_cons_zero, List.set_cons_succ]
                refine hK _ _ ⟨⟨_, hbuS, hpu⟩, rfl⟩ ?_
                clear hK K
                refine wpMixS_pure (by kernel_rfl) (fun K hK => ?_)
                go_big_quiet_op
                refine hK _ ?_; clear hK K
                refine wpMixS_last (by kernel_rfl) (fun K hK => ?_)
                go_big_op
                try simp only [Act.put, List.setIfInBounds_toArray, List.set_cons_zero, List.set_cons_succ]
                refine hK _ _ ?_
                clear hK K
                obtain ⟨gy2, hgy2⟩ : ∃ g' : Nat, (Value.slice Ay (2) cy2).ownBlock = some g' := by rcases hvl with e | e <;> exact ⟨_, e⟩
                have hp8 := (hpN.grow hy' hgy2 (by rw [hyf]; exact hgr) (by rw [hyf]; exact hvl)).congr HXN.out
                have hB9 : Below w.heap.size w (u.setCell ⟨g5, 0, none⟩ (.slice Ay (2) cy2)) := (hbW.trans hbuS).setCell (p := ⟨g5, 0, none⟩) hg5B.1 _
                clear hy' hvl hgr hpu hfu hpN hyo hcN hfN q0 gv glc
                go_wp2
                go_roundw
                case rel => exact ⟨k + 1, _, _, by omega, by go_num, by rw [HN1.out]; exact hp8, hB9⟩
                case measure => simp [intOf]; omega
              · obtain ⟨n', rfl⟩ : ∃ n', q = n' + 1 := ⟨q - 1, by omega⟩
                obtain ⟨g, cv, rfl, hgB, hgl⟩ := hp.addr (by omega)
                have ccv := hp.cell (i := n') (by omega)
                obtain ⟨A2, c2, hV⟩ := (hp.row n' (by omega)).form
                have hlen : (hd :: pgAt m (xs.take k) n').length = m + 1 := by
                  rw [List.length_cons, pgAt_len (r := m) (by rw [hqr, Nat.succ_mul]) (Nat.le_refl _) (by omega)]
                rw [hV, hlen] at ccv
                clear hV
                have en : (((n' + 1 : Nat) : Int) == 0) = false := by rw [beq_eq_false_iff_ne]; omega
                have hpA : PgV ((wr.alloc (.cells #[.string hd] 9)).alloc (.cells #[.slice (some ⟨wr.heap.size, 0, none⟩) 1 1] 54)) w.heap.size (.slice (some ⟨g, 0, none⟩) (n' + 1) cv) (n' + 1) V (fun j => hd :: pgAt m (xs.take k) j) G := (hp.below ((Below.refl _ _).alloc (Nat.le_refl _) _)).below ((Below.refl _ _).alloc (Nat.le_refl _) _)
                have hyA : Own fStr ((wr.alloc (.cells #[.string hd] 9)).alloc (.cells #[.slice (some ⟨wr.heap.size, 0, none⟩) 1 1] 54)) w.heap.size 9 (.slice (some ⟨wr.heap.size, 0, none⟩) 1 1) [hd] := World.ownsRow.alloc (World.ownsRow_lit (e := 9) (size := 1) wr #[.string hd] 1 hBs (by decide) rfl) _
                have hbA : Below w.heap.size w ((wr.alloc (.cells #[.string hd] 9)).alloc (.cells #[.slice (some ⟨wr.heap.size, 0, none⟩) 1 1] 54)) := (hb.alloc hBs _).alloc (by rw [World.size_alloc]; omega) _
                have hvy : ((.slice (some ⟨g, 0, none⟩) (n' + 1) cv) : Value).ownBlock ≠ some wr.heap.size := fun e => by have := (hp.own.lt _ e).2; omega
                have hnw : ∀ (j : Nat) (u : Value), [(.slice (some ⟨wr.heap.size, 0, none⟩) 1 1 : Value)][j]? = some u → ((wr.alloc (.cells #[.string hd] 9)).alloc (.cells #[.slice (some ⟨wr.heap.size, 0, none⟩) 1 1] 54)).cell? ((⟨wr.heap.size + 1, 0, none⟩ : Addr).add j) = some u := fun j u hj => by
                  match j, hj with
                  | 0, hj => injection hj with hj; subst hj; simp [Addr.add]
                  | j + 1, hj => simp at hj
                obtain ⟨LV, hLV⟩ : ∃ LV : List Value, LV = (List.range ((n' + 1))).map V := ⟨_, rfl⟩
                have hown0 := hpA.own
                rw [← hLV] at hown0
                have HLV := Lib.hid hLV
                clear hLV hqr
                have hGy : ∀ i, i < (n' + 1) → G i ≠ wr.heap.size := fun i hi e => by have := (hp.gl hi).2; omega
                go_wp2_with (at_builtin; refine wpList_append_lies _ rfl _ _ 56 rfl w.heap.size 54 i0 (.slice none 0 0) 1 24 Try.underlying56 hi hz0 hz1 hz2 rfl (by decide) (.slice (some ⟨g, 0, none⟩) (n' + 1) cv) (n' + 1) _ rfl hown0 _ 1 1 [.slice (some ⟨wr.heap.size, 0, none⟩) 1 1] rfl rfl hnw (by intro u hu; rw [List.mem_singleton] at hu; subst hu; rfl) (by decide) (by unfold maxLen; omega) (by omega) (by simp; omega) (wr.heap.size + 2) (by simp) ?_)
                intro g5 c5 w5 hown5 hgr5 hat5 hlt5
                rw [HLV.out] at hown5
                clear hown0 HLV hnw
                have hl5 : (Value.slice (some ⟨g5, 0, none⟩) ((n' + 1) + 1) c5).ownBlock = ((.slice (some ⟨g, 0, none⟩) (n' + 1) cv) : Value).ownBlock ∨ (Value.slice (some ⟨g5, 0, none⟩) ((n' + 1) + 1) c5).ownBlock = some (((wr.alloc (.cells #[.string hd] 9)).alloc (.cells #[.slice (some ⟨wr.heap.size, 0, none⟩) 1 1] 54))).heap.size := by
                  rcases hat5 with e | e
                  · exact .inl e.symm
                  · refine .inr ?_
                    show some g5 = _
                    rw [e]; simp
                have hp2 := hpA.push hyA rfl hGy hvy hown5 hgr5 hl5
                have hbW : Below w.heap.size w w5 := hbA.grown hgr5 (by simp; omega) (fun k hk => (hp.own.lt k hk).1)
                have hbWs := hbW.size
                have hcl5 : w5.cell? ⟨b, off + k, none⟩ = some (.string xs[k]) := ((hbW.cell (p := ⟨b, off + k, none⟩) hbw).trans (hb.cell (p := ⟨b, off + k, none⟩) hbw).symm).trans hcl
                have hyf : (fun i => if i = (n' + 1) then (.slice (some ⟨wr.heap.size, 0, none⟩) 1 1 : Value) else V i) (n' + 1) = .slice (some ⟨wr.heap.size, 0, none⟩) 1 1 := if_pos rfl
                have hL : ((fun i => if i = (n' + 1) then [hd] else hd :: pgAt m (xs.take k) i) (n' + 1)).length = 1 := by simp
                have hXn : ∀ i, i < (n' + 1) + 1 → (if i = (n' + 1) then (fun i => if i = (n' + 1) then [hd] else hd :: pgAt m (xs.take k) i) (n' + 1) ++ [xs[k]] else (fun i => if i = (n' + 1) then [hd] else hd :: pgAt m (xs.take k) i) i) = hd :: pgAt m (xs.take (k + 1)) i := fun i hi => by
                  by_cases e : i = (n' + 1)
                  · subst e; simp [HFI.out]
                  · rw [if_neg e]
                    show (if i = (n' + 1) then _ else _) = _
                    rw [if_neg e]; exact HOLD.out i (by omega)
                generalize (fun i => if i = (n' + 1) then (.slice (some ⟨wr.heap.size, 0, none⟩) 1 1 : Value) else V i) = V2 at hp2 hyf
                generalize (fun i => if i = (n' + 1) then [hd] else hd :: pgAt m (xs.take k) i) = X2 at hp2 hL hXn
                generalize (fun i => if i = (n' + 1) then wr.heap.size else G i) = G2 at hp2
                have hg5B : w.heap.size ≤ g5 ∧ g5 < w5.heap.size := hp2.own.lt g5 rfl
                have HXN := Lib.hid hXn
                clear hpA hyA hbA hvy hGy hown5 hgr5 hat5 hl5 hp hcl hXn HFI HOLD
                generalize wr.heap.size = gy at *
                clear hlt5 hb hBs
                go_wp2
                have hcv : w5.drew.cell? ⟨g5, (n' + 1), none⟩ = some (.slice (some ⟨gy, 0, none⟩) 1 1) := (hp2.cell (i := (n' + 1)) (by omega)).trans (by rw [hyf])
                have hclw : w5.cell? ⟨b, off + k, none⟩ = some (.string xs[k]) := hcl5
                have gv : ∀ p : KeptW (w.heap.size) w5 (fun N => N.cell? ⟨g5, (n' + 1), none⟩ = some (.slice (some ⟨gy, 0, none⟩) 1 1)), p.v.cell? ⟨g5, (n' + 1), none⟩ = some (.slice (some ⟨gy, 0, none⟩) 1 1) := fun p => p.x
                have glc : ∀ p : KeptW (w.heap.size) w5 (fun N => N.cell? ⟨g5, (n' + 1), none⟩ = some (.slice (some ⟨gy, 0, none⟩) 1 1)), p.v.cell? ⟨b, off + k, none⟩ = some (.string xs[k]) := fun p => (p.below.cell (p := ⟨b, off + k, none⟩) hbw).trans hclw
                haveI hKne : Nonempty (KeptW (w.heap.size) w5 (fun N => N.cell? ⟨g5, (n' + 1), none⟩ = some (.slice (some ⟨gy, 0, none⟩) 1 1))) := ⟨⟨_, Below.drew (Below.refl _ _), hcv⟩⟩
                refine wp_region_sink (C := fun w' => ∃ p : KeptW (w.heap.size) w5 (fun N => N.cell? ⟨g5, (n' + 1), none⟩ = some (.slice (some ⟨gy, 0, none⟩) 1 1)), w' = p.v) [0, 1, 2, 3, 4, 5, 6, 7, 8, 9, 10, 11, 12, 13, 14, 15] [true, true, true, true, true, true, true, true, true, true, true, true, false, false, true, false] 15 (by kernel_rfl) (by kernel_rfl) (by kernel_rfl) (fun _ _ d _ _ h => by cases d <;> exact h) ⟨⟨_, Below.drew (Below.refl _ _), hcv⟩, rfl⟩ ?_
                simp only [List.map_cons, List.map_nil, List.getD_cons_zero, List.getD_cons_succ]
                have hS0 : Below (w.heap.size) w5 w5.drew := Below.drew (Below.refl _ _)
                refine wpMixS_pure (by kernel_rfl) (fun K hK => ?_)
                go_big_quiet_op
                refine hK _ ?_; clear hK K
                refine wpMixS_pure (by kernel_rfl) (fun K hK => ?_)
                go_big_quiet_op
                refine hK _ ?_; clear hK K
                refine wpMixS_pure (by kernel_rfl) (fun K hK => ?_)
                go_big_quiet_op
                refine hK _ ?_; clear hK K
                refine wpMixS_pure (by kernel_rfl) (fun K hK => ?_)
                go_big_quiet_op
                refine hK _ ?_; clear hK K
                refine wpMixS_pure (by kernel_rfl) (fun K hK => ?_)
                go_big_quiet_op
                refine hK _ ?_; clear hK K
                refine wpMixS_pure (by kernel_rfl) (fun K hK => ?_)
                go_big_quiet_op
                refine hK _ ?_; clear hK K
                refine wpMixS_pure (by kernel_rfl) (fun K hK => ?_)
                go_big_quiet_op
                refine hK _ ?_; clear hK K
                refine wpMixS_pure (by kernel_rfl) (fun K hK => ?_)
                go_big_quiet_op
                refine hK _ ?_; clear hK K
                refine wpMixS_pure (by kernel_rfl) (fun K hK => ?_)
                go_big_quiet_op
                refine hK _ ?_; clear hK K
                refine wpMixS_pure (by kernel_rfl) (fun K hK => ?_)
                go_big_quiet_op
                refine hK _ ?_; clear hK K
                refine wpMixS_pure (by kernel_rfl) (fun K hK => ?_)
                go_big_quiet_op
                refine hK _ ?_; clear hK K
                refine wpMixS_pure (by kernel_rfl) (fun K hK => ?_)
                go_big_quiet_op
                refine hK _ ?_; clear hK K
                refine wpMixS_act (by kernel_rfl) (fun K hK => ?_)
                go_big_op
                refine hK _ _ ⟨⟨_, (hS0.alloc (Nat.le_trans hbWs hS0.size) _), ((((Below.refl _ _).alloc (Nat.le_refl _) _).cell (p := ⟨g5, (n' + 1), none⟩) hg5B.2).trans hcv)⟩, rfl⟩ ?_
                clear hK K
                refine mixS_world (fun N => Below (w.heap.size) w5 N ∧ N.cell? ⟨w5.drew.heap.size, 0, none⟩ = some (.string xs[k]) ∧ PgV N w.heap.size (.slice (some ⟨g5, 0, none⟩) ((n' + 1) + 1) c5) ((n' + 1) + 1) V2 X2 G2) ⟨hS0.alloc (Nat.le_trans hbWs hS0.size) _, ⟨by simp, (hp2.below (Below.drew (Below.refl _ _))).below ((Below.refl _ _).alloc (Nat.le_refl _) _)⟩⟩ ?_
                rintro wr1 ⟨hbr1S, hbr1F⟩
                refine wpMixS_act (by kernel_rfl) (fun K hK => ?_)
                obtain ⟨q0, hpN⟩ := hbr1F
                have hyo : wr1.ownsRow w.heap.size 9 1 (.slice (some ⟨gy, 0, none⟩) 1 1) 1 ((X2 ((n' + 1))).flatMap fStr.enc) := by have := hpN.row ((n' + 1)) (by omega); rw [hyf] at this; unfold Own at this; rw [hL] at this; exact this
                have hgyG : G2 ((n' + 1)) = gy := by have := hpN.blk ((n' + 1)) (by omega); rw [hyf] at this; injection this with this; exact this.symm
                have hgne : g5 ≠ gy := fun e => hpN.ap ((n' + 1)) (by omega) (by rw [hgyG, ← e]; rfl)
                have hg5N : g5 < wr1.heap.size := Nat.lt_of_lt_of_le hg5B.2 hbr1S.size
                have hcN := hpN.cell (i := (n' + 1)) (by omega)
                have hfN := hpN.frz ((n' + 1))
                rw [hyf] at hcN
                refine wp_append_at2 _ _ _ 54 rfl w.heap.size 9 j0 (.string ⟨#[]⟩) 1 16 Try.underlying54 hj hy0 hy1 hy2 rfl (by decide) (.slice (some ⟨gy, 0, none⟩) 1 1) (1) _ rfl hyo [.string xs[k]] rfl (by intro u hu; rw [List.mem_singleton] at hu; subst hu; rfl) w5.heap.size rfl (by intro j u hj; match j, hj with | 0, hj => (injection hj with hj; subst hj; exact q0) | j + 1, hj => (simp at hj)) (by omega) (by decide) (Nat.le_trans hbWs hbr1S.size) ?_
                intro v' u hown hbu hgr hvl
                have hy' : Own fStr u w.heap.size 9 v' (X2 ((n' + 1)) ++ [xs[k]]) := Own.push _ (by rw [hL]) hown
                clear hown
                have hl2 : (X2 ((n' + 1)) ++ [xs[k]]).length = 2 := by rw [List.length_append, hL]; rfl
                obtain ⟨Ay, cy2, he2⟩ := hy'.form
                rw [hl2] at he2
                subst he2
                have hpu : u.cell? ⟨g5, (n' + 1), none⟩ = some (.slice (some ⟨gy, 0, none⟩) 1 1) := (World.cell?_of_block (a := ⟨g5, (n' + 1), none⟩) (hgr.block g5 hg5N (fun e => hgne (by injection e)))).trans hcN
                have hfu : u.frozen? ⟨g5, (n' + 1), none⟩ = false := (World.frozen?_of_block (a := ⟨g5, (n' + 1), none⟩) (hgr.block g5 hg5N (fun e => hgne (by injection e)))).trans hfN
                have hbuS : Below (w.heap.size) w5 u := hbr1S.trans hbu
                try simp only [Act.put, List.setIfInBounds_toArray, List.set_cons_zero, List.set_cons_succ]
                refine hK _ _ ⟨⟨_, hbuS, hpu⟩, rfl⟩ ?_
                clear hK K
                refine wpMixS_pure (by kernel_rfl) (fun K hK => ?_)
                go_big_quiet_op
                refine hK _ ?_; clear hK K
                refine wpMixS_last (by kernel_rfl) (fun K hK => ?_)
                go_big_op
                try simp only [Act.put, List.setIfInBounds_toArray, List.set_cons_zero, List.set_cons_succ]
                refine hK _ _ ?_
                clear hK K
                obtain ⟨gy2, hgy2⟩ : ∃ g' : Nat, (Value.slice Ay (2) cy2).ownBlock = some g' := by rcases hvl with e | e <;> exact ⟨_, e⟩
                have hp8 := (hpN.grow hy' hgy2 (by rw [hyf]; exact hgr) (by rw [hyf]; exact hvl)).congr HXN.out
                have hB9 : Below w.heap.size w (u.setCell ⟨g5, (n' + 1), none⟩ (.slice Ay (2) cy2)) := (hbW.trans hbuS).setCell (p := ⟨g5, (n' + 1), none⟩) hg5B.1 _
                clear hy' hvl hgr hpu hfu hpN hyo hcN hfN q0 gv glc
                go_wp2
                go_roundw
                case rel => exact ⟨k + 1, _, _, by omega, by go_num, by rw [HN1.out]; exact hp8, hB9⟩
                case measure => simp [intOf]; omega
            · skip
              have hN := pgN_part hm0 hqr (Nat.pos_of_ne_zero hr0) (Nat.le_of_lt hr)
              have hN1 := pgN_part (k := k + 1) (q := q) (r := r + 1) hm0 (by omega) (by omega) (by omega)
              rw [hN] at hp
              have hsn := pgAt_snoc hqr hr hlt
              have hlen : ((fun j => hd :: pgAt m (xs.take k) j) q).length = r + 1 := by
                show (hd :: pgAt m (xs.take k) q).length = _
                rw [List.length_cons, pgAt_len hqr (by omega) (by omega)]
              have hXn : ∀ i, i < q + 1 → (if i = q then (fun j => hd :: pgAt m (xs.take k) j) q ++ [xs[k]] else (fun j => hd :: pgAt m (xs.take k) j) i) = hd :: pgAt m (xs.take (k + 1)) i := fun i hi => by
                by_cases e : i = q
                · subst e; rw [if_pos rfl, hsn]; rfl
                · rw [if_neg e]
                  show hd :: pgAt m (xs.take k) i = _
                  have : (i + 1) * m ≤ q * m := Nat.mul_le_mul_right _ (by omega)
                  rw [pgAt_take_old (k' := k + 1) (by omega) (by omega)]
              obtain ⟨cy, hyf⟩ := hp.last (i := q) (by omega) (by rw [hlen]; omega)
              rw [hlen] at hyf
              obtain ⟨g5, c5, rfl, hg5B1, hg5B2⟩ := hp.addr (by omega)
              have hg5B := And.intro hg5B1 hg5B2
              have hL := hlen
              generalize (fun j => hd :: pgAt m (xs.take k) j) = X2 at hp hL hXn
              have HXN := Lib.hid hXn
              have HN1 := Lib.hid hN1
              have ccv := hp.cell (i := q) (by omega)
              rw [hyf] at ccv
              have hrm : r + 1 ≤ 200 := by omega
              have hq200 : q ≤ 200 := by omega
              have en : (((q + 1 : Nat) : Int) == 0) = false := by rw [beq_eq_false_iff_ne]; omega
              have e2 : (((r + 1 : Nat) : Int) == (m : Int) + 1) = false := by rw [beq_eq_false_iff_ne]; omega
              have en' : ((q : Int) + 1 == 0) = false := by rw [beq_eq_false_iff_ne]; omega
              have e2' : ((r : Int) + 1 == (m : Int) + 1) = false := by rw [beq_eq_false_iff_ne]; omega
              clear hlen hXn hN hN1 hsn hqr hg5B1 hg5B2
              generalize G q = gy at hyf ccv
              go_wp2
              have hcv : wr.drew.cell? ⟨g5, q, none⟩ = some (.slice (some ⟨gy, 0, none⟩) (r + 1) cy) := (hp.cell (i := q) (by omega)).trans (by rw [hyf])
              have hclw : wr.cell? ⟨b, off + k, none⟩ = some (.string xs[k]) := hcl
              have gv : ∀ p : KeptW (w.heap.size) wr (fun N => N.cell? ⟨g5, q, none⟩ = some (.slice (some ⟨gy, 0, none⟩) (r + 1) cy)), p.v.cell? ⟨g5, q, none⟩ = some (.slice (some ⟨gy, 0, none⟩) (r + 1) cy) := fun p => p.x
              have glc : ∀ p : KeptW (w.heap.size) wr (fun N => N.cell? ⟨g5, q, none⟩ = some (.slice (some ⟨gy, 0, none⟩) (r + 1) cy)), p.v.cell? ⟨b, off + k, none⟩ = some (.string xs[k]) := fun p => (p.below.cell (p := ⟨b, off + k, none⟩) hbw).trans hclw
              haveI hKne : Nonempty (KeptW (w.heap.size) wr (fun N => N.cell? ⟨g5, q, none⟩ = some (.slice (some ⟨gy, 0, none⟩) (r + 1) cy))) := ⟨⟨_, Below.drew (Below.refl _ _), hcv⟩⟩
              refine wp_region_sink (C := fun w' => ∃ p : KeptW (w.heap.size) wr (fun N => N.cell? ⟨g5, q, none⟩ = some (.slice (some ⟨gy, 0, none⟩) (r + 1) cy)), w' = p.v) [0, 1, 2, 3, 4, 5, 6, 7, 8, 9, 10, 11, 12, 13, 14, 15] [true, true, true, true, true, true, true, true, true, true, true, true, false, false, true, false] 15 (by kernel_rfl) (by kernel_rfl) (by kernel_rfl) (fun _ _ d _ _ h => by cases d <;> exact h) ⟨⟨_, Below.drew (Below.refl _ _), hcv⟩, rfl⟩ ?_
              simp only [List.map_cons, List.map_nil, List.getD_cons_zero, List.getD_cons_succ]
              have hS0 : Below (w.heap.size) wr wr.drew := Below.drew (Below.refl _ _)
              refine wpMixS_pure (by kernel_rfl) (fun K hK => ?_)
              go_big_quiet_op
              refine hK _ ?_; clear hK K
              refine wpMixS_pure (by kernel_rfl) (fun K hK => ?_)
              go_big_quiet_op
              refine hK _ ?_; clear hK K
              refine wpMixS_pure (by kernel_rfl) (fun K hK => ?_)
              go_big_quiet_op
              refine hK _ ?_; clear hK K
              refine wpMixS_pure (by kernel_rfl) (fun K hK => ?_)
              go_big_quiet_op
              refine hK _ ?_; clear hK K
              refine wpMixS_pure (by kernel_rfl) (fun K hK => ?_)
              go_big_quiet_op
              refine hK _ ?_; clear hK K
              refine wpMixS_pure (by kernel_rfl) (fun K hK => ?_)
              go_big_quiet_op
              refine hK _ ?_; clear hK K
              refine wpMixS_pure (by kernel_rfl) (fun K hK => ?_)
              go_big_quiet_op
              refine hK _ ?_; clear hK K
              refine wpMixS_pure (by kernel_rfl) (fun K hK => ?_)
              go_big_quiet_op
              refine hK _ ?_; clear hK K
              refine wpMixS_pure (by kernel_rfl) (fun K hK => ?_)
              go_big_quiet_op
              refine hK _ ?_; clear hK K
              refine wpMixS_pure (by kernel_rfl) (fun K hK => ?_)
              go_big_quiet_op
              refine hK _ ?_; clear hK K
              refine wpMixS_pure (by kernel_rfl) (fun K hK => ?_)
              go_big_quiet_op
              refine hK _ ?_; clear hK K
              refine wpMixS_pure (by kernel_rfl) (fun K hK => ?_)
              go_big_quiet_op
              refine hK _ ?_; clear hK K
              refine wpMixS_act (by kernel_rfl) (fun K hK => ?_)
              go_big_op
              refine hK _ _ ⟨⟨_, (hS0.alloc (Nat.le_trans hBs hS0.size) _), ((((Below.refl _ _).alloc (Nat.le_refl _) _).cell (p := ⟨g5, q, none⟩) hg5B.2).trans hcv)⟩, rfl⟩ ?_
              clear hK K
              refine mixS_world (fun N => Below (w.heap.size) wr N ∧ N.cell? ⟨wr.drew.heap.size, 0, none⟩ = some (.string xs[k]) ∧ PgV N w.heap.size (.slice (some ⟨g5, 0, none⟩) (q + 1) c5) (q + 1) V X2 G) ⟨hS0.alloc (Nat.le_trans hBs hS0.size) _, ⟨by simp, (hp.below (Below.drew (Below.refl _ _))).below ((Below.refl _ _).alloc (Nat.le_refl _) _)⟩⟩ ?_
              rintro wr1 ⟨hbr1S, hbr1F⟩
              refine wpMixS_act (by kernel_rfl) (fun K hK => ?_)
              obtain ⟨q0, hpN⟩ := hbr1F
              have hyo : wr1.ownsRow w.heap.size 9 1 (.slice (some ⟨gy, 0, none⟩) (r + 1) cy) (r + 1) ((X2 (q)).flatMap fStr.enc) := by have := hpN.row (q) (by omega); rw [hyf] at this; unfold Own at this; rw [hL] at this; exact this
              have hgyG : G (q) = gy := by have := hpN.blk (q) (by omega); rw [hyf] at this; injection this with this; exact this.symm
              have hgne : g5 ≠ gy := fun e => hpN.ap (q) (by omega) (by rw [hgyG, ← e]; rfl)
              have hg5N : g5 < wr1.heap.size := Nat.lt_of_lt_of_le hg5B.2 hbr1S.size
              have hcN := hpN.cell (i := q) (by omega)
              have hfN := hpN.frz (q)
              rw [hyf] at hcN
              refine wp_append_at2 _ _ _ 54 rfl w.heap.size 9 j0 (.string ⟨#[]⟩) 1 16 Try.underlying54 hj hy0 hy1 hy2 rfl (by decide) (.slice (some ⟨gy, 0, none⟩) (r + 1) cy) ((r + 1)) _ rfl hyo [.string xs[k]] rfl (by intro u hu; rw [List.mem_singleton] at hu; subst hu; rfl) wr.heap.size rfl (by intro j u hj; match j, hj with | 0, hj => (injection hj with hj; subst hj; exact q0) | j + 1, hj => (simp at hj)) (by omega) (by decide) (Nat.le_trans hBs hbr1S.size) ?_
              intro v' u hown hbu hgr hvl
              have hy' : Own fStr u w.heap.size 9 v' (X2 (q) ++ [xs[k]]) := Own.push _ (by rw [hL]) hown
              clear hown
              have hl2 : (X2 (q) ++ [xs[k]]).length = (r + 1 + 1) := by rw [List.length_append, hL]; rfl
              obtain ⟨Ay, cy2, he2⟩ := hy'.form
              rw [hl2] at he2
              subst he2
              have hpu : u.cell? ⟨g5, q, none⟩ = some (.slice (some ⟨gy, 0, none⟩) (r + 1) cy) := (World.cell?_of_block (a := ⟨g5, q, none⟩) (hgr.block g5 hg5N (fun e => hgne (by injection e)))).trans hcN
              have hfu : u.frozen? ⟨g5, q, none⟩ = false := (World.frozen?_of_block (a := ⟨g5, q, none⟩) (hgr.block g5 hg5N (fun e => hgne (by injection e)))).trans hfN
              have hbuS : Below (w.heap.size) wr u := hbr1S.trans hbu
              try simp only [Act.put, List.setIfInBounds_toArray, List.set_cons_zero, List.set_cons_succ]
              refine hK _ _ ⟨⟨_, hbuS, hpu⟩, rfl⟩ ?_
              clear hK K
              refine wpMixS_pure (by kernel_rfl) (fun K hK => ?_)
              go_big_quiet_op
              refine hK _ ?_; clear hK K
              refine wpMixS_last (by kernel_rfl) (fun K hK => ?_)
              go_big_op
              try simp only [Act.put, List.setIfInBounds_toArray, List.set_cons_zero, List.set_cons_succ]
              refine hK _ _ ?_
              clear hK K
              obtain ⟨gy2, hgy2⟩ : ∃ g' : Nat, (Value.slice Ay ((r + 1 + 1)) cy2).ownBlock = some g' := by rcases hvl with e | e <;> exact ⟨_, e⟩
              have hp8 := (hpN.grow hy' hgy2 (by rw [hyf]; exact hgr) (by rw [hyf]; exact hvl)).congr HXN.out
              have hB9 : Below w.heap.size w (u.setCell ⟨g5, q, none⟩ (.slice Ay ((r + 1 + 1)) cy2)) := (hb.trans hbuS).setCell (p := ⟨g5, q, none⟩) hg5B.1 _
              clear hy' hvl hgr hpu hfu hpN hyo hcN hfN q0 gv glc
              go_wp2
              go_roundw
              case rel => exact ⟨k + 1, _, _, by omega, by go_num, by rw [HN1.out]; exact hp8, hB9⟩
              case measure => simp [intOf]; omega
          · have hke : k = xs.length := by omega
            subst hke
            rw [List.take_length] at hp
            obtain ⟨fq, hsl, hlo, hnd⟩ := hp.sl (xss := pgAll m hd xs) rfl (fun i _ x hx' => pg_ok (k := xs.length) hx100 hh100 i x (by rw [List.take_length]; exact hx'))
            go_wp2
            go_ret2
            exact ⟨_, by rw [HC.out]; rfl, by rw [HF.out]; exact ⟨⟨fq, hsl, hlo, hnd⟩, hb⟩⟩
end Go.Proofs.Ythejcbhplgjmgaa
