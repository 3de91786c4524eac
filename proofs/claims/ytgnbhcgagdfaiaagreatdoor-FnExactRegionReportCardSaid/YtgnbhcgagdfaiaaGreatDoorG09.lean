/- Parts of the proof: Js, Pa2, Jv, WRegionReport, Law, LawS, LawL, Dr, TObserved, TTest, TStand, TPathPoint, TVerified, TShot, TWatch, Df, Open, OObserved, OTest, OStand, OPathPoint, OVerified, OShot, OGroup, OWatch, OIncident, ODesk. -/
import Derived.Test.YtgnbhcgagdfaiaaGreatDoorG07
import Derived.Test.YtgnbhcgagdfaiaaGreatDoorG08
import Derived.Test.YtgnbhcgagdfaiaaGreatDoorG02
import Derived.Test.YtgnbhcgagdfaiaaGreatDoorG06
import Derived.Test.YtgnbhcgagdfaiaaGreatDoorG03
import Derived.Test.YtgnbhcgagdfaiaaGreatDoorG01
import Derived.ProofKit
import Derived.ChangeSame
import Derived.HandedShaped
import Derived.Shelf.Vars
import Derived.LaidMore
import Derived.Stop.Joined
import Derived.Laws.Tables
import GoSem.PinnedTables
import Derived.Deep.Slices
import Derived.Deep.Fields
import Derived.OpenShut
namespace Go.Proofs.YtgnbhcgagdfaiaaGreatDoor
open Go.RowKit
set_option linter.unusedVariables false

/-- The queue is changed in place. -/
theorem GSt.inplace {w w' : World} {base gs n Bq : Nat} {f : Nat → Bool} {vo vg : Value} {L : List (List Nat)} {V : Nat → Value} {G : Nat → Nat} {gq m cap : Nat} {q q' s : List Nat} (h : GSt w base gs n Bq f vo L V G (.slice (some ⟨gq, 0, none⟩) m cap) q vg s) (ho : Only [gq] w w') (hq : Own fInt w' Bq 2 (.slice (some ⟨gq, 0, none⟩) m cap) (ints q')) : GSt w' base gs n Bq f vo L V G (.slice (some ⟨gq, 0, none⟩) m cap) q' vg s := by
  have hgq := (own_at h.qo (g := gq) rfl).1
  have hk : ∀ b, b < Bq → b < w.heap.size → w'.heap[b]? = w.heap[b]? := fun b hb hbl => ho.block b hbl (by rw [List.mem_singleton]; omega)
  refine ⟨h.out.keep (fun b hb => hk b (h.low b hb).1 (h.out.lt hb).2), h.low, own_stays h.seen (fun b hb hbl => ?_), h.gsl, hq, own_stays h.go (fun b hb hbl => ho.block b hbl (by
    rw [List.mem_singleton]; intro e; exact h.ap b hb (by rw [e]; rfl))), h.ap⟩
  have e : gs = b := by injection hb
  exact hk b (by have := h.gsl; omega) hbl
theorem ints_perm {q : List Nat} {L : List Int} (h : L.Perm (ints q)) (hs : L.Pairwise (· ≤ ·)) (hn : q.Nodup) : ∃ s, L = ints s ∧ s.Pairwise (· < ·) ∧ s.length = q.length ∧ ∀ x, x ∈ s ↔ x ∈ q := by
  have e := ints_back (L := L) (fun y hy => ints_pos y (h.mem_iff.1 hy))
  have hmem : ∀ x, x ∈ L.map Int.toNat ↔ x ∈ q := fun x => by rw [← ints_mem, e, h.mem_iff, ints_mem]
  have hnd : (ints q).Nodup := by
    unfold ints
    rw [List.nodup_iff_pairwise_ne] at *
    rw [List.pairwise_map]
    exact hn.imp (fun h e => h (by omega))
  have hnd2 := h.nodup_iff.2 hnd
  refine ⟨_, e.symm, ?_, ?_, hmem⟩
  · rw [← ints_sorted, e]
    rw [List.nodup_iff_pairwise_ne] at hnd2
    exact hs.imp₂ (fun a b h1 h2 => by omega) hnd2
  · rw [List.length_map, h.length_eq, ints_len]
set_option maxRecDepth 100000 in
set_option maxHeartbeats 8000000 in
theorem joined_any (v : Value) (xs : List DRegion) (fp : List Nat) (w : World) (hx : Sl cRegion w v xs fp) (hv : regionsB xs = true) :
    Calls Tryz.prog 37 #[v] w fun e w' => GrR xs w e w' := by
  obtain ⟨A, cap, rfl, hlen, hcap⟩ := hx.form
  obtain ⟨j0, hj, hy0, hy1, hy2⟩ := info_parts infoIntP
  obtain ⟨i0, hi, hz0, hz1, hz2⟩ := info_parts infoRowP
  obtain ⟨k0, hk0, hb0', hb1', hb2'⟩ := info_parts infoBoolP
  have hn8 := regs_len hv
  have hmk : ∀ W : World, (Instr.makeSlice 97 (.int .i64 (xs.length : Nat)) (.int .i64 (xs.length : Nat))).run Tryz.prog W = .ok (.slice (some ⟨W.heap.size, 0, none⟩) xs.length xs.length) (W.alloc (.cells (madeCells #[Value.bool false] xs.length) 4)) := fun W => by
    have h := run_make_rowN (P := Tryz.prog) 97 4 k0 _ Tryz.underlying97 hk0 hb0' .i64 .i64 xs.length xs.length (Nat.le_refl _) (by rw [hb2']; omega) (by omega) W
    rw [hb1', Nat.mul_one] at h
    exact h
  have hg := adjR_graph hv
  have HV := Lib.hid hv
  have hB1 : Below w.heap.size w (w.alloc (.cells (madeCells #[Value.bool false] xs.length) 4)) := (Below.refl _ _).alloc (Nat.le_refl _) _
  have hS0 : Own fBool (w.alloc (.cells (madeCells #[Value.bool false] xs.length) 4)) w.heap.size 4 (.slice (some ⟨w.heap.size, 0, none⟩) xs.length xs.length) (seenL xs.length (fun _ => false)) := madeBools w w.heap.size xs.length (Nat.le_refl _) (by omega)
  have hP0 : PgW (w.alloc (.cells (madeCells #[Value.bool false] xs.length) 4)) w.heap.size (.slice none 0 0) 0 (fun _ => undef) (fun _ => []) (fun _ => 0) :=
    PgW.nil (c := 0) (show World.ownsRow _ w.heap.size 46 1 _ 0 [] from Own.nil fInt _ _ _)
  obtain ⟨gs, hgs⟩ : ∃ gs, gs = w.heap.size := ⟨_, rfl⟩
  clear hk0 hb0' hb1' hb2'
  go_enter Tryz.func37, Tryz.ntmps37
  go_wp2
  go_loopw [3, 17] (fun vo c wr => ∃ (i : Nat) (V : Nat → Value) (G : Nat → Nat), i ≤ xs.length ∧ c = .int .i64 i ∧ PgW wr w.heap.size vo (groupsL xs.length (adjR xs) i).length V (fun j => ints ((groupsL xs.length (adjR xs) i).getD j [])) G ∧ (∀ b, inPg vo (groupsL xs.length (adjR xs) i).length G b → b ≠ w.heap.size) ∧ Own fBool wr w.heap.size 4 (.slice (some ⟨w.heap.size, 0, none⟩) xs.length xs.length) (seenL xs.length (seenB (adjR xs) i)) ∧ Below w.heap.size w wr) (fun _ c _ => xs.length - (intOf c).toNat)
  case atStart =>
    refine ⟨0, _, _, Nat.zero_le _, rfl, hP0.congr (fun i hi => absurd hi (Nat.not_lt_zero _)), fun b hb => ?_, hS0, hB1⟩
    rcases hb with hb | ⟨i, hi, _⟩
    · cases hb
    · exact absurd hi (Nat.not_lt_zero _)
  case round => as_aux_lemma =>
    clear hS0 hP0 hB1
    obtain ⟨i, V, G, hi1, rfl, hpg, hne, hse, hb⟩ := hrel
    rename World => wo
    by_cases hlt : i < xs.length
    rotate_left
    · obtain rfl : i = xs.length := by omega
      obtain ⟨fq, h1, h2, _⟩ := hpg.sl (xss := (groupsL xs.length (adjR xs) xs.length).map ints) mapGet (fun i _ => ints_ok (grp_ok (by omega)))
      obtain ⟨A5, c5, rfl⟩ := hpg.form
      clear hpg hse hne
      go_wp2
      go_ret
      exact ⟨_, fq, rfl, h1, h2, hb⟩
    have hlti : (i : Int) < (xs.length : Int) := by omega
    have cs := hse.cellBool (seenL_get (f := seenB (adjR xs) i) hlt)
    have zs := hse.frozenS i
    cases hsi : seenB (adjR xs) i i
    rotate_left
    · rw [hsi] at cs
      have HG := Lib.hid (groupsL_skip (n := xs.length) hsi)
      have HS : Hid (seenL xs.length (seenB (adjR xs) i) = seenL xs.length (seenB (adjR xs) (i + 1))) := seenL_congr (fun j _ => (seenB_skip hg hsi j).symm)
      clear hsi
      go_wp2
      go_roundw
      case rel => exact ⟨i + 1, V, G, by omega, by go_num, by rw [HG.out]; exact hpg, by rw [HG.out]; exact hne, by rw [← HS.out]; exact hse, hb⟩
      case measure => simp [intOf]; omega
    rw [hsi] at cs
    have hgsl := hse.blk.2.1
    have hgsb := hse.blk.1
    have hG0 : GSt wo w.heap.size w.heap.size xs.length wo.heap.size (seenB (adjR xs) i) u3 (groupsL xs.length (adjR xs) i) V G (.slice none 0 0) [] (.slice none 0 0) [] :=
      ⟨hpg, fun b hb => ⟨(hpg.lt hb).2, hne b hb⟩, hse, hgsl, Own.nil _ _ _ _, Own.nil _ _ _ _, fun b hb => by cases hb⟩
    have hG1 := ((hG0.mark i).below ((Below.refl _ _).alloc (Nat.le_refl _) (.cells #[.int .i64 i] 2))).congr (f' := fun j => seenB (adjR xs) i j || memN j [i]) (fun j _ => by rw [memN_one])
    have hszS : (wo.setCell ⟨w.heap.size, i, none⟩ (.bool true)).heap.size = wo.heap.size := World.size_setCell _ _ _
    have hq1 : Own fInt ((wo.setCell ⟨w.heap.size, i, none⟩ (.bool true)).alloc (.cells #[.int .i64 i] 2)) wo.heap.size 2 (.slice (some ⟨wo.heap.size, 0, none⟩) 1 1) (ints [i]) := by
      have h := World.ownsRow_lit (e := 2) (size := 1) (base := wo.heap.size) (wo.setCell ⟨w.heap.size, i, none⟩ (.bool true)) #[.int .i64 i] 1 (by rw [hszS]; exact Nat.le_refl _) (by decide) rfl
      rw [hszS] at h
      exact h
    have hG2 : GSt _ w.heap.size w.heap.size xs.length wo.heap.size (fun j => seenB (adjR xs) i j || memN j [i]) u3 (groupsL xs.length (adjR xs) i) V G (.slice (some ⟨wo.heap.size, 0, none⟩) 1 1) [i] (.slice none 0 0) [] :=
      ⟨hG1.out, hG1.low, hG1.seen, hG1.gsl, hq1, Own.nil _ _ _ _, fun b hb => by cases hb⟩
    have hb2 : Below w.heap.size w ((wo.setCell ⟨w.heap.size, i, none⟩ (.bool true)).alloc (.cells #[.int .i64 i] 2)) := by
      have h1 : Below w.heap.size w (wo.setCell ⟨w.heap.size, i, none⟩ (.bool true)) := hb.setCell (p := ⟨w.heap.size, i, none⟩) hgsb _
      exact h1.alloc h1.size _
    have hbs := hb.size
    have hbz : wo.heap.size ≤ ((wo.setCell ⟨w.heap.size, i, none⟩ (.bool true)).alloc (.cells #[.int .i64 i] 2)).heap.size := by simp
    replace hsi := Lib.hid hsi
    clear hG0 hG1 hq1 hszS hpg hne hse hb
    obtain ⟨A5, c5, rfl⟩ := hG2.out.form
    go_wp2
    generalize hBq : wo.heap.size = Bq at *
    clear hBq
    go_loopw [6, 7] (fun vq c wr => ∃ (q : List Nat) (at_ : Nat), Queue (adjR xs) xs.length i q at_ ∧ at_ ≤ q.length ∧ c = .int .i64 at_ ∧ GSt wr w.heap.size w.heap.size xs.length Bq (fun j => seenB (adjR xs) i j || memN j q) (.slice A5 (groupsL xs.length (adjR xs) i).length c5) (groupsL xs.length (adjR xs) i) V G vq q (.slice none 0 0) [] ∧ Below w.heap.size w wr ∧ Bq ≤ wr.heap.size) (fun _ c _ => xs.length + 1 - (intOf c).toNat)
    case atStart => exact ⟨[i], 0, Queue.start hlt, Nat.zero_le _, rfl, hG2, hb2, hbz⟩
    case round => as_aux_lemma =>
      clear hG2 hb2 hbz cs zs
      obtain ⟨q, at_, hq, hat, rfl, hG, hb, hBw⟩ := hrel
      have hqn := hq.len
      have hq0 : 0 < q.length := List.length_pos_of_mem hq.first
      obtain ⟨gq, cq, rfl⟩ := hG.qo.addr (by rw [ints_len]; exact hq0)
      rw [ints_len] at hG ⊢
      by_cases hql : at_ < q.length
      rotate_left
      · -- the group is whole: it is sorted in its place
        obtain rfl : at_ = q.length := by omega
        have hqown : Own fInt wr Bq 2 (.slice (some ⟨gq, 0, none⟩) (ints q).length cq) (ints q) := by have h := hG.qo; rw [← ints_len q] at h; exact h
        have hq12 : (ints q).length ≤ 12 := by rw [ints_len]; omega
        have HLQ := Lib.hid (ints_len q)
        rw [← HLQ.out]
        go_wp2_with fail
        refine (sortI_any gq cq Bq (ints q) _ hqown hq12).mono ?_
        rintro e w6 ⟨rfl, Ls, hsrt, hperm, hord, honly⟩
        obtain ⟨s, rfl, hss, hsl, hsm⟩ := ints_perm hperm hord hq.nd
        rw [HLQ.out] at hsrt ⊢
        replace hG := hG.inplace honly hsrt
        replace hb : Below w.heap.size w w6 := hb.trans (honly.below hb.size (by intro b hb'; rw [List.mem_singleton] at hb'; rw [hb']; have := (own_at hG.qo (g := gq) rfl).1; have := hbs; omega))
        have hsB : Bq ≤ w6.heap.size := Nat.le_trans hBw honly.size
        clear hqown hq12 HLQ hsrt hperm hord honly hBw
        generalize hwr : w6 = wr6 at *
        clear hwr
        have hGG : GSt wr6 w.heap.size w.heap.size xs.length Bq (fun j => seenB (adjR xs) i j || memN j q) (.slice A5 (groupsL xs.length (adjR xs) i).length c5) (groupsL xs.length (adjR xs) i) V G (.slice none 0 0) [] (.slice (some ⟨gq, 0, none⟩) s.length cq) s :=
          ⟨hG.out, hG.low, hG.seen, hG.gsl, Own.nil _ _ _ _, by rw [hsl]; exact hG.qo, fun b _ e => by cases e⟩
        have HSM : Hid (s.Pairwise (· < ·) ∧ ∀ x, x ∈ s ↔ x ∈ q.take q.length) := ⟨hss, fun x => by rw [List.take_length]; exact hsm x⟩
        rw [← hsl]
        clear hG
        have hG := hGG
        clear hGG hss hsm hsl
        have hcomp : s = compL xs.length (adjR xs) i := comp_of_queue hq (Nat.le_refl _) HSM.out.1 (fun x => by rw [HSM.out.2, List.take_length])
        have hs0 : 0 < s.length := List.length_pos_of_mem ((HSM.out.2 i).2 (by rw [List.take_length]; exact hq.first))
        have HG : Hid (groupsL xs.length (adjR xs) (i + 1) = (groupsL xs.length (adjR xs) i) ++ [s]) := by show _ = _; rw [groupsL_new hsi.out, hcomp]
        have HSE : Hid (seenL xs.length (fun j => seenB (adjR xs) i j || memN j q) = seenL xs.length (seenB (adjR xs) (i + 1))) := seenL_congr (fun j _ => seen_after hq (Nat.le_refl _) j)
        have hgn := groupsL_len (n := xs.length) (adj := adjR xs) (k := i)
        have hLi : ((ints s).length : Nat) = s.length := ints_len s
        clear hcomp HSM hLi
        have hgqB := (own_at hG.go (g := gq) rfl)
        have hbs2 := hb.size
        have hpA : PgW (wr6.alloc (.cells #[.slice (some ⟨gq, 0, none⟩) s.length cq] 46)) w.heap.size (.slice A5 (groupsL xs.length (adjR xs) i).length c5) (groupsL xs.length (adjR xs) i).length V (fun j => ints ((groupsL xs.length (adjR xs) i).getD j [])) G := hG.out.below ((Below.refl _ _).alloc (Nat.le_refl _) _)
        have hyA : Own fInt (wr6.alloc (.cells #[.slice (some ⟨gq, 0, none⟩) s.length cq] 46)) w.heap.size 2 (.slice (some ⟨gq, 0, none⟩) s.length cq) (ints s) := ownM_ (hG.go.below ((Below.refl _ _).alloc (Nat.le_refl _) _)) hbs
        have hbA : Below w.heap.size w (wr6.alloc (.cells #[.slice (some ⟨gq, 0, none⟩) s.length cq] 46)) := hb.alloc hbs2 _
        have hseA : Own fBool (wr6.alloc (.cells #[.slice (some ⟨gq, 0, none⟩) s.length cq] 46)) w.heap.size 4 (.slice (some ⟨w.heap.size, 0, none⟩) xs.length xs.length) (seenL xs.length (fun j => seenB (adjR xs) i j || memN j q)) := hG.seen.below ((Below.refl _ _).alloc (Nat.le_refl _) _)
        have hGy : ∀ j, j < (groupsL xs.length (adjR xs) i).length → G j ≠ gq := fun j hj e => by have := (hG.low _ (.inr ⟨j, hj, rfl⟩)).1; omega
        have hvy : ((.slice A5 (groupsL xs.length (adjR xs) i).length c5) : Value).ownBlock ≠ some gq := fun e => by have := (hG.low _ (.inl e)).1; omega
        have hnw : ∀ (j : Nat) (u : Value), [(.slice (some ⟨gq, 0, none⟩) s.length cq : Value)][j]? = some u → (wr6.alloc (.cells #[.slice (some ⟨gq, 0, none⟩) s.length cq] 46)).cell? ((⟨wr6.heap.size, 0, none⟩ : Addr).add j) = some u := fun j u hj => by
          match j, hj with
          | 0, hj => injection hj with hj; subst hj; simp [Addr.add]
          | j + 1, hj => simp at hj
        obtain ⟨LV, hLV⟩ : ∃ LV : List Value, LV = (List.range ((groupsL xs.length (adjR xs) i).length)).map V := ⟨_, rfl⟩
        have hown0 := hpA.own
        rw [← hLV] at hown0
        have HLV := Lib.hid hLV
        have hgsl2 := hG.gslt
        have hlow := hG.low
        have hgsB := hG.gsl
        clear hLV hG
        generalize (groupsL xs.length (adjR xs) i) = L at *
        go_wp2_with (at_builtin; refine wpList_append_lies _ rfl _ _ 58 rfl w.heap.size 46 i0 (.slice none 0 0) 1 24 Tryz.underlying58 hi hz0 hz1 hz2 rfl (by decide) (.slice A5 L.length c5) L.length _ rfl hown0 _ 1 1 [.slice (some ⟨gq, 0, none⟩) s.length cq] rfl rfl hnw (by intro u hu; rw [List.mem_singleton] at hu; subst hu; rfl) (by decide) (by unfold maxLen; omega) (by omega) (by simp; omega) (wr6.heap.size + 1) (by simp) ?_)
        intro g5 c6 w5 hown5 hgr5 hat5 hlt5
        rw [HLV.out] at hown5
        clear hown0 HLV hnw
        have hl5 : (Value.slice (some ⟨g5, 0, none⟩) (L.length + 1) c6).ownBlock = (.slice A5 L.length c5 : Value).ownBlock ∨ (Value.slice (some ⟨g5, 0, none⟩) (L.length + 1) c6).ownBlock = some ((wr6.alloc (.cells #[.slice (some ⟨gq, 0, none⟩) s.length cq] 46))).heap.size := by
          rcases hat5 with e | e
          · exact .inl e.symm
          · refine .inr ?_
            show some g5 = _
            rw [e]; simp
        have hp2 := hpA.push hyA rfl hGy hvy hown5 hgr5 hl5
        have hb5 : Below w.heap.size w w5 := hbA.grown hgr5 (by simp; omega) (fun k hk => (hpA.lt (.inl hk)).1)
        have hse5 : Own fBool w5 w.heap.size 4 (.slice (some ⟨w.heap.size, 0, none⟩) xs.length xs.length) (seenL xs.length (fun j => seenB (adjR xs) i j || memN j q)) := own_stays hseA (fun b hb hbl => hgr5.block b hbl (fun e => by
          have e2 : w.heap.size = b := by injection hb
          exact (hlow b (.inl e.symm)).2 e2.symm))
        rw [HSE.out] at hse5
        have hlL : (L ++ [s]).length = L.length + 1 := by rw [List.length_append]; rfl
        have hp3 := hp2.congr (fun i hi => getD_snoc (L := L) (c := s) hi)
        have hne5 : ∀ b, inPg (.slice (some ⟨g5, 0, none⟩) (L.length + 1) c6) (L.length + 1) (fun i => if i = L.length then gq else G i) b → b ≠ w.heap.size := fun b hb => by
          rcases hb with hb | ⟨j, hj, hb⟩
          · have hb : g5 = b := by injection hb
            subst hb
            rcases hat5 with e | e
            · exact (hlow _ (.inl e)).2
            · omega
          · replace hb : (if j = L.length then gq else G j) = b := hb
            by_cases e : j = L.length
            · rw [if_pos e] at hb; omega
            · rw [if_neg e] at hb; exact (hlow b (.inr ⟨j, by omega, hb⟩)).2
        rw [← hlL] at hp3 hne5 ⊢
        clear hown5 hgr5 hat5 hlt5 hl5 hp2 hlL hGy hvy hbA hyA hpA hlow
        go_wp2
        go_roundw
        case rel => exact ⟨i + 1, _, _, by omega, by go_num, by rw [HG.out]; exact hp3, by rw [HG.out]; exact hne5, hse5, hb5⟩
        case measure => simp [intOf]; omega
      have hqli : (at_ : Int) < (q.length : Int) := by omega
      have ccq := hG.cellQ hql
      obtain ⟨x0, hx0⟩ : ∃ x0, q[at_] = x0 := ⟨_, rfl⟩
      rw [hx0] at ccq
      have hx0n : x0 < xs.length := by rw [← hx0]; exact hq.lt _ (List.getElem_mem hql)
      have hrx : Rch (adjR xs) i x0 := by rw [← hx0]; exact hq.rch _ (List.getElem_mem hql)
      have HQX0 : Hid (q[at_]? = some x0) := by show _ = _; rw [List.getElem?_eq_getElem hql, hx0]
      clear hx0
      obtain ⟨b, off, vk, fk, rfl, r0, r1, r2, hnear, hbfp, hfks, _, _⟩ := (hx.below' hb).reg hx0n
      obtain ⟨An, cn, rfl, hnl, _⟩ := hnear.form
      have hfkl : ∀ c ∈ fk, c < w.heap.size := fun c hc => hx.lt c (hfks c hc)
      have hBR : Below wr.heap.size wr (wr.alloc (.cells #[.string xs[x0].id, .int .i64 xs[x0].level, .slice An xs[x0].near.length cn] 63)) := (Below.refl _ _).alloc (Nat.le_refl _) _
      have hGR := hG.below hBR
      have hbR := hb.trans (hBR.mono hb.size)
      have hBwR : Bq ≤ (wr.alloc (.cells #[.string xs[x0].id, .int .i64 xs[x0].level, .slice An xs[x0].near.length cn] 63)).heap.size := Nat.le_trans hBw hBR.size
      have hnearR := hnear.below' hBR
      have hrb : (wr.alloc (.cells #[.string xs[x0].id, .int .i64 xs[x0].level, .slice An xs[x0].near.length cn] 63)).cell? ⟨wr.heap.size, 1, none⟩ = some (.int .i64 xs[x0].level) := by simp
      have hrl : wr.heap.size < (wr.alloc (.cells #[.string xs[x0].id, .int .i64 xs[x0].level, .slice An xs[x0].near.length cn] 63)).heap.size := by simp
      have hrq : ∀ b, (.slice (some ⟨gq, 0, none⟩) q.length cq : Value).ownBlock = some b → b ≠ wr.heap.size := fun b hb => by have := (own_at hG.qo hb).2; omega
      have hgsr : w.heap.size < wr.heap.size := hG.gslt.2
      clear hG hb hBR hnear hBw
      go_wp2
      generalize hR : wr.heap.size = bR at *
      rename World => w8
      go_loopw [6, 45] (fun vq c wr => ∃ (q2 : List Nat) (m : Nat), m ≤ xs[x0].near.length ∧ c = .int .i64 m ∧ Queue (adjR xs) xs.length i q2 at_ ∧ at_ < q2.length ∧ Hid (q2[at_]? = some x0) ∧ Hid (∀ y (hy : y < xs.length), adjR xs x0 y = true → xs[y].id ∈ xs[x0].near.take m → y ∈ q2) ∧ GSt wr w.heap.size w.heap.size xs.length Bq (fun j => seenB (adjR xs) i j || memN j q2) (.slice A5 (groupsL xs.length (adjR xs) i).length c5) (groupsL xs.length (adjR xs) i) V G vq q2 (.slice none 0 0) [] ∧ wr.cell? ⟨bR, 1, none⟩ = some (.int .i64 xs[x0].level) ∧ (∀ b, vq.ownBlock = some b → b ≠ bR) ∧ bR < wr.heap.size ∧ Sl fStr.cod wr (.slice An xs[x0].near.length cn) xs[x0].near fk ∧ Below w.heap.size w wr ∧ Bq ≤ wr.heap.size) (fun _ c _ => xs[x0].near.length - (intOf c).toNat)
      case atStart => exact ⟨q, 0, Nat.zero_le _, rfl, hq, hql, HQX0, (fun y hy _ h => by simp at h), hGR, hrb, hrq, hrl, hnearR, hbR, hBwR⟩
      case round => as_aux_lemma =>
        clear hGR hrb hrq hrl hnearR hbR hBwR r0 r1 r2 ccq HQX0
        obtain ⟨q2, m, hm, rfl, hq2, hat2, HQX, HAL, hG, hrb, hrq, hrl, hnear, hb, hBw⟩ := hrel
        have hqn2 := hq2.len
        by_cases hltm : m < xs[x0].near.length
        rotate_left
        · have hm2 : ¬ (m : Int) < (xs[x0].near.length : Int) := by omega
          have hqx : q2[at_] = x0 := by have := HQX.out; rw [List.getElem?_eq_getElem hat2] at this; exact Option.some.inj this
          have hqN := hq2.next hat2 (fun y hy => by
            rw [hqx] at hy
            have hyl := (hg.lt _ _ hy).2
            refine HAL.out y hyl hy ?_
            rw [List.take_of_length_le (by omega)]
            rw [adjR_at hx0n hyl, Bool.and_eq_true] at hy
            exact memS_true.1 hy.2)
          clear hqx HAL HQX hq2
          go_wp2
          go_roundw
          case rel => exact ⟨q2, at_ + 1, hqN, by omega, by go_num, hG, hb, hBw⟩
          case measure => simp [intOf]; omega
        have hltm' : (m : Int) < (xs[x0].near.length : Int) := by omega
        obtain ⟨b1, off1, rfl, _, _, n0, _⟩ := hnear.cell1 rfl hltm rfl
        replace n0 : wr.cell? ⟨b1, off1 + m, none⟩ = some (.string xs[x0].near[m]) := by simpa using n0
        go_wp2_with fail
        refine (regionAt_any _ xs fp xs[x0].near[m] _ (hx.below' hb)).mono ?_
        rintro e w7 ⟨r, rfl, hfr, hb7⟩
        obtain ⟨k, hk, rfl, hid⟩ := find_near HV.out hx0n (List.getElem_mem hltm) hfr
        have hG7 := hG.below hb7
        have hrb7 : w7.cell? ⟨bR, 1, none⟩ = some (.int .i64 xs[x0].level) := (hb7.cell (p := ⟨bR, 1, none⟩) hrl).trans hrb
        have hrl7 : bR < w7.heap.size := Nat.lt_of_lt_of_le hrl hb7.size
        have hnear7 := hnear.below' hb7
        have hB7 := hb.trans (hb7.mono hb.size)
        have hBw7 : Bq ≤ w7.heap.size := Nat.le_trans hBw hb7.size
        clear hG hrb hrl hnear hb hBw hb7 hfr n0
        have hki : (k : Int) < (xs.length : Int) := by omega
        obtain ⟨b', off', vk', fk', hA, _, r1, _⟩ := (hx.below' hB7).reg hk
        injection hA with hA
        injection hA with hA1 hA2 _
        subst hA1 hA2
        obtain ⟨gq2, cq2, rfl⟩ := hG7.qo.addr (by rw [ints_len]; omega)
        rw [ints_len] at hG7 hrq ⊢
        have s0 := hG7.cellS hk
        have HADJ : Hid (adjR xs x0 k = decide (xs[k].level = xs[x0].level)) := by
          show _ = _
          rw [adjR_at hx0n hk, hid, memS_true.2 (List.getElem_mem hltm), Bool.and_true]
          rw [Bool.eq_iff_iff]; simp [eq_comm]
        have HNX : Hid (seenB (adjR xs) i k = true → adjR xs x0 k = true → False) := fun h1 h2 => by
          have hqx : q2[at_] = x0 := by have := HQX.out; rw [List.getElem?_eq_getElem hat2] at this; exact Option.some.inj this
          have := hq2.fresh hg hsi.out hat2 (by rw [hqx]; exact h2)
          rw [this] at h1; cases h1
        have HTK : Hid (∀ y (hy : y < xs.length), xs[y].id ∈ xs[x0].near.take (m + 1) → xs[y].id ∈ xs[x0].near.take m ∨ y = k) := fun y hy h => by
          rw [List.take_succ_eq_append_getElem hltm, List.mem_append, List.mem_singleton] at h
          rcases h with h | h
          · exact .inl h
          · exact .inr (regs_id HV.out hy hk (h.trans hid.symm))
        have hxl : xs.length ≤ 8 := hn8
        clear hid
        generalize hlk' : xs[k].level = lk at *
        clear hlk'
        cases hf : (seenB (adjR xs) i k || memN k q2)
        rotate_left
        · rw [hf] at s0
          have HAL2 : Hid (∀ y (hy : y < xs.length), adjR xs x0 y = true → xs[y].id ∈ xs[x0].near.take (m + 1) → y ∈ q2) := fun y hy ha h => by
            rcases HTK.out y hy h with h | rfl
            · exact HAL.out y hy ha h
            · rcases Bool.or_eq_true _ _ ▸ hf with h | h
              · exact (HNX.out h ha).elim
              · exact memN_true.1 h
          clear hf HADJ HNX HAL HTK
          go_wp2
          have gs0 := cell_regrown s0
          refine wp_region_mix (C := fun w' => ∃ p : Regrown, w' = Go.Sort.grow (redrawn w7 p.d) p.os) [true, true, true, true, true, true, true, true, true, true, true, true, true, true, true] (by kernel_rfl) (by kernel_rfl) (by kernel_rfl) (fun _ _ d _ _ h => by cases d <;> exact h) (regrown_of_below (Below.drew (Below.refl _ _))) ?_
          have hS0 : Below (w7.heap.size) w7 w7.drew := Below.drew (Below.refl _ _)
          refine wpMix_pure (by kernel_rfl) (fun K hK => ?_); go_big_quiet_op; refine hK _ ?_; clear hK K
          refine wpMix_pure (by kernel_rfl) (fun K hK => ?_); go_big_quiet_op; refine hK _ ?_; clear hK K
          refine wpMix_pure (by kernel_rfl) (fun K hK => ?_); go_big_quiet_op; refine hK _ ?_; clear hK K
          refine wpMix_pure (by kernel_rfl) (fun K hK => ?_); go_big_quiet_op; refine hK _ ?_; clear hK K
          refine wpMix_pure (by kernel_rfl) (fun K hK => ?_); go_big_quiet_op; refine hK _ ?_; clear hK K
          refine wpMix_pure (by kernel_rfl) (fun K hK => ?_); go_big_quiet_op; refine hK _ ?_; clear hK K
          refine wpMix_skip (by kernel_rfl) (fun K hK => ?_)
          simp only [Act.put, List.setIfInBounds_toArray, List.set_cons_zero, List.set_cons_succ]
          refine hK _ ?_; clear hK K
          refine wpMix_skip (by kernel_rfl) (fun K hK => ?_)
          simp only [Act.put, List.setIfInBounds_toArray, List.set_cons_zero, List.set_cons_succ]
          refine hK _ ?_; clear hK K
          refine wpMix_skip (by kernel_rfl) (fun K hK => ?_)
          simp only [Act.put, List.setIfInBounds_toArray, List.set_cons_zero, List.set_cons_succ]
          refine hK _ ?_; clear hK K
          refine wpMix_skip (by kernel_rfl) (fun K hK => ?_)
          simp only [Act.put, List.setIfInBounds_toArray, List.set_cons_zero, List.set_cons_succ]
          refine hK _ ?_; clear hK K
          refine wpMix_skip (by kernel_rfl) (fun K hK => ?_)
          simp only [Act.put, List.setIfInBounds_toArray, List.set_cons_zero, List.set_cons_succ]
          refine hK _ ?_; clear hK K
          refine wpMix_skip (by kernel_rfl) (fun K hK => ?_)
          simp only [Act.put, List.setIfInBounds_toArray, List.set_cons_zero, List.set_cons_succ]
          refine hK _ ?_; clear hK K
          refine wpMix_skip (by kernel_rfl) (fun K hK => ?_)
          simp only [Act.put, List.setIfInBounds_toArray, List.set_cons_zero, List.set_cons_succ]
          refine hK _ ?_; clear hK K
          refine wpMix_skip (by kernel_rfl) (fun K hK => ?_)
          simp only [Act.put, List.setIfInBounds_toArray, List.set_cons_zero, List.set_cons_succ]
          refine hK _ ?_; clear hK K
          refine wpMix_pure (by kernel_rfl) (fun K hK => ?_); go_big_quiet_op; refine hK _ ?_; clear hK K
          refine wpMix_nil ?_
          have hS9 : Below w7.heap.size w7 w7.drew := hS0
          have hG9 := hG7.below hS9
          have hb9 := hB7.trans (hS9.mono hB7.size)
          have hBw9 : Bq ≤ w7.drew.heap.size := Nat.le_trans hBw7 hS9.size
          have hrb9 : w7.drew.cell? ⟨bR, 1, none⟩ = some (.int .i64 xs[x0].level) := (hS9.cell (p := ⟨bR, 1, none⟩) hrl7).trans hrb7
          have hrl9 : bR < w7.drew.heap.size := Nat.lt_of_lt_of_le hrl7 hS9.size
          have hnear9 := hnear7.below' hS9
          go_wp2
          go_roundw
          case rel => exact ⟨q2, m + 1, by omega, by go_num, hq2, hat2, HQX, HAL2, hG9, hrb9, hrq, hrl9, hnear9, hb9, hBw9⟩
          case measure => simp [intOf]; omega
        · rw [hf] at s0
          replace hf := Lib.hid hf
          go_wp2
          have gs0 := cell_regrown s0
          have gr1 := cell_regrown r1
          have ghrb7 := cell_regrown hrb7
          refine wp_region_mix (C := fun w' => ∃ p : Regrown, w' = Go.Sort.grow (redrawn w7 p.d) p.os) [true, true, true, true, true, true, true, true, true, true, true, true, true, true, true] (by kernel_rfl) (by kernel_rfl) (by kernel_rfl) (fun _ _ d _ _ h => by cases d <;> exact h) (regrown_of_below (Below.drew (Below.refl _ _))) ?_
          have hS0 : Below (w7.heap.size) w7 w7.drew := Below.drew (Below.refl _ _)
          refine wpMix_pure (by kernel_rfl) (fun K hK => ?_); go_big_quiet_op; refine hK _ ?_; clear hK K
          refine wpMix_pure (by kernel_rfl) (fun K hK => ?_); go_big_quiet_op; refine hK _ ?_; clear hK K
          refine wpMix_pure (by kernel_rfl) (fun K hK => ?_); go_big_quiet_op; refine hK _ ?_; clear hK K
          refine wpMix_pure (by kernel_rfl) (fun K hK => ?_); go_big_quiet_op; refine hK _ ?_; clear hK K
          refine wpMix_pure (by kernel_rfl) (fun K hK => ?_); go_big_quiet_op; refine hK _ ?_; clear hK K
          refine wpMix_pure (by kernel_rfl) (fun K hK => ?_); go_big_quiet_op; refine hK _ ?_; clear hK K
          refine wpMix_pure (by kernel_rfl) (fun K hK => ?_); go_big_quiet_op; refine hK _ ?_; clear hK K
          refine wpMix_pure (by kernel_rfl) (fun K hK => ?_); go_big_quiet_op; refine hK _ ?_; clear hK K
          refine wpMix_pure (by kernel_rfl) (fun K hK => ?_); go_big_quiet_op; refine hK _ ?_; clear hK K
          refine wpMix_pure (by kernel_rfl) (fun K hK => ?_); go_big_quiet_op; refine hK _ ?_; clear hK K
          refine wpMix_pure (by kernel_rfl) (fun K hK => ?_); go_big_quiet_op; refine hK _ ?_; clear hK K
          refine wpMix_pure (by kernel_rfl) (fun K hK => ?_); go_big_quiet_op; refine hK _ ?_; clear hK K
          refine wpMix_pure (by kernel_rfl) (fun K hK => ?_); go_big_quiet_op; refine hK _ ?_; clear hK K
          by_cases hq13 : lk = xs[x0].level
          · skip
            have e13 : (lk == xs[x0].level) = true := by rw [beq_iff_eq]; exact hq13
            replace hq13 := Lib.hid hq13
            refine wpMix_pure (by kernel_rfl) (fun K hK => ?_); go_big_quiet_op; refine hK _ ?_; clear hK K
            refine wpMix_pure (by kernel_rfl) (fun K hK => ?_); go_big_quiet_op; refine hK _ ?_; clear hK K
            refine wpMix_nil ?_
            have hS9 : Below w7.heap.size w7 w7.drew := hS0
            have hG9 := hG7.below hS9
            have hb9 := hB7.trans (hS9.mono hB7.size)
            have hBw9 : Bq ≤ w7.drew.heap.size := Nat.le_trans hBw7 hS9.size
            have hrb9 : w7.drew.cell? ⟨bR, 1, none⟩ = some (.int .i64 xs[x0].level) := (hS9.cell (p := ⟨bR, 1, none⟩) hrl7).trans hrb7
            have hrl9 : bR < w7.drew.heap.size := Nat.lt_of_lt_of_le hrl7 hS9.size
            have hnear9 := hnear7.below' hS9
            have hadj : adjR xs x0 k = true := by rw [HADJ.out, decide_eq_true hq13.out]
            have hqx : q2[at_] = x0 := by have := HQX.out; rw [List.getElem?_eq_getElem hat2] at this; exact Option.some.inj this
            have hni : k ∉ q2 := fun h => by
              have h1 := hf.out
              rw [Bool.or_eq_false_iff] at h1
              have h2 := memN_true.2 h
              rw [h1.2] at h2; cases h2
            have HQ3 := Lib.hid (hq2.add hg hat2 (by rw [hqx]; exact hadj) hni)
            have HAL2 : Hid (∀ y (hy : y < xs.length), adjR xs x0 y = true → xs[y].id ∈ xs[x0].near.take (m + 1) → y ∈ q2 ++ [k]) := fun y hy ha h => by
              rcases HTK.out y hy h with h | rfl
              · exact List.mem_append_left _ (HAL.out y hy ha h)
              · exact List.mem_append_right _ (List.mem_singleton.2 rfl)
            have HQX2 : Hid ((q2 ++ [k])[at_]? = some x0) := by show _ = _; rw [List.getElem?_append_left hat2]; exact HQX.out
            clear hadj hqx hni HADJ HNX HAL HTK HQX hf hq13 hG7 hS9 hS0 gs0 gr1 ghrb7 s0 r1 hrb7 hnear7
            generalize w7.drew = V9 at *
            have s9 := hG9.cellS hk
            have z9 := hG9.frozenS k
            have hGa := (hG9.mark k).below ((Below.refl _ _).alloc (Nat.le_refl _) (.cells #[.int .i64 k] 2))
            have hgsl9 := hG9.gslt
            have hbA : Below w.heap.size w ((V9.setCell ⟨w.heap.size, k, none⟩ (.bool true)).alloc (.cells #[.int .i64 k] 2)) := by
              have h1 : Below w.heap.size w (V9.setCell ⟨w.heap.size, k, none⟩ (.bool true)) := hb9.setCell (p := ⟨w.heap.size, k, none⟩) hgsl9.1 _
              exact h1.alloc h1.size _
            have hszW : (((V9.setCell ⟨w.heap.size, k, none⟩ (.bool true)).alloc (.cells #[.int .i64 k] 2))).heap.size = V9.heap.size + 1 := by simp
            have hown0 : (((V9.setCell ⟨w.heap.size, k, none⟩ (.bool true)).alloc (.cells #[.int .i64 k] 2))).ownsRow Bq 2 1 (.slice (some ⟨gq2, 0, none⟩) q2.length cq2) q2.length ((ints q2).flatMap fInt.enc) := by
              have h : (((V9.setCell ⟨w.heap.size, k, none⟩ (.bool true)).alloc (.cells #[.int .i64 k] 2))).ownsRow Bq 2 1 (.slice (some ⟨gq2, 0, none⟩) q2.length cq2) (ints q2).length ((ints q2).flatMap fInt.enc) := hGa.qo
              rw [ints_len] at h; exact h
            have hnw : ∀ (j : Nat) (u : Value), [(.int .i64 k : Value)][j]? = some u → (((V9.setCell ⟨w.heap.size, k, none⟩ (.bool true)).alloc (.cells #[.int .i64 k] 2))).cell? ((⟨V9.heap.size, 0, none⟩ : Addr).add j) = some u := fun j u hj => by
              have e0 : ((⟨V9.heap.size, 0, none⟩ : Addr).add 0) = ⟨(V9.setCell ⟨w.heap.size, k, none⟩ (.bool true)).heap.size, 0, none⟩ := by simp [Addr.add]
              match j, hj with
              | 0, hj => injection hj with hj; subst hj; rw [e0]; exact (World.cell?_alloc_at _ _ _ _ rfl).trans rfl
              | j + 1, hj => simp at hj
            obtain ⟨LV, hLV⟩ : ∃ LV : List Value, LV = (ints q2).flatMap fInt.enc := ⟨_, rfl⟩
            rw [← hLV] at hown0
            have HLV := Lib.hid hLV
            clear hLV
            go_wp2_with (at_builtin; refine wpList_append_lies _ rfl _ _ 46 rfl Bq 2 j0 (.int .i64 0) 1 8 Tryz.underlying46 hj hy0 hy1 hy2 rfl (by decide) (.slice (some ⟨gq2, 0, none⟩) q2.length cq2) q2.length _ rfl hown0 _ 1 1 [.int .i64 k] rfl rfl hnw (by intro u hu; rw [List.mem_singleton] at hu; subst hu; rfl) (by decide) (by unfold maxLen; omega) (by omega) (by simp; omega) (V9.heap.size + 1) (by simp) ?_)
            intro g5 c6 w5 hown5 hgr5 hat5 hlt5
            rw [HLV.out] at hown5
            have hw5 : Own fInt w5 Bq 2 (.slice (some ⟨g5, 0, none⟩) (q2.length + 1) c6) (ints (q2 ++ [k])) := by rw [ints_snoc]; exact Own.push _ (by rw [ints_len]) hown5
            have hG5 := (hGa.add hw5 hgr5 (by
              rcases hat5 with e | e
              · exact .inl e.symm
              · exact .inr ⟨g5, rfl, by rw [hszW, e]; exact Nat.le_refl _⟩)).congr (f' := fun j => seenB (adjR xs) i j || memN j (q2 ++ [k])) (fun j _ => by rw [memN_snoc, Bool.or_assoc])
            have hb5 : Below w.heap.size w w5 := hbA.grown hgr5 (by have := hb9.size; simp; omega) (fun b hb => by have := (own_at hGa.qo hb).1; have := hbs; omega)
            have hb5' : Below w.heap.size V9 w5 := (((Below.refl w.heap.size V9).setCell (p := ⟨w.heap.size, k, none⟩) hgsl9.1 _).alloc (by rw [World.size_setCell]; exact hb9.size) _).grown hgr5 (by have := hb9.size; simp; omega) (fun b hb => by have := (own_at hGa.qo hb).1; have := hbs; omega)
            have hBw5 : Bq ≤ w5.heap.size := by have := hgr5.size; rw [hszW] at this; omega
            have hl2 : at_ < (q2 ++ [k]).length := by rw [List.length_append]; omega
            have hrb5 : w5.cell? ⟨bR, 1, none⟩ = some (.int .i64 xs[x0].level) := by
              have h1 : ((V9.setCell ⟨w.heap.size, k, none⟩ (.bool true)).alloc (.cells #[.int .i64 k] 2)).cell? ⟨bR, 1, none⟩ = some (.int .i64 xs[x0].level) := by
                have h2 : (V9.setCell ⟨w.heap.size, k, none⟩ (.bool true)).cell? ⟨bR, 1, none⟩ = some (.int .i64 xs[x0].level) := (World.cell?_setCell_far V9 ⟨w.heap.size, k, none⟩ ⟨bR, 1, none⟩ _ (show w.heap.size ≠ bR by omega)).trans hrb9
                exact (Below.cell (B := V9.heap.size) ((Below.refl _ _).alloc (by rw [World.size_setCell]; exact Nat.le_refl _) _) (p := ⟨bR, 1, none⟩) hrl9).trans h2
              exact (hgr5.cell_far ⟨bR, 1, none⟩ (by rw [hszW]; show bR < _; omega) (fun e => hrq gq2 rfl (by injection e with e; exact e.symm))).trans h1
            have hrq5 : ∀ b, (Value.slice (some ⟨g5, 0, none⟩) (q2.length + 1) c6).ownBlock = some b → b ≠ bR := fun b hb => by
              have hb : g5 = b := by injection hb
              rcases hat5 with e | e
              · exact hb ▸ hrq _ e
              · omega
            have hrl5 : bR < w5.heap.size := by have := hgr5.size; rw [hszW] at this; omega
            have hnear5 := hnear9.below hb5' hfkl
            clear hown0 HLV hnw hown5 hgr5 hat5 hlt5 hw5 hGa hG9 hbA hszW s9 z9 hrb9 hrl9 hnear9
            go_wp2
            go_roundw
            case rel => exact ⟨q2 ++ [k], m + 1, by omega, by go_num, HQ3.out, hl2, HQX2, HAL2, hG5, hrb5, hrq5, hrl5, hnear5, hb5, hBw5⟩
            case measure => simp [intOf]; omega
          · skip
            have e13 : (lk == xs[x0].level) = false := by rw [beq_eq_false_iff_ne]; exact hq13
            refine wpMix_pure (by kernel_rfl) (fun K hK => ?_); go_big_quiet_op; refine hK _ ?_; clear hK K
            refine wpMix_pure (by kernel_rfl) (fun K hK => ?_); go_big_quiet_op; refine hK _ ?_; clear hK K
            refine wpMix_nil ?_
            have hS9 : Below w7.heap.size w7 w7.drew := hS0
            have hG9 := hG7.below hS9
            have hb9 := hB7.trans (hS9.mono hB7.size)
            have hBw9 : Bq ≤ w7.drew.heap.size := Nat.le_trans hBw7 hS9.size
            have hrb9 : w7.drew.cell? ⟨bR, 1, none⟩ = some (.int .i64 xs[x0].level) := (hS9.cell (p := ⟨bR, 1, none⟩) hrl7).trans hrb7
            have hrl9 : bR < w7.drew.heap.size := Nat.lt_of_lt_of_le hrl7 hS9.size
            have hnear9 := hnear7.below' hS9
            have HAL2 : Hid (∀ y (hy : y < xs.length), adjR xs x0 y = true → xs[y].id ∈ xs[x0].near.take (m + 1) → y ∈ q2) := fun y hy ha h => by
              rcases HTK.out y hy h with h | rfl
              · exact HAL.out y hy ha h
              · rw [HADJ.out, decide_eq_false hq13] at ha; cases ha
            clear HADJ HNX HAL HTK hf
            go_wp2
            go_roundw
            case rel => exact ⟨q2, m + 1, by omega, by go_num, hq2, hat2, HQX, HAL2, hG9, hrb9, hrq, hrl9, hnear9, hb9, hBw9⟩
            case measure => simp [intOf]; omega

end Go.Proofs.YtgnbhcgagdfaiaaGreatDoor

namespace Go.Proofs.YtgnbhcgagdfaiaaGreatDoor
open Go.RowKit
set_option linter.unusedVariables false
section
variable {w w' u : World} {B n : Nat} {v v' : Value} {V : Nat → Value} {X : Nat → List ByteArray} {G : Nat → Nat}
theorem PgV.growAt {g cap m : Nat} (hm : m < n) {r : List ByteArray} {y : Value} {gy : Nat} (h : PgV w B (.slice (some ⟨g, 0, none⟩) n cap) n V X G) (hy : Own fStr u B 9 y r) (hgy : y.ownBlock = some gy)
    (hg : w.grownBy u (V m).ownBlock) (hl : y.ownBlock = (V m).ownBlock ∨ y.ownBlock = some w.heap.size) :
    PgV (u.setCell ⟨g, m, none⟩ y) B (.slice (some ⟨g, 0, none⟩) n cap) n (fun i => if i = m then y else V i) (fun i => if i = m then r else X i) (fun i => if i = m then gy else G i) := by
  obtain ⟨g', cap', hv, hgB, hgl⟩ := h.addr (by omega)
  injection hv with hv1 _ hv2
  injection hv1 with hv1
  injection hv1 with hv1
  subst hv1 hv2
  have hbn := h.blk m (by omega)
  have hgn : g ≠ G m := fun e => h.ap m (by omega) (by rw [← e]; rfl)
  have hgu : u.heap[g]? = w.heap[g]? := hg.block g hgl (by rw [hbn]; intro e; injection e with e; exact hgn e)
  have hgGi : ∀ i, i < n → g ≠ G i := fun i hi e => h.ap i hi (by rw [← e]; rfl)
  have hgy' : gy = G m ∨ gy = w.heap.size := by
    rcases hl with e | e
    · rw [hgy, hbn] at e; injection e with e; exact .inl e
    · rw [hgy] at e; injection e with e; exact .inr e
  have hne : g ≠ gy := by
    rcases hgy' with e | e
    · rw [e]; exact hgn
    · omega
  have hset : ∀ k, k < u.heap.size → k ≠ g → (u.setCell ⟨g, m, none⟩ y).heap[k]? = u.heap[k]? := fun k hkl hk => ((Only.refl [g] u).set m y).block k hkl (by rw [List.mem_singleton]; exact hk)
  refine ⟨?_, fun i hi => ?_, fun i hi => ?_, fun i j hi hj e => ?_, fun i hi => ?_⟩
  · have hu : u.ownsRow B 24 1 (.slice (some ⟨g, 0, none⟩) n cap) n ((List.range n).map V) := by
      obtain ⟨h1, h2⟩ := h.own
      refine ⟨h1, ?_⟩
      rcases h2 with ⟨hv, _⟩ | ⟨g2, c2, cur, hv, q1, q2, q3⟩
      · cases hv
      · injection hv with e1 _ e2
        injection e1 with e1
        injection e1 with e1
        subst e1 e2
        exact .inr ⟨g, cap, cur, rfl, q1, by rw [hgu]; exact q2, q3⟩
    have h2 := (hu.stored m y).1
    have em : ((List.range n).map V).set m y = (List.range n).map (fun i => if i = m then y else V i) := by
      refine List.ext_getElem (by simp) (fun i h1 h2 => ?_)
      rw [List.getElem_set]
      simp only [List.length_map, List.length_range] at h2
      by_cases e : m = i
      · subst e; simp
      · rw [if_neg e]; simp [Ne.symm e]
    rw [em] at h2
    exact h2
  · by_cases e : i = m
    · rw [if_pos e, if_pos e]
      exact own_stays hy (fun k hk hkl => hset k hkl (fun e2 => by rw [hgy] at hk; injection hk with hk; exact hne (by rw [← e2, ← hk])))
    · rw [if_neg e, if_neg e]
      have hGi : G i ≠ G m := fun e2 => e (h.inj i m (by omega) (by omega) e2)
      have h1 : Own fStr u B 9 (V i) (X i) := own_stays (h.row i (by omega)) (fun k hk hkl => hg.block k hkl (by
        rw [h.blk i (by omega)] at hk; injection hk with hk
        rw [hbn, ← hk]; intro e2; injection e2 with e2; exact hGi e2))
      exact own_stays h1 (fun k hk hkl => hset k hkl (fun e2 => by
        rw [h.blk i (by omega)] at hk; injection hk with hk
        exact hgGi i (by omega) (by rw [← e2, ← hk])))
  · by_cases e : i = m
    · rw [if_pos e, if_pos e]; exact hgy
    · rw [if_neg e, if_neg e]; exact h.blk i (by omega)
  · have hlt : ∀ k, k < n → k ≠ m → G k ≠ gy := fun k hk hkm e => by
      rcases hgy' with e2 | e2
      · exact hkm (h.inj k m hk hm (e.trans e2))
      · have := (h.gl (i := k) hk).2; omega
    by_cases e1 : i = m <;> by_cases e2 : j = m
    · omega
    · rw [if_pos e1, if_neg e2] at e; exact absurd e.symm (hlt j hj e2)
    · rw [if_neg e1, if_pos e2] at e; exact absurd e (hlt i hi e1)
    · rw [if_neg e1, if_neg e2] at e; exact h.inj i j hi hj e
  · show some g ≠ _
    by_cases e : i = m
    · rw [if_pos e]; intro e3; injection e3 with e3; exact hne e3
    · rw [if_neg e]; intro e3; injection e3 with e3; exact hgGi i (by omega) e3
end
end Go.Proofs.YtgnbhcgagdfaiaaGreatDoor

namespace Go.Proofs.YtgnbhcgagdfaiaaGreatDoor
open Go.RowKit
set_option linter.unusedVariables false

theorem Sl.elem2 {α : Type} {E : Cod α} {w : World} {A : Option Addr} {len cap : Nat} {xss : List (List α)} {fp : List Nat} {k : Nat} (h : Sl E.slice w (.slice A len cap) xss fp) (hk : k < xss.length) :
    ∃ b off vk fk, A = some ⟨b, off, none⟩ ∧ w.cell? ⟨b, off + k, none⟩ = some vk ∧ Sl E w vk xss[k] fk ∧ b ∈ fp ∧ ∀ c ∈ fk, c ∈ fp := by
  obtain ⟨b, off, V, F, hA, hb, hfp, hr⟩ := h.rows (by omega)
  have := hr.rd k hk
  simp [List.getD_eq_getElem?_getD, hk] at this
  exact ⟨b, off, V k, F k, hA, hr.cell k hk, this, by rw [hfp]; simp, fun c hc => by rw [hfp]; exact List.mem_cons_of_mem _ (List.mem_flatMap.2 ⟨k, List.mem_range.2 hk, hc⟩)⟩
structure CeC (w : World) (b o : Nat) (v : Value) : Prop where
  c : w.cell? ⟨b, o, none⟩ = some v
theorem CeC.below' {w w' : World} {b o : Nat} {v : Value} (h : CeC w b o v) (hb : Below w.heap.size w w') : CeC w' b o v := ⟨(hb.cell (p := ⟨b, o, none⟩) (block_lt_of_cell h.c)).trans h.c⟩
theorem CeC.lt {w : World} {b o : Nat} {v : Value} (h : CeC w b o v) : b < w.heap.size := block_lt_of_cell h.c
theorem only_of_grown {w u : World} {g : Nat} (h : w.grownBy u (some g)) : Only [g] w u := ⟨h.os, h.tape, h.output, h.size, fun k hk hn => h.block k hk (fun e => hn (by injection e with e; rw [List.mem_singleton]; exact e))⟩
theorem infoStrV : (Tryz.prog.info? 9).map (fun i => (i.zero, i.size, i.bytes)) = some (some (.string ⟨#[]⟩), 1, 16) := by kernel_rfl
noncomputable def rowA (xs : List DRegion) (j : Nat) : List ByteArray := if j = 0 then hdR else [(xs.getD (j - 1) rg0).id, decS (xs.getD (j - 1) rg0).level]
/-- The rows when the groups before t are told, and the first m of group t. -/
noncomputable def toldB (xs : List DRegion) (t m i : Nat) : Bool := decide (grpF (grL xs) i < t) || (decide (grpF (grL xs) i = t) && memN i (((grL xs).getD t []).take m))
noncomputable def rowB (xs : List DRegion) (t m j : Nat) : List ByteArray := if j = 0 then hdR else if toldB xs t m (j - 1) then rowR xs (j - 1) else rowA xs j
theorem rowB_zero {xs : List DRegion} (j : Nat) : rowB xs 0 0 j = rowA xs j := by
  unfold rowB toldB
  by_cases h : j = 0
  · rw [if_pos h]; unfold rowA; rw [if_pos h]
  · rw [if_neg h, if_neg (by simp [memN])]
theorem rowB_next {xs : List DRegion} (hv : regionsB xs = true) {t : Nat} (ht : t < (grL xs).length) {j : Nat} (hj : j < xs.length + 1) : rowB xs t (grL xs)[t].length j = rowB xs (t + 1) 0 j := by
  unfold rowB
  by_cases h : j = 0
  · rw [if_pos h, if_pos h]
  · rw [if_neg h, if_neg h]
    have hi : j - 1 < xs.length := by omega
    have e : toldB xs t (grL xs)[t].length (j - 1) = toldB xs (t + 1) 0 (j - 1) := by
      unfold toldB
      rw [getD_of_lt ht, List.take_length, List.take_zero, Bool.eq_iff_iff]
      have hm : grpF (grL xs) (j - 1) = t ↔ (j - 1) ∈ (grL xs)[t] := ⟨fun e => by have := grpF_has hi; simp only [e] at this; exact this, fun e => grpF_is hv ht e hi⟩
      simp only [Bool.or_eq_true, Bool.and_eq_true, decide_eq_true_eq, memN_true]
      constructor
      · rintro (h1 | ⟨h1, _⟩)
        · exact .inl (by omega)
        · exact .inl (by omega)
      · rintro (h1 | ⟨_, h2⟩)
        · rcases Nat.lt_or_eq_of_le (Nat.le_of_lt_succ h1) with h2 | h2
          · exact .inl h2
          · exact .inr ⟨h2, hm.1 h2⟩
        · cases h2
    rw [e]
/-- One member more. -/
theorem rowB_step {xs : List DRegion} (hv : regionsB xs = true) {t m : Nat} (ht : t < (grL xs).length) (hm : m < (grL xs)[t].length) {j : Nat} (hj : j < xs.length + 1) :
    (if j = 1 + (grL xs)[t][m] then [xs[(grL xs)[t][m]]'(grL_lt ht _ (List.getElem_mem hm)) |>.id, decS (xs[(grL xs)[t][m]]'(grL_lt ht _ (List.getElem_mem hm))).level] ++ [decS (t : Int)] else rowB xs t m j) = rowB xs t (m + 1) j := by
  have hil := grL_lt ht _ (List.getElem_mem hm)
  have hgi : grpF (grL xs) (grL xs)[t][m] = t := grpF_is hv ht (List.getElem_mem hm) hil
  have htk : ((grL xs).getD t []).take (m + 1) = ((grL xs).getD t []).take m ++ [(grL xs)[t][m]] := by rw [getD_of_lt ht]; exact List.take_succ_eq_append_getElem hm
  by_cases h : j = 1 + (grL xs)[t][m]
  · rw [if_pos h]
    subst h
    unfold rowB
    rw [if_neg (by omega), Nat.add_sub_cancel_left, if_pos]
    · unfold rowR
      rw [getD_of_lt hil, hgi]; rfl
    · unfold toldB
      rw [hgi, htk, memN_true.2 (List.mem_append_right _ (List.mem_singleton.2 rfl))]; simp
  · rw [if_neg h]
    unfold rowB
    by_cases h0 : j = 0
    · rw [if_pos h0, if_pos h0]
    · rw [if_neg h0, if_neg h0]
      have e : toldB xs t m (j - 1) = toldB xs t (m + 1) (j - 1) := by
        unfold toldB
        rw [htk]
        congr 1
        congr 1
        rw [Bool.eq_iff_iff, memN_true, memN_true, List.mem_append, List.mem_singleton]
        constructor
        · exact .inl
        · rintro (h1 | h1)
          · exact h1
          · omega
      rw [e]
theorem rowB_new {xs : List DRegion} {t m : Nat} (hv : regionsB xs = true) (ht : t < (grL xs).length) (hm : m < (grL xs)[t].length) : rowB xs t m (1 + (grL xs)[t][m]) = [xs[(grL xs)[t][m]]'(grL_lt ht _ (List.getElem_mem hm)) |>.id, decS (xs[(grL xs)[t][m]]'(grL_lt ht _ (List.getElem_mem hm))).level] := by
  have hil := grL_lt ht _ (List.getElem_mem hm)
  have hgi : grpF (grL xs) (grL xs)[t][m] = t := grpF_is hv ht (List.getElem_mem hm) hil
  have hnd : (grL xs)[t].Nodup := by
    have hmm := List.getElem_mem ht
    unfold grL groupsL at hmm
    obtain ⟨r, _, e⟩ := List.mem_map.1 hmm
    have e2 : (grL xs)[t] = compL xs.length (adjR xs) r := e.symm
    rw [e2, List.nodup_iff_pairwise_ne]
    exact compL_sorted.imp (fun h => by omega)
  have hni : (grL xs)[t][m] ∉ (grL xs)[t].take m := fun h => by
    obtain ⟨p, hp, e⟩ := List.getElem_of_mem h
    rw [List.length_take] at hp
    rw [List.getElem_take] at e
    have := (List.nodup_iff_pairwise_ne.1 hnd)
    rw [List.pairwise_iff_getElem] at this
    exact this p m (by omega) hm (by omega) e
  unfold rowB
  rw [if_neg (by omega), Nat.add_sub_cancel_left, if_neg]
  · unfold rowA
    rw [if_neg (by omega), Nat.add_sub_cancel_left, getD_of_lt hil]
  · unfold toldB
    rw [hgi, getD_of_lt ht]
    simp only [Bool.or_eq_true, Bool.and_eq_true, decide_eq_true_eq, memN_true]
    rintro (h | ⟨_, h⟩)
    · omega
    · exact hni h
theorem rowB_all {xs : List DRegion} : (List.range (xs.length + 1)).map (rowB xs (grL xs).length 0) = rowsR xs xs.length := by
  unfold rowsR
  rw [List.range_succ_eq_map, List.map_cons, List.map_map]
  congr 1
  refine List.map_congr_left (fun i hi => ?_)
  have hi := List.mem_range.1 hi
  show rowB xs (grL xs).length 0 (i + 1) = rowR xs i
  unfold rowB
  rw [if_neg (by omega), Nat.add_sub_cancel, if_pos]
  unfold toldB
  rw [decide_eq_true (grpF_lt hi)]; rfl
set_option maxRecDepth 100000 in
set_option maxHeartbeats 8000000 in
theorem implRegionReport_any (v : Value) (xs : List DRegion) (fp : List Nat) (w : World) (hx : Sl cRegion w v xs fp) (ht : Tab10 w) :
    Calls Tryz.prog 8 #[v] w fun e w' => NewR2 fStr.cod w (rrF xs) (rrC xs) e w' := by
  obtain ⟨A, cap, rfl, hle, hca⟩ := hx.form
  obtain ⟨i0, hi, hz0, hz1, hz2⟩ := info_parts infoSliceR
  obtain ⟨j0, hj, hy0, hy1, hy2⟩ := info_parts infoStrV
  have hlt0 := hx.lt
  go_enter Tryz.func8, Tryz.ntmps8
  go_wp2_with fail
  refine (ValidRegions_any _ xs fp _ hx).mono ?_
  rintro e w1 ⟨rfl, hb1⟩
  cases h0 : regionsB xs
  · go_wp2
    go_ret2
    exact ⟨_, by rw [rrC, h0]; rfl, by rw [rrF, h0]; exact New.nil hb1⟩
  have HC := Lib.hid (show rrC xs = doneC (tabF (rowsR xs xs.length)) from by rw [rrC, h0]; rfl)
  have HF := Lib.hid (show rrF xs = doneF (tabF (rowsR xs xs.length)) from by rw [rrF, h0]; rfl)
  have hn8 := regs_len h0
  have H0 := Lib.hid h0
  have hszw := hb1.size
  clear h0
  have hBa : Below w.heap.size w (w1.alloc (.cells #[.string ⟨#[114, 101, 103, 105, 111, 110]⟩, .string ⟨#[108, 101, 118, 101, 108]⟩, .string ⟨#[103, 114, 111, 117, 112]⟩] 9)) := hb1.alloc hb1.size _
  have hB0 : Below w.heap.size w ((w1.alloc (.cells #[.string ⟨#[114, 101, 103, 105, 111, 110]⟩, .string ⟨#[108, 101, 118, 101, 108]⟩, .string ⟨#[103, 114, 111, 117, 112]⟩] 9)).alloc (.cells #[.slice (some ⟨w1.heap.size, 0, none⟩) 3 3] 24)) := hBa.alloc hBa.size _
  have hoh : Own fStr ((w1.alloc (.cells #[.string ⟨#[114, 101, 103, 105, 111, 110]⟩, .string ⟨#[108, 101, 118, 101, 108]⟩, .string ⟨#[103, 114, 111, 117, 112]⟩] 9)).alloc (.cells #[.slice (some ⟨w1.heap.size, 0, none⟩) 3 3] 24)) w1.heap.size 9 (.slice (some ⟨w1.heap.size, 0, none⟩) 3 3) hdR :=
    World.ownsRow.alloc (World.ownsRow_lit (e := 9) (size := 1) w1 #[.string ⟨#[114, 101, 103, 105, 111, 110]⟩, .string ⟨#[108, 101, 118, 101, 108]⟩, .string ⟨#[103, 114, 111, 117, 112]⟩] 3 (Nat.le_refl _) (by decide) rfl) _
  have hro : ((w1.alloc (.cells #[.string ⟨#[114, 101, 103, 105, 111, 110]⟩, .string ⟨#[108, 101, 118, 101, 108]⟩, .string ⟨#[103, 114, 111, 117, 112]⟩] 9)).alloc (.cells #[.slice (some ⟨w1.heap.size, 0, none⟩) 3 3] 24)).ownsRow w1.heap.size 24 1 (.slice (some ⟨w1.heap.size + 1, 0, none⟩) 1 1) 1 [.slice (some ⟨w1.heap.size, 0, none⟩) 3 3] := by
    have h := World.ownsRow_lit (e := 24) (size := 1) (base := w1.heap.size) (w1.alloc (.cells #[.string ⟨#[114, 101, 103, 105, 111, 110]⟩, .string ⟨#[108, 101, 118, 101, 108]⟩, .string ⟨#[103, 114, 111, 117, 112]⟩] 9)) #[.slice (some ⟨w1.heap.size, 0, none⟩) 3 3] 1 (by simp) (by decide) rfl
    rw [World.size_alloc] at h; exact h
  have hpg0 : PgV ((w1.alloc (.cells #[.string ⟨#[114, 101, 103, 105, 111, 110]⟩, .string ⟨#[108, 101, 118, 101, 108]⟩, .string ⟨#[103, 114, 111, 117, 112]⟩] 9)).alloc (.cells #[.slice (some ⟨w1.heap.size, 0, none⟩) 3 3] 24)) w1.heap.size (.slice (some ⟨w1.heap.size + 1, 0, none⟩) 1 1) 1 (fun _ => .slice (some ⟨w1.heap.size, 0, none⟩) 3 3) (rowA xs) (fun _ => w1.heap.size) :=
    ⟨hro, fun i hi => by obtain rfl : i = 0 := by omega
                         exact hoh, fun i hi => rfl, fun i j hi hj _ => by omega, fun i hi e => by
      have e : w1.heap.size + 1 = w1.heap.size := by injection e
      omega⟩
  clear hoh hro hBa
  go_wp2
  go_loopw [4, 18] (fun v c wr => ∃ (k : Nat) (V : Nat → Value) (G : Nat → Nat), k ≤ xs.length ∧ c = .int .i64 k ∧ PgV wr w1.heap.size v (k + 1) V (rowA xs) G ∧ Below w.heap.size w wr) (fun _ c _ => xs.length - (intOf c).toNat)
  case atStart => exact ⟨0, _, _, Nat.zero_le _, rfl, hpg0, hB0⟩
  case round => as_aux_lemma =>
    clear hpg0 hB0
    obtain ⟨k, V, G, hk, rfl, hpg, hb⟩ := hrel
    by_cases hlt : k < xs.length
    · have hki : (k : Int) < (xs.length : Int) := by omega
      obtain ⟨b, off, vk, fk, rfl, r0, r1, r2, hnr, _⟩ := (hx.below' hb).reg hlt
      obtain ⟨An, cn, rfl, _, _⟩ := hnr.form
      have hlv := regs_level H0.out hlt
      have HRA : Hid (rowA xs (k + 1) = [xs[k].id, decS xs[k].level]) := by show _ = _; unfold rowA; rw [if_neg (by omega), Nat.add_sub_cancel, getD_of_lt hlt]
      have hrow : u4.ownBlock ≠ some wr.heap.size := fun e => by have := (World.ownsRow.lt hpg.own _ e).2; omega
      have hbl : w1.heap.size ≤ wr.heap.size := by
        obtain ⟨g, c, _, h1, h2⟩ := hpg.addr (by omega)
        omega
      go_wp2
      refine at_world (fun W => Below w.heap.size w W ∧ RgC W wr.heap.size 0 xs[k] ∧ PgV W w1.heap.size u4 (k + 1) V (rowA xs) G ∧ wr.heap.size ≤ W.heap.size) ⟨hb.alloc hb.size _, ⟨by simp, by simp⟩, hpg.below ((Below.refl _ _).alloc (Nat.le_refl _) _), by simp⟩ ?_
      clear r0 r1 r2 hnr hpg hb
      generalize wr.heap.size = wq at *
      rintro W ⟨hBW, hpW, hrW, hWq⟩
      have hbW : w1.heap.size ≤ W.heap.size := by omega
      have hrowne : some wq = u4.ownBlock → False := fun e => hrow e.symm
      have gk0 : ∀ p : KeptW (w1.heap.size) W (fun N => RgC N wq 0 xs[k]), p.v.cell? ⟨wq, 0, none⟩ = some (.string xs[k].id) := fun p => p.x.c0
      have gk1 : ∀ p : KeptW (w1.heap.size) W (fun N => RgC N wq 0 xs[k]), p.v.cell? ⟨wq, 1, none⟩ = some (.int .i64 xs[k].level) := fun p => p.x.c1
      haveI hKne : Nonempty (KeptW (w1.heap.size) W (fun N => RgC N wq 0 xs[k])) := ⟨⟨_, Below.drew (Below.refl _ _), (hpW.below' (Below.drew (Below.refl _ _)))⟩⟩
      refine wp_region_mix (C := fun w' => ∃ p : KeptW (w1.heap.size) W (fun N => RgC N wq 0 xs[k]), w' = p.v) [true, true, true, true, true, false, false, false, false, true] (by kernel_rfl) (by kernel_rfl) (by kernel_rfl) (fun _ _ d _ _ h => by cases d <;> exact h) ⟨⟨_, Below.drew (Below.refl _ _), (hpW.below' (Below.drew (Below.refl _ _)))⟩, rfl⟩ ?_
      have hS0 : Below (w1.heap.size) W W.drew := Below.drew (Below.refl _ _)
      refine wpMix_pure (by kernel_rfl) (fun K hK => ?_); go_big_quiet_op; refine hK _ ?_; clear hK K
      refine wpMix_pure (by kernel_rfl) (fun K hK => ?_); go_big_quiet_op; refine hK _ ?_; clear hK K
      refine wpMix_pure (by kernel_rfl) (fun K hK => ?_); go_big_quiet_op; refine hK _ ?_; clear hK K
      refine wpMix_pure (by kernel_rfl) (fun K hK => ?_); go_big_quiet_op; refine hK _ ?_; clear hK K
      refine wpMix_pure (by kernel_rfl) (fun K hK => ?_); go_big_quiet_op; refine hK _ ?_; clear hK K
      refine wpMix_act (by kernel_rfl) (fun K hK => ?_)
      go_big_op
      refine (Decimal_any xs[k].level _ (by omega) (by omega) (ht.below (hBW.trans (hS0.mono hszw)))).mono ?_
      rintro e wr1 ⟨rfl, hbr1⟩
      have hbr1S : Below (w1.heap.size) W wr1 := hS0.trans (hbr1.mono (Nat.le_trans hbW hS0.size))
      refine hK _ _ ⟨⟨_, hbr1S, (((hpW.below' (Below.drew (Below.refl _ _)))).below' hbr1)⟩, rfl⟩ ?_
      clear hK K
      refine wpMix_act (by kernel_rfl) (fun K hK => ?_)
      go_big_op
      refine hK _ _ ⟨⟨_, (hbr1S.alloc (Nat.le_trans hbW hbr1S.size) _), (((((hpW.below' (Below.drew (Below.refl _ _)))).below' hbr1)).below' ((Below.refl _ _).alloc (Nat.le_refl _) _))⟩, rfl⟩ ?_
      clear hK K
      refine mix_world (fun N => Below (w1.heap.size) W N ∧ RgC N wq 0 xs[k] ∧ PgV N w1.heap.size u4 (k + 1) V (rowA xs) G ∧ Own fStr N w1.heap.size 9 (.slice (some ⟨wr1.heap.size, 0, none⟩) 2 2) [xs[k].id, decS xs[k].level] ∧ wr1.heap.size < N.heap.size) ⟨hbr1S.alloc (Nat.le_trans hbW hbr1S.size) _, ⟨((hpW.below' (Below.drew (Below.refl _ _))).below' hbr1).below' ((Below.refl _ _).alloc (Nat.le_refl _) _), ((hrW.below (Below.drew (Below.refl _ _))).below hbr1).below ((Below.refl _ _).alloc (Nat.le_refl _) _), World.ownsRow_lit (e := 9) (size := 1) wr1 #[.string xs[k].id, .string (decS xs[k].level)] 2 (Nat.le_trans hbW hbr1S.size) (by decide) rfl, by simp⟩⟩ ?_
      rintro wr2 ⟨hbr2S, hbr2F⟩
      refine wpMix_act (by kernel_rfl) (fun K hK => ?_)
      go_big_op
      refine hK _ _ ⟨⟨_, (hbr2S.alloc (Nat.le_trans hbW hbr2S.size) _), ((hbr2F.1).below' ((Below.refl _ _).alloc (Nat.le_refl _) _))⟩, rfl⟩ ?_
      clear hK K
      refine mix_world (fun N => Below (w1.heap.size) W N ∧ RgC N wq 0 xs[k] ∧ PgV N w1.heap.size u4 (k + 1) V (rowA xs) G ∧ Own fStr N w1.heap.size 9 (.slice (some ⟨wr1.heap.size, 0, none⟩) 2 2) [xs[k].id, decS xs[k].level] ∧ wr1.heap.size < N.heap.size ∧ N.cell? ⟨wr2.heap.size, 0, none⟩ = some (.slice (some ⟨wr1.heap.size, 0, none⟩) 2 2)) ⟨hbr2S.alloc (Nat.le_trans hbW hbr2S.size) _, ⟨hbr2F.1.below' ((Below.refl _ _).alloc (Nat.le_refl _) _), hbr2F.2.1.below ((Below.refl _ _).alloc (Nat.le_refl _) _), hbr2F.2.2.1.below ((Below.refl _ _).alloc (Nat.le_refl _) _), by have := hbr2F.2.2.2; simp; omega, by simp⟩⟩ ?_
      rintro wr3 ⟨hbr3S, hbr3F⟩
      refine wpMix_act (by kernel_rfl) (fun K hK => ?_)
      obtain ⟨hp6, hr6, hy6, hlt6, hc6⟩ := hbr3F
      refine wp_append_at2 _ _ _ 61 rfl w1.heap.size 24 i0 (.slice none 0 0) 1 24 Tryz.underlying61 hi hz0 hz1 hz2 rfl (by decide) u4 (k + 1) _ rfl hr6.own [.slice (some ⟨wr1.heap.size, 0, none⟩) 2 2] rfl (by intro u hu; rw [List.mem_singleton] at hu; subst hu; rfl) wr2.heap.size rfl (by intro j u hj; match j, hj with | 0, hj => (injection hj with hj; subst hj; exact hc6) | j + 1, hj => (simp at hj)) (by omega) (by decide) (Nat.le_trans hbW hbr3S.size) ?_
      intro v' u hown hbu hgr5 hli
      have hr7 := hr6.push hy6 (gy := wr1.heap.size) rfl (fun i hi e => by have := (hrW.gl hi).2; have := W_le hbr1S; omega) (fun e => by have := (World.ownsRow.lt hrW.own _ e).2; have := W_le hbr1S; omega) hown hgr5 hli
      replace hr7 := hr7.congr (X' := rowA xs) (fun i hi => if h : i = k + 1 then (by rw [if_pos h, h, HRA.out]) else (by rw [if_neg h]))
      clear hown
      have hpu : RgC u wq 0 xs[k] := hp6.keptI (fun j => World.cell?_of_block (a := ⟨wq, j, none⟩) (hgr5.block wq hp6.lt (fun e => hrowne e)))
      have hbuS : Below (w1.heap.size) W u := hbr3S.trans hbu
      try simp only [Act.put, List.setIfInBounds_toArray, List.set_cons_zero, List.set_cons_succ]
      refine hK _ _ ⟨⟨_, hbuS, hpu⟩, rfl⟩ ?_
      clear hK K
      refine wpMix_pure (by kernel_rfl) (fun K hK => ?_); go_big_quiet_op; refine hK _ ?_; clear hK K
      refine wpMix_nil ?_
      have hb9 := hBW.trans (hbuS.mono hszw)
      go_wp2
      go_roundw
      case rel => exact ⟨k + 1, _, _, by omega, by go_num, hr7, hb9⟩
      case measure => simp [intOf]; omega
    · rename World => wo
      obtain rfl : k = xs.length := by omega
      have hki : ¬ (xs.length : Int) < (xs.length : Int) := by omega
      have hbl : w1.heap.size ≤ wo.heap.size := by
        obtain ⟨g, c, _, h1, h2⟩ := hpg.addr (by omega)
        omega
      go_wp2_with fail
      refine (joined_any _ xs fp _ (hx.below' hb) H0.out).mono ?_
      rintro e w2 ⟨vg, fq, rfl, hgr, hlo, hb2⟩
      rw [show groupsL xs.length (adjR xs) xs.length = grL xs from rfl] at hgr
      have hpg2 := hpg.below hb2
      have hB2 := hb.trans (hb2.mono hb.size)
      have hgq := hgr.lt
      have hgl0 : ∀ j, j < xs.length + 1 → G j < wo.heap.size ∨ w2.heap.size ≤ G j := fun j hj => .inl (hpg.gl hj).2
      have hap0 : ∀ b, u4.ownBlock = some b → b < wo.heap.size := fun b e => (World.ownsRow.lt hpg.own _ e).2
      have hsz2 := hb2.size
      have hap1 : ∀ j, j < xs.length + 1 → (rowB xs 0 0) j = rowA xs j := fun j _ => rowB_zero j
      obtain ⟨gR, cR, rfl, _, _⟩ := hpg.addr (by omega)
      have hgR : gR < wo.heap.size := hap0 gR rfl
      obtain ⟨Ag, cg, rfl, _, _⟩ := hgr.form
      have hgl : ((grL xs).map ints).length = (grL xs).length := List.length_map _
      rw [hgl] at hgr ⊢
      have hgn := grL_len (xs := xs)
      have hpg3 := hpg2.congr (X' := rowB xs 0 0) (fun j hj => (hap1 j hj).symm)
      clear hpg hpg2 hb hb2 hap0 hap1 hgl
      go_wp2
      go_loopw [35] (fun c wr => ∃ (t : Nat) (V : Nat → Value) (G : Nat → Nat), t ≤ (grL xs).length ∧ c = .int .i64 t ∧ PgV wr w1.heap.size (.slice (some ⟨gR, 0, none⟩) (xs.length + 1) cR) (xs.length + 1) V (rowB xs t 0) G ∧ (∀ j, j < xs.length + 1 → G j < wo.heap.size ∨ w2.heap.size ≤ G j) ∧ Sl fInt.cod.slice wr (.slice Ag (grL xs).length cg) ((grL xs).map ints) fq ∧ Below w.heap.size w wr ∧ w2.heap.size ≤ wr.heap.size) (fun c _ => (grL xs).length - (intOf c).toNat)
      case atStart => exact ⟨0, _, _, Nat.zero_le _, rfl, hpg3, hgl0, hgr, hB2, Nat.le_refl _⟩
      case round => as_aux_lemma =>
        clear hpg3 hgl0 hgr hB2
        obtain ⟨t, V, G, ht', rfl, hpg, hgG, hgr, hb, hsz⟩ := hrel
        by_cases hltt : t < (grL xs).length
        rotate_left
        · obtain rfl : t = (grL xs).length := by omega
          have hti : ¬ ((grL xs).length : Int) < ((grL xs).length : Int) := by omega
          obtain ⟨fpr, hsl, _⟩ := hpg.sl (xss := rowsR xs xs.length) rowB_all.symm (fun i hi x hx => by
            have : rowB xs (grL xs).length 0 i ∈ rowsR xs xs.length := by rw [← rowB_all]; exact List.mem_map.2 ⟨i, List.mem_range.2 hi, rfl⟩
            have h := rowsR_size H0.out _ this x hx
            show _ ≤ _; omega)
          have hrs := rowsR_size H0.out
          have hrk := rowsR_ok H0.out
          have hlen7 : (rowsR xs xs.length).length ≤ 1048577 := by rw [rowsR_len]; omega
          have HTC := Lib.hid (show tlC (rowsR xs xs.length) = doneC (tabF (rowsR xs xs.length)) from by rw [tlC, hrk]; rfl)
          have HTF := Lib.hid (show tlF (rowsR xs xs.length) = doneF (tabF (rowsR xs xs.length)) from by rw [tlF, hrk]; rfl)
          have HRL := Lib.hid (rowsR_len xs xs.length)
          clear hrk hpg hgG hgr
          go_wp2_with fail
          refine (implTableLines_any _ (rowsR xs xs.length) fpr _ hsl hlen7 hrs).mono ?_
          rintro e w3 ⟨v3, rfl, hn⟩
          have hn2 := hn.later hb
          rw [HTF.out] at hn2
          go_wp2
          go_ret2
          exact ⟨_, by rw [HC.out, ← HTC.out]; rfl, by rw [HF.out]; exact hn2⟩
        have hti : (t : Int) < ((grL xs).length : Int) := by omega
        obtain ⟨bP, oP, vP, fP, rfl, hcP, hrP, _, hfP⟩ := hgr.elem2 (k := t) (by rw [List.length_map]; exact hltt)
        rw [List.getElem_map] at hrP
        obtain ⟨AK, cK, rfl, _, _⟩ := hrP.form
        rw [ints_len] at hrP hcP
        have hmlt := grL_lt hltt
        have hfPq : ∀ c ∈ fP, c ∈ fq := hfP
        go_wp2
        go_loopw [42] (fun c wr => ∃ (m : Nat) (V : Nat → Value) (G : Nat → Nat), m ≤ (grL xs)[t].length ∧ c = .int .i64 m ∧ PgV wr w1.heap.size (.slice (some ⟨gR, 0, none⟩) (xs.length + 1) cR) (xs.length + 1) V (rowB xs t m) G ∧ (∀ j, j < xs.length + 1 → G j < wo.heap.size ∨ w2.heap.size ≤ G j) ∧ Sl fInt.cod.slice wr (.slice (some ⟨bP, oP, none⟩) (grL xs).length cg) ((grL xs).map ints) fq ∧ Sl fInt.cod wr (.slice AK (grL xs)[t].length cK) (ints (grL xs)[t]) fP ∧ Below w.heap.size w wr ∧ w2.heap.size ≤ wr.heap.size) (fun c _ => (grL xs)[t].length - (intOf c).toNat)
        case atStart => exact ⟨0, V, G, Nat.zero_le _, rfl, hpg, hgG, hgr, hrP, hb, hsz⟩
        case round => as_aux_lemma =>
          clear hpg hgG hgr hrP hb hsz hcP V G
          obtain ⟨m, V, G, hm, rfl, hpg, hgG, hgr, hrP, hb, hsz⟩ := hrel
          by_cases hltm : m < (grL xs)[t].length
          rotate_left
          · obtain rfl : m = (grL xs)[t].length := by omega
            have hmi : ¬ (((grL xs)[t].length : Nat) : Int) < (((grL xs)[t].length : Nat) : Int) := by omega
            have hpg3 := hpg.congr (X' := rowB xs (t + 1) 0) (fun j hj => rowB_next H0.out hltt hj)
            clear hpg
            go_wp2
            go_roundw
            case rel => exact ⟨t + 1, V, G, by omega, by go_num, hpg3, hgG, hgr, hb, hsz⟩
            case measure => simp [intOf]; omega
          have hmi : (m : Int) < ((grL xs)[t].length : Int) := by omega
          obtain ⟨b1, o1, rfl, _, _, n0, _⟩ := hrP.cell1 rfl (k := m) (by rw [ints_len]; exact hltm) rfl
          have HN : Hid (rowB xs t m (1 + (grL xs)[t][m]) = _) := rowB_new H0.out hltt hltm
          have HB : Hid (∀ j, j < xs.length + 1 → _ = rowB xs t (m + 1) j) := fun j hj => rowB_step H0.out hltt hltm hj
          have hm1 : Hid (m + 1 ≤ (grL xs)[t].length) := hltm
          have hil := hmlt _ (List.getElem_mem hltm)
          have hlv := regs_level H0.out hil
          replace n0 : wr.cell? ⟨b1, o1 + m, none⟩ = some (.int .i64 (((grL xs)[t][m] : Nat) : Int)) := by
            have e : (ints (grL xs)[t])[m]'(by rw [ints_len]; exact hltm) = (((grL xs)[t][m] : Nat) : Int) := by
              have := ints_get hltm
              rw [List.getElem?_eq_getElem (by rw [ints_len]; exact hltm)] at this
              exact Option.some.inj this
            rw [← e]; simpa using n0
          generalize (xs[(grL xs)[t][m]]'hil).id = sid at *
          generalize (xs[(grL xs)[t][m]]'hil).level = slv at *
          generalize hii : (grL xs)[t][m] = ii at *
          have hIl : ii < xs.length + 1 := by omega
          have hii1 : 1 + ii < xs.length + 1 := by omega
          have hiii : 1 + (ii : Int) < ((xs.length + 1 : Nat) : Int) := by omega
          have hgi : (t : Int) ≤ 8 := by omega
          obtain ⟨cV, hVc⟩ := hpg.last hii1 (by rw [HN.out]; exact Nat.succ_pos _)
          rw [HN.out] at hVc
          have hcell : wr.cell? ⟨gR, 1 + ii, none⟩ = some (V (1 + ii)) := by rw [hpg.own.cellAt (1 + ii) (by omega), List.getElem?_map, List.getElem?_range hii1]; rfl
          have hgRl : gR < wr.heap.size := by omega
          have hGI := hgG (1 + ii) hii1
          have hBI := hpg.blk (1 + ii) hii1
          rw [hVc] at hcell
          replace hcell : wr.cell? ⟨gR, 1 + ii, none⟩ = some (.slice (some ⟨G (1 + ii), 0, none⟩) 2 cV) := hcell
          have hVc2 : V (1 + ii) = .slice (some ⟨G (1 + ii), 0, none⟩) 2 cV := hVc
          have hpW : CeC wr gR (1 + ii) (.slice (some ⟨G (1 + ii), 0, none⟩) 2 cV) := ⟨hcell⟩
          have hbW : w1.heap.size ≤ wr.heap.size := by have := hpg.gl hii1; omega
          have hgRb : w1.heap.size ≤ gR := (World.ownsRow.lt hpg.own gR rfl).1
          have hGne : gR ≠ G (1 + ii) := fun e => hpg.ap (1 + ii) hii1 (by rw [← e]; rfl)
          have hdt := (show (0 : Int) ≤ (t : Int) from Int.natCast_nonneg t)
          clear hVc hcell hBI
          go_wp2
          have gk0 : ∀ p : KeptW (w1.heap.size) wr (fun N => CeC N gR (1 + ii) (.slice (some ⟨G (1 + ii), 0, none⟩) 2 cV)), p.v.cell? ⟨gR, 1 + ii, none⟩ = some (.slice (some ⟨G (1 + ii), 0, none⟩) 2 cV) := fun p => p.x.c
          haveI hKne : Nonempty (KeptW (w1.heap.size) wr (fun N => CeC N gR (1 + ii) (.slice (some ⟨G (1 + ii), 0, none⟩) 2 cV))) := ⟨⟨_, Below.drew (Below.refl _ _), (hpW.below' (Below.drew (Below.refl _ _)))⟩⟩
          refine wp_region_sink (C := fun w' => ∃ p : KeptW (w1.heap.size) wr (fun N => CeC N gR (1 + ii) (.slice (some ⟨G (1 + ii), 0, none⟩) 2 cV)), w' = p.v) [0, 1, 2, 3, 4, 5, 6, 7, 8, 9, 10, 11, 12, 13] [true, true, true, true, true, true, true, true, true, false, false, false, true, false] 13 (by kernel_rfl) (by kernel_rfl) (by kernel_rfl) (fun _ _ d _ _ h => by cases d <;> exact h) ⟨⟨_, Below.drew (Below.refl _ _), (hpW.below' (Below.drew (Below.refl _ _)))⟩, rfl⟩ ?_
          simp only [List.map_cons, List.map_nil, List.getD_cons_zero, List.getD_cons_succ]
          have hS0 : Below (w1.heap.size) wr wr.drew := Below.drew (Below.refl _ _)
          refine wpMixS_pure (by kernel_rfl) (fun K hK => ?_)
          go_big_quiet_op
          refine hK _ ?_; clear hK K
          refine wpMixS_pure (by kernel_rfl) (fun K hK => ?_)
          go_big_quiet_op
          refine hK _ ?_; clear hK K
          refine wpMixS_pure (by kernel_rfl) (fun K hK => ?_)
          go_big_quiet_op
          refine hK _ ?_; clear hK K
          refine wpMixS_pure (by kernel_rfl) (fun K hK => ?_)
          go_big_quiet_op
          refine hK _ ?_; clear hK K
          refine wpMixS_pure (by kernel_rfl) (fun K hK => ?_)
          go_big_quiet_op
          refine hK _ ?_; clear hK K
          refine wpMixS_pure (by kernel_rfl) (fun K hK => ?_)
          go_big_quiet_op
          refine hK _ ?_; clear hK K
          refine wpMixS_pure (by kernel_rfl) (fun K hK => ?_)
          go_big_quiet_op
          refine hK _ ?_; clear hK K
          refine wpMixS_pure (by kernel_rfl) (fun K hK => ?_)
          go_big_quiet_op
          refine hK _ ?_; clear hK K
          refine wpMixS_pure (by kernel_rfl) (fun K hK => ?_)
          go_big_quiet_op
          refine hK _ ?_; clear hK K
          refine wpMixS_act (by kernel_rfl) (fun K hK => ?_)
          go_big_op
          refine (Decimal_any (t : Int) _ (by omega) (by omega) (ht.below (hb.trans (hS0.mono hszw)))).mono ?_
          rintro e wr1 ⟨rfl, hbr1⟩
          have hbr1S : Below (w1.heap.size) wr wr1 := hS0.trans (hbr1.mono (Nat.le_trans hbW hS0.size))
          refine hK _ _ ⟨⟨_, hbr1S, (((hpW.below' (Below.drew (Below.refl _ _)))).below' hbr1)⟩, rfl⟩ ?_
          clear hK K
          refine wpMixS_act (by kernel_rfl) (fun K hK => ?_)
          go_big_op
          refine hK _ _ ⟨⟨_, (hbr1S.alloc (Nat.le_trans hbW hbr1S.size) _), (((((hpW.below' (Below.drew (Below.refl _ _)))).below' hbr1)).below' ((Below.refl _ _).alloc (Nat.le_refl _) _))⟩, rfl⟩ ?_
          clear hK K
          refine mixS_world (fun N => Below (w1.heap.size) wr N ∧ CeC N gR (1 + ii) (.slice (some ⟨G (1 + ii), 0, none⟩) 2 cV) ∧ PgV N w1.heap.size (.slice (some ⟨gR, 0, none⟩) (xs.length + 1) cR) (xs.length + 1) V (rowB xs t m) G ∧ (Sl fInt.cod.slice N (.slice (some ⟨bP, oP, none⟩) (grL xs).length cg) ((grL xs).map ints) fq ∧ Sl fInt.cod N (.slice (some ⟨b1, o1, none⟩) (grL xs)[t].length cK) (ints (grL xs)[t]) fP) ∧ wr1.heap.size < N.heap.size ∧ N.cell? ⟨wr1.heap.size, 0, none⟩ = some (.string (decS (t : Int)))) ⟨hbr1S.alloc (Nat.le_trans hbW hbr1S.size) _, ⟨((hpW.below' (Below.drew (Below.refl _ _))).below' hbr1).below' ((Below.refl _ _).alloc (Nat.le_refl _) _), ((hpg.below (Below.drew (Below.refl _ _))).below hbr1).below ((Below.refl _ _).alloc (Nat.le_refl _) _), ⟨((hgr.below' (Below.drew (Below.refl _ _))).below' hbr1).below' ((Below.refl _ _).alloc (Nat.le_refl _) _), ((hrP.below' (Below.drew (Below.refl _ _))).below' hbr1).below' ((Below.refl _ _).alloc (Nat.le_refl _) _)⟩, by simp, by simp⟩⟩ ?_
          rintro wr2 ⟨hbr2S, hbr2F⟩
          refine wpMixS_act (by kernel_rfl) (fun K hK => ?_)
          obtain ⟨hp6, hr6, ⟨hgr6, hrP6⟩, hlt6, hc6⟩ := hbr2F
          have hown6 : wr2.ownsRow w1.heap.size 9 1 (.slice (some ⟨G (1 + ii), 0, none⟩) 2 cV) 2 ([sid, decS slv].flatMap fStr.enc) := by have h := hr6.row (1 + ii) hii1; rw [hVc2, HN.out] at h; exact h
          refine wp_append_at2 _ _ _ 24 rfl w1.heap.size 9 j0 (.string ⟨#[]⟩) 1 16 Tryz.underlying24 hj hy0 hy1 hy2 rfl (by decide) (.slice (some ⟨G (1 + ii), 0, none⟩) 2 cV) 2 _ rfl hown6 [.string (decS (t : Int))] rfl (by intro u hu; rw [List.mem_singleton] at hu; subst hu; rfl) wr1.heap.size rfl (by intro j u hj; match j, hj with | 0, hj => (injection hj with hj; subst hj; exact hc6) | j + 1, hj => (simp at hj)) (by omega) (by decide) (Nat.le_trans hbW hbr2S.size) ?_
          intro v' u hown hbu hgr5 hli
          obtain ⟨A9, c9, hv9⟩ : ∃ A c, v' = .slice A 3 c := by
            rcases hown.2 with ⟨_, e2⟩ | ⟨g9, cap9, cur9, e, _⟩
            · exact absurd e2 (by simp)
            · exact ⟨_, _, e⟩
          subst hv9
          have hrow7 : Own fStr u w1.heap.size 9 (.slice A9 3 c9) ([sid, decS slv] ++ [decS (t : Int)]) := hown
          have hgu := hgr5.size
          have hpu : CeC u gR (1 + ii) (.slice (some ⟨G (1 + ii), 0, none⟩) 2 cV) := ⟨(World.cell?_of_block (a := ⟨gR, 1 + ii, none⟩) (hgr5.block gR hp6.lt (fun e => hGne (by injection e)))).trans hp6.c⟩
          have hW6 := (World.ownsRow.lt hown6 _ rfl).2
          obtain ⟨gy, hgy, hgyc⟩ : ∃ gy, (Value.slice A9 3 c9).ownBlock = some gy ∧ (gy = G (1 + ii) ∨ gy = wr2.heap.size) := by
            rcases hli with e | e
            · exact ⟨G (1 + ii), e, .inl rfl⟩
            · exact ⟨_, e, .inr rfl⟩
          have hp7 := PgV.growAt hii1 hr6 hrow7 hgy (by rw [hVc2]; exact hgr5) (by rw [hVc2]; exact hli)
          have hgr7 := hgr6.only (only_of_grown hgr5) (fun b hb h => by have h1 := hlo b hb; have h2 := hgq b hb; have h3 : b = G (1 + ii) := List.mem_singleton.1 h; omega)
          have hrP7 := hrP6.only (only_of_grown hgr5) (fun b hb h => by have h1 := hlo b (hfPq b hb); have h2 := hgq b (hfPq b hb); have h3 : b = G (1 + ii) := List.mem_singleton.1 h; omega)
          have HP9 := Lib.hid (hp7.congr (fun j hj => HB.out j hj))
          have HGR9 := Lib.hid (hgr7.only ((Only.refl [gR] u).set (1 + ii) (.slice A9 3 c9)) (fun b hb => by have h1 := hlo b hb; rw [List.mem_singleton]; omega))
          have HRP9 := Lib.hid (hrP7.only ((Only.refl [gR] u).set (1 + ii) (.slice A9 3 c9)) (fun b hb => by have h1 := hlo b (hfPq b hb); rw [List.mem_singleton]; omega))
          have HG9 : Hid (∀ j, j < xs.length + 1 → (if j = 1 + ii then gy else G j) < wo.heap.size ∨ w2.heap.size ≤ (if j = 1 + ii then gy else G j)) := fun j hj => by
            by_cases e : j = 1 + ii
            · rw [if_pos e]; have := W_le hbr2S; omega
            · rw [if_neg e]; exact hgG j hj
          have HB9 := Lib.hid ((hb.trans ((hbr2S.trans hbu).mono hszw)).setCell (p := ⟨gR, 1 + ii, none⟩) (Nat.le_trans hszw hgRb) (.slice A9 3 c9))
          have HS9 : Hid (w2.heap.size ≤ (u.setCell ⟨gR, 1 + ii, none⟩ (.slice A9 3 c9)).heap.size) := by show _ ≤ _; rw [World.size_setCell]; have := W_le hbr2S; omega
          have hzu : u.frozen? ⟨gR, 1 + ii, none⟩ = false := (World.frozen?_of_block (a := ⟨gR, 1 + ii, none⟩) (hgr5.block gR hp6.lt (fun e => hGne (by injection e)))).trans (hr6.own.frozenAt _)
          have hcu : u.cell? ⟨gR, 1 + ii, none⟩ = some (.slice (some ⟨G (1 + ii), 0, none⟩) 2 cV) := hpu.c
          clear hown hrow7 hp7 hgr7 hrP7 hgy hli hown6 hgr6 hrP6
          have hbuS : Below (w1.heap.size) wr u := hbr2S.trans hbu
          try simp only [Act.put, List.setIfInBounds_toArray, List.set_cons_zero, List.set_cons_succ]
          refine hK _ _ ⟨⟨_, hbuS, hpu⟩, rfl⟩ ?_
          clear hK K
          refine wpMixS_pure (by kernel_rfl) (fun K hK => ?_)
          go_big_quiet_op
          refine hK _ ?_; clear hK K
          refine wpMixS_last (by kernel_rfl) (fun K hK => ?_)
          go_big_op
          try simp only [Act.put, List.setIfInBounds_toArray, List.set_cons_zero, List.set_cons_succ]
          refine hK _ _ ?_
          clear hK K
          have hmm := hm1.out
          have hml : (grL xs)[t].length ≤ cK := by rw [← ints_len]; omega
          go_wp2
          go_roundw
          case rel => exact ⟨m + 1, _, _, hm1.out, by go_num, HP9.out, HG9.out, HGR9.out, HRP9.out, HB9.out, HS9.out⟩
          case measure => simp [intOf]; omega

end Go.Proofs.YtgnbhcgagdfaiaaGreatDoor

namespace Go.Proofs.YtgnbhcgagdfaiaaGreatDoor
open Go.RowKit
set_option linter.unusedVariables false

set_option maxRecDepth 100000 in
set_option maxHeartbeats 2000000 in
theorem walkRegionReport (v0 : Value) (xs0 : List DRegion) (fp0 : List Nat) (w : World) (hx0 : Sl cRegion w v0 xs0 fp0) (htab : Tab10 w) :
    Calls Tryz.prog 3 #[v0] w fun e w' => YesR w e w' := by
  have hb : Below w.heap.size w w := Below.refl _ _
  have hi_hx0 := hx0.lt
  go_enter Tryz.func3, Tryz.ntmps3
  go_wp2_with fail
  refine (szRegionS_any _ _ _ _ _ hx0 (by omega) (by omega)).mono ?_
  rintro e w1 ⟨r1, rfl, hr1_, hbn⟩
  have hsw1 := hbn.size
  replace hx0 := hx0.below' hbn
  replace hb := hb.trans (hbn.mono hb.size)
  clear hbn
  by_cases hneg : r1 < 0
  · go_wp2
    go_ret
    exact ⟨rfl, hb⟩
  have hr1 : 0 ≤ r1 ∧ r1 + (totRegionS xs0 : Nat) = 1048576 := by
    rcases hr1_ with h | h
    · omega
    · exact h
  clear hr1_ hneg
  have htot0 : totRegionS xs0 ≤ 1048576 := by omega
  have hr1b : r1 ≤ 1048576 := by omega
  have hr1a : 0 ≤ r1 := hr1.1
  have hlen0 : xs0.length ≤ 1048576 := by have := htot0; unfold totRegionS at this; omega
  clear hr1
  have hls0 := lensR_leJ xs0
  go_wp2_with fail
  refine (toRegionS_any _ _ _ _ hx0 htot0).mono ?_
  rintro e w2 ⟨y0, rfl, ⟨fy0, hy0, lo0, nd0⟩, hbn⟩
  have hi0_ := hy0.lt
  have hsw2 := hbn.size
  replace hx0 := hx0.below' hbn
  replace hb := hb.trans (hbn.mono hb.size)
  clear hbn
  go_wp2_with fail
  refine (specRegionReport_any _ _ _ _ hy0).mono ?_
  rintro e w3 ⟨y1, rfl, ⟨⟨fy1, hy1, lo1, nd1⟩, hbn0⟩⟩
  have hi1_ := hy1.lt
  have hsw3 := hbn0.size
  replace hx0 := hx0.below' hbn0
  replace hy0 := hy0.below' hbn0
  replace hb := hb.trans (hbn0.mono hb.size)
  clear hbn0
  go_wp2_with fail
  refine (toRegionS_any _ _ _ _ hx0 htot0).mono ?_
  rintro e w4 ⟨y2, rfl, ⟨fy2, hy2, lo2, nd2⟩, hbn⟩
  have hi2_ := hy2.lt
  have hsw4 := hbn.size
  replace hx0 := hx0.below' hbn
  replace hy0 := hy0.below' hbn
  replace hy1 := hy1.below' hbn
  replace hb := hb.trans (hbn.mono hb.size)
  clear hbn
  go_wp2_with fail
  refine (implRegionReport_any _ _ _ _ hy2 (htab.below hb)).mono ?_
  rintro e w5 ⟨y3, rfl, ⟨⟨fy3, hy3, lo3, nd3⟩, hbn0⟩⟩
  have hi3_ := hy3.lt
  have hsw5 := hbn0.size
  replace hx0 := hx0.below' hbn0
  replace hy0 := hy0.below' hbn0
  replace hy1 := hy1.below' hbn0
  replace hy2 := hy2.below' hbn0
  replace hb := hb.trans (hbn0.mono hb.size)
  clear hbn0
  go_wp2_with fail
  refine (eqStringS_any _ _ _ _ _ _ hy3 hy1).mono ?_
  rintro e w6 ⟨rfl, hbn⟩
  have hsw6 := hbn.size
  replace hx0 := hx0.below' hbn
  replace hy0 := hy0.below' hbn
  replace hy1 := hy1.below' hbn
  replace hy2 := hy2.below' hbn
  replace hy3 := hy3.below' hbn
  replace hb := hb.trans (hbn.mono hb.size)
  clear hbn
  go_wp2_with fail
  refine (toRegionS_any _ _ _ _ hx0 htot0).mono ?_
  rintro e w7 ⟨y4, rfl, ⟨fy4, hy4, lo4, nd4⟩, hbn⟩
  have hi4_ := hy4.lt
  have hsw7 := hbn.size
  replace hx0 := hx0.below' hbn
  replace hy0 := hy0.below' hbn
  replace hy1 := hy1.below' hbn
  replace hy2 := hy2.below' hbn
  replace hy3 := hy3.below' hbn
  replace hb := hb.trans (hbn.mono hb.size)
  clear hbn
  go_wp2_with fail
  refine (eqRegionS_any _ _ _ _ _ _ hy2 hy4).mono ?_
  rintro e w8 ⟨rfl, hbn⟩
  have hsw8 := hbn.size
  replace hx0 := hx0.below' hbn
  replace hy0 := hy0.below' hbn
  replace hy1 := hy1.below' hbn
  replace hy2 := hy2.below' hbn
  replace hy3 := hy3.below' hbn
  replace hy4 := hy4.below' hbn
  replace hb := hb.trans (hbn.mono hb.size)
  clear hbn
  go_wp2_with fail
  have hgl : (xs0).length ≤ 100000000000 := by omega
  refine (markRegionS_any _ _ _ _ _ hy2 nd2 (by omega) (by omega)).mono ?_
  clear hgl
  rintro e w9 ⟨rfl, hmk, hon⟩
  replace hx0 := hx0.only hon (fun b h1 h2 => by have q1 := hi_hx0 b h1; have q2 := lo2 b h2; omega)
  replace hy0 := hy0.only hon (fun b h1 h2 => by have q1 := lo0 b h1; have q2 := lo2 b h2; have q3 := hi0_ b h1; have q4 := hi2_ b h2; omega)
  replace hy1 := hy1.only hon (fun b h1 h2 => by have q1 := lo1 b h1; have q2 := lo2 b h2; have q3 := hi1_ b h1; have q4 := hi2_ b h2; omega)
  replace hy3 := hy3.only hon (fun b h1 h2 => by have q1 := lo3 b h1; have q2 := lo2 b h2; have q3 := hi3_ b h1; have q4 := hi2_ b h2; omega)
  replace hy4 := hy4.only hon (fun b h1 h2 => by have q1 := lo4 b h1; have q2 := lo2 b h2; have q3 := hi4_ b h1; have q4 := hi2_ b h2; omega)
  replace hy2 := hmk
  clear hmk
  have hsw9 := hon.size
  replace hb := hb.trans (hon.below (B := w.heap.size) (by omega) (fun b h => by have q1 := lo2 b h; omega))
  clear hon
  go_wp2_with fail
  refine (eqStringS_any _ _ _ _ _ _ hy3 hy1).mono ?_
  rintro e w10 ⟨rfl, hbn⟩
  have hsw10 := hbn.size
  replace hx0 := hx0.below' hbn
  replace hy0 := hy0.below' hbn
  replace hy1 := hy1.below' hbn
  replace hy2 := hy2.below' hbn
  replace hy3 := hy3.below' hbn
  replace hy4 := hy4.below' hbn
  replace hb := hb.trans (hbn.mono hb.size)
  clear hbn
  go_wp2_with fail
  have hgl : (rrF xs0).length ≤ 100000000000 := rrF_len (by omega)
  refine (markStringS_any _ _ _ _ _ hy3 (by omega) (by omega)).mono ?_
  clear hgl
  rintro e w11 ⟨rfl, hmk, hon⟩
  replace hx0 := hx0.only hon (fun b h1 h2 => by have q1 := hi_hx0 b h1; have q2 := lo3 b h2; omega)
  replace hy0 := hy0.only hon (fun b h1 h2 => by have q1 := lo0 b h1; have q2 := lo3 b h2; have q3 := hi0_ b h1; have q4 := hi3_ b h2; omega)
  replace hy1 := hy1.only hon (fun b h1 h2 => by have q1 := lo1 b h1; have q2 := lo3 b h2; have q3 := hi1_ b h1; have q4 := hi3_ b h2; omega)
  replace hy2 := hy2.only hon (fun b h1 h2 => by have q1 := lo2 b h1; have q2 := lo3 b h2; have q3 := hi2_ b h1; have q4 := hi3_ b h2; omega)
  replace hy4 := hy4.only hon (fun b h1 h2 => by have q1 := lo4 b h1; have q2 := lo3 b h2; have q3 := hi4_ b h1; have q4 := hi3_ b h2; omega)
  replace hy3 := hmk
  clear hmk
  have hsw11 := hon.size
  replace hb := hb.trans (hon.below (B := w.heap.size) (by omega) (fun b h => by have q1 := lo3 b h; omega))
  clear hon
  go_wp2_with fail
  have hgl : (rrF xs0).length ≤ 100000000000 := rrF_len (by omega)
  refine (heldStringS_any _ _ _ _ _ hy3 (by omega) (by omega)).mono ?_
  clear hgl
  rintro e w12 ⟨rfl, hbn⟩
  have hsw12 := hbn.size
  replace hx0 := hx0.below' hbn
  replace hy0 := hy0.below' hbn
  replace hy1 := hy1.below' hbn
  replace hy2 := hy2.below' hbn
  replace hy3 := hy3.below' hbn
  replace hy4 := hy4.below' hbn
  replace hb := hb.trans (hbn.mono hb.size)
  clear hbn
  go_wp2_with fail
  refine (toRegionS_any _ _ _ _ hx0 htot0).mono ?_
  rintro e w13 ⟨y5, rfl, ⟨fy5, hy5, lo5, nd5⟩, hbn⟩
  have hi5_ := hy5.lt
  have hsw13 := hbn.size
  replace hx0 := hx0.below' hbn
  replace hy0 := hy0.below' hbn
  replace hy1 := hy1.below' hbn
  replace hy2 := hy2.below' hbn
  replace hy3 := hy3.below' hbn
  replace hy4 := hy4.below' hbn
  replace hb := hb.trans (hbn.mono hb.size)
  clear hbn
  go_wp2_with fail
  refine (implRegionReport_any _ _ _ _ hy5 (htab.below hb)).mono ?_
  rintro e w14 ⟨y6, rfl, ⟨⟨fy6, hy6, lo6, nd6⟩, hbn0⟩⟩
  have hi6_ := hy6.lt
  have hsw14 := hbn0.size
  replace hx0 := hx0.below' hbn0
  replace hy0 := hy0.below' hbn0
  replace hy1 := hy1.below' hbn0
  replace hy2 := hy2.below' hbn0
  replace hy3 := hy3.below' hbn0
  replace hy4 := hy4.below' hbn0
  replace hy5 := hy5.below' hbn0
  replace hb := hb.trans (hbn0.mono hb.size)
  clear hbn0
  go_wp2_with fail
  refine (eqStringS_any _ _ _ _ _ _ hy6 hy1).mono ?_
  rintro e w15 ⟨rfl, hbn⟩
  have hsw15 := hbn.size
  replace hx0 := hx0.below' hbn
  replace hy0 := hy0.below' hbn
  replace hy1 := hy1.below' hbn
  replace hy2 := hy2.below' hbn
  replace hy3 := hy3.below' hbn
  replace hy4 := hy4.below' hbn
  replace hy5 := hy5.below' hbn
  replace hy6 := hy6.below' hbn
  replace hb := hb.trans (hbn.mono hb.size)
  clear hbn
  go_wp2_with fail
  have hgl : (rrF xs0).length ≤ 100000000000 := rrF_len (by omega)
  refine (heldStringS_any _ _ _ _ _ hy3 (by omega) (by omega)).mono ?_
  clear hgl
  rintro e w16 ⟨rfl, hbn⟩
  have hsw16 := hbn.size
  replace hx0 := hx0.below' hbn
  replace hy0 := hy0.below' hbn
  replace hy1 := hy1.below' hbn
  replace hy2 := hy2.below' hbn
  replace hy3 := hy3.below' hbn
  replace hy4 := hy4.below' hbn
  replace hy5 := hy5.below' hbn
  replace hy6 := hy6.below' hbn
  replace hb := hb.trans (hbn.mono hb.size)
  clear hbn
  go_wp2_with fail
  go_ret
  exact ⟨rfl, hb⟩
end Go.Proofs.YtgnbhcgagdfaiaaGreatDoor

namespace Go.Proofs.YtgnbhcgagdfaiaaGreatDoor
open Go.RowKit Go.WideShapes Go.ChangeShapes Go.ChangeAt

theorem Tryz.own : ownKnob Tryz.prog.godebug = none := by kernel_rfl
theorem Tryz.laidOut : laidOutB Tryz.prog = true := by kernel_rfl

section
variable {H : Type} {enc : TypeId × Value → H} {P : Program}
theorem post_of_below {f : Func} {s : ChangeSpec} {apart fresh handsOn again : Bool} {W W' : World} {args : Array Value} {v : Value} {ds gs : List (DataW H)} {before pa pv : List MemPlace}
    (hW : DataW.Whole enc P f.params.toList s.vars apart W args.toList ds gs before)
    (hres : ∀ (b : Nat) (sp : Nat → Bool) (hd : Bool), DataW.TrodAll enc P W' b sp hd f.resultTypes.toList (v.resultList f.resultTypes.size) (s.fn H (ds ++ gs)).results [])
    (hargs : ∀ sp : Nat → Bool, (∀ p ∈ before, sp p.block = true) → DataW.TrodAll enc P W' 0 sp true f.params.toList args.toList (s.fn H (ds ++ gs)).args pa)
    (hvars : ∀ sp : Nat → Bool, (∀ p ∈ before, sp p.block = true) → DataW.TrodVars enc P W' sp s.vars (s.fn H (ds ++ gs)).vars pv)
    (hps : before = pa ++ pv) (hb : Below W.heap.size W W')
    (hok : ∀ (j : Nat) (t : TypeId) (r : Value), f.resultTypes[j]? = some t → (v.resultList f.resultTypes.size)[j]? = some r → Value.okWide P W' .any 0 t r) :
    s.post enc P f apart fresh handsOn again W args v W' := by
  have hlt : ∀ p ∈ before, p.block < W.heap.size := fun p hp => hW.lt p hp
  have hold : ∀ p ∈ before, (fun b => decide (b < W.heap.size)) p.block = true := fun p hp => by simpa using hlt p hp
  refine ⟨ds, gs, before, [], pa, pv, hW, hres _ _ _, hargs _ hold, hvars _ hold, World.keptBut_mono (fun p hp => ⟨hp, ?_⟩) (hb.frame (· ∈ before)), fun _ => ?_⟩
  · rw [hps, List.mem_append] at hp
    exact Or.inr hp
  · obtain ⟨_, _, _, _, _, hz, hn⟩ := hW
    refine ⟨hok, _, _, ([] ++ pa) ++ pv, ⟨[] ++ pa, pv, trodAll_append (hargs _ (fun _ _ => rfl)) (hres _ _ _), hvars _ (fun _ _ => rfl), rfl, ?_, ?_⟩, ?_⟩
    · intro b off hp
      have hin : MemPlace.cell b off ∈ before := by rw [hps]; simpa using hp
      rw [hb.frozen (hlt _ hin)]
      exact hz b off hin
    · intro ha
      have := hn ha
      rw [hps] at this
      simpa using this
    · intro p hp _
      rw [hps]
      simpa using hp
end

theorem trodAll_below {H : Type} {enc : TypeId × Value → H} {P : Program} (hl : laidOutB P = true) {W W' : World} (hb : Below W.heap.size W W') {sp : Nat → Bool} :
    ∀ (ts : List TypeId) (vs : List Value) (ds : List (DataW H)) (ps : List MemPlace), (∀ t ∈ ts, P.readableRec t = true ∧ t < P.types.size) → DataW.TrodAll enc P W 0 (fun _ => true) true ts vs ds ps → (∀ x ∈ ps, x.block < W.heap.size) → (∀ x ∈ ps, sp x.block = true) → DataW.TrodAll enc P W' 0 sp true ts vs ds ps
  | [], [], [], ps, _, h, _, _ => h
  | t :: ts, v :: vs, d :: ds, ps, hr, h, hlt, hsp => by
    obtain ⟨p, q, h1, h2, rfl⟩ := h
    obtain ⟨r1, r2⟩ := hr t (by simp)
    exact ⟨p, q, WideElems.Trod_stays hl r1 r2 h1 (fun x hx => hb.same (hlt x (by simp [hx]))) (fun x hx => hsp x (by simp [hx])), trodAll_below hl hb ts vs ds q (fun t ht => hr t (by simp [ht])) h2 (fun x hx => hlt x (by simp [hx])) (fun x hx => hsp x (by simp [hx])), rfl⟩
  | [], _ :: _, _, _, _, h, _, _ => by cases h
  | [], [], _ :: _, _, _, h, _, _ => by cases h
  | _ :: _, [], _, _, _, h, _, _ => by cases h
  | _ :: _, _ :: _, [], _, _, h, _, _ => by cases h

theorem trodAll_len {H : Type} {enc : TypeId × Value → H} {P : Program} {W : World} {b : Nat} {sp : Nat → Bool} {hd : Bool} : ∀ (ts : List TypeId) (vs : List Value) (ds : List (DataW H)) (ps : List MemPlace), DataW.TrodAll enc P W b sp hd ts vs ds ps → ds.length = ts.length
  | [], [], [], _, _ => rfl
  | _ :: ts, _ :: vs, _ :: ds, _, h => by obtain ⟨p, q, h1, h2, rfl⟩ := h; simp [trodAll_len ts vs ds q h2]
  | [], _ :: _, _, _, h => by cases h
  | [], [], _ :: _, _, h => by cases h
  | _ :: _, [], _, _, h => by cases h
  | _ :: _, _ :: _, [], _, h => by cases h

set_option maxRecDepth 100000 in
theorem law_lifted {F : FuncId} {fn : Func} {s : ChangeSpec} (os : Os) (started : os.Started) (H : Type) (enc : TypeId × Value → H)
    (hfn : Tryz.checked.prog.funcs[F]? = some fn) (noInit : Tryz.checked.prog.inits.idxOf? F = none)
    (witness : ∃ (w : World) (tape : Tape) (i : Input), w.os = os ∧ (w.forCall tape i).Shaped Tryz.checked.prog ∧ i.vars = [] ∧ Input.okWide Tryz.checked.prog (w.forCall tape i) .any w.heap.size F i ∧
      s.pre6 enc Tryz.checked.prog fn [] false (w.forCall tape i).memory i.args ∧ ({} : Assume).holds Tryz.checked.prog (lone (Frame.enter Tryz.checked.prog F i.args .normal) [] (w.forCall tape i)))
    (hs : s.vars = []) (hres : fn.resultTypes = #[4]) (hread : ∀ t ∈ fn.params.toList, Tryz.prog.readableRec t = true ∧ t < Tryz.prog.types.size)
    (hspec : ∀ ds : List (DataW H), ds.length = fn.params.toList.length → s.fn H ds = { results := [.lit (.bool true)], args := ds })
    (walk : ∀ (W : World) (args : Array Value) (ds : List (DataW H)) (p : List MemPlace), (∀ (j : Nat) t v, fn.params[j]? = some t → args[j]? = some v → ∃ base, Value.okWide Tryz.prog W .any base t v) →
      DataW.TrodAll enc Tryz.prog W 0 (fun _ => true) true fn.params.toList args.toList ds p → W.noneFrozen p → Calls Tryz.prog F args W fun e W' => e = .returned (.bool true) ∧ Below W.heap.size W W') :
    ReturnsInHanded {} Tryz.checked os F .any (s.pre6 enc Tryz.checked.prog fn [] false) (s.post enc Tryz.checked.prog fn false true false false) := by
  refine returnsInHanded_of_change (C := Tryz.checked) Tryz.own started noInit hfn witness ?_
  intro W base args ds gs before hval hW hcnd _
  have hW' := hW
  obtain ⟨p, q, hA, hV, hpq, hfz, hnd⟩ := hW
  rw [hs] at hV
  obtain ⟨rfl, rfl⟩ := trodVars_none hV
  rw [List.append_nil] at hpq
  subst hpq
  refine (walk W args ds _ (fun j t v h1 h2 => ⟨base, hval j t v h1 h2⟩) hA hfz).mono fun e W' ⟨he, hb⟩ => ?_
  subst he
  have hsp : s.fn H (ds ++ []) = { results := [.lit (.bool true)], args := ds } := by
    rw [List.append_nil]; exact hspec ds (trodAll_len _ _ _ _ hA)
  have hlt := fun x hx => hW'.lt x hx
  refine ⟨_, rfl, post_of_below (pa := before) (pv := []) hW' (fun b sp hd => ?_) (fun sp h => ?_) (fun sp h => ?_) (by simp) hb ?_⟩
  · rw [hsp, hres]; exact trodAll_mk1 (shut_bool Tryz.underlying4 _)
  · rw [hsp]; exact trodAll_below Tryz.laidOut hb _ _ _ _ hread hA hlt h
  · rw [hsp, hs]; rfl
  · rw [hres]; exact fun j t r h1 h2 => ok_one (f := fn) hres rfl (okWide_bool_mk Tryz.underlying4 _) j t r (by rw [hres]; exact h1) (by rw [hres]; exact h2)

end Go.Proofs.YtgnbhcgagdfaiaaGreatDoor

namespace Go.Proofs.YtgnbhcgagdfaiaaGreatDoor
open Go.RowKit Go.WideShapes Go.ChangeShapes Go.ChangeAt

set_option maxRecDepth 100000 in
theorem law_liftedS {F : FuncId} {fn : Func} {s : ChangeSpec} (os : Os) (started : os.Started) (H : Type) (enc : TypeId × Value → H)
    (hfn : Tryz.checked.prog.funcs[F]? = some fn) (noInit : Tryz.checked.prog.inits.idxOf? F = none)
    (witness : ∃ (w : World) (tape : Tape) (i : Input), w.os = os ∧ (w.forCall tape i).Shaped Tryz.checked.prog ∧ i.vars = [] ∧ Input.okWide Tryz.checked.prog (w.forCall tape i) .any w.heap.size F i ∧
      s.pre6 enc Tryz.checked.prog fn [] false (w.forCall tape i).memory i.args ∧ ({} : Assume).holds Tryz.checked.prog (lone (Frame.enter Tryz.checked.prog F i.args .normal) [] (w.forCall tape i)))
    (hs : s.vars = []) (hres : fn.resultTypes = #[4]) (hread : ∀ t ∈ fn.params.toList, Tryz.prog.readableRec t = true ∧ t < Tryz.prog.types.size)
    (hspec : ∀ ds : List (DataW H), ds.length = fn.params.toList.length → s.fn H ds = { results := [.lit (.bool true)], args := ds })
    (walk : ∀ (W : World) (args : Array Value) (ds : List (DataW H)) (p : List MemPlace), W.ShapedOpen Tryz.prog → (∀ (j : Nat) t v, fn.params[j]? = some t → args[j]? = some v → ∃ base, Value.okWide Tryz.prog W .any base t v) →
      DataW.TrodAll enc Tryz.prog W 0 (fun _ => true) true fn.params.toList args.toList ds p → W.noneFrozen p → Calls Tryz.prog F args W fun e W' => e = .returned (.bool true) ∧ Below W.heap.size W W') :
    ReturnsInHanded {} Tryz.checked os F .any (s.pre6 enc Tryz.checked.prog fn [] false) (s.post enc Tryz.checked.prog fn false true false false) := by
  refine returnsInHanded_of_change_shaped (C := Tryz.checked) Tryz.own started noInit hfn witness ?_
  intro W base args ds gs before hval hW hcnd _ hsh _
  have hW' := hW
  obtain ⟨p, q, hA, hV, hpq, hfz, hnd⟩ := hW
  rw [hs] at hV
  obtain ⟨rfl, rfl⟩ := trodVars_none hV
  rw [List.append_nil] at hpq
  subst hpq
  refine (walk W args ds _ hsh (fun j t v h1 h2 => ⟨base, hval j t v h1 h2⟩) hA hfz).mono fun e W' ⟨he, hb⟩ => ?_
  subst he
  have hsp : s.fn H (ds ++ []) = { results := [.lit (.bool true)], args := ds } := by
    rw [List.append_nil]; exact hspec ds (trodAll_len _ _ _ _ hA)
  have hlt := fun x hx => hW'.lt x hx
  refine ⟨_, rfl, post_of_below (pa := before) (pv := []) hW' (fun b sp hd => ?_) (fun sp h => ?_) (fun sp h => ?_) (by simp) hb ?_⟩
  · rw [hsp, hres]; exact trodAll_mk1 (shut_bool Tryz.underlying4 _)
  · rw [hsp]; exact trodAll_below Tryz.laidOut hb _ _ _ _ hread hA hlt h
  · rw [hsp, hs]; rfl
  · rw [hres]; exact fun j t r h1 h2 => ok_one (f := fn) hres rfl (okWide_bool_mk Tryz.underlying4 _) j t r (by rw [hres]; exact h1) (by rw [hres]; exact h2)

/-- A variable of the library's own holds some number. -/
theorem maxLen_cell {w : World} (h : w.ShapedOpen Tryz.prog) : ∃ m, w.cell? ⟨1, 0, none⟩ = some (.int .i64 m) :=
  Go.Proofs.cell_of_shapedOpen_int (zero := #[.int .i64 0]) (t := 3) h (of_decide_eq_true (by kernel_rfl)) (by kernel_rfl) rfl (by kernel_rfl) (by kernel_rfl) Tryz.underlying3
theorem cell_below {w w' : World} {a : Addr} {v : Value} (h : Below w.heap.size w w') (c : w.cell? a = some v) : w'.cell? a = some v := (h.cell (block_lt_of_cell c)).trans c
end Go.Proofs.YtgnbhcgagdfaiaaGreatDoor

namespace Go.Proofs.YtgnbhcgagdfaiaaGreatDoor
open Go.RowKit Go.WideShapes Go.ChangeShapes Go.ChangeAt

set_option maxRecDepth 100000 in
theorem law_liftedL {F : FuncId} {fn : Func} {s : ChangeSpec} (laid : List (String × DataW Unit)) (os : Os) (started : os.Started) (H : Type) (enc : TypeId × Value → H)
    (hfn : Tryz.checked.prog.funcs[F]? = some fn) (noInit : Tryz.checked.prog.inits.idxOf? F = none)
    (witness : ∃ (w : World) (tape : Tape) (i : Input), w.os = os ∧ (w.forCall tape i).Shaped Tryz.checked.prog ∧ i.vars = [] ∧ Input.okWide Tryz.checked.prog (w.forCall tape i) .any w.heap.size F i ∧
      ((s.pre enc Tryz.checked.prog fn [] false (w.forCall tape i).memory i.args ∧ laidMetH Tryz.checked.prog laid (w.forCall tape i).memory) ∧ sizedMet enc Tryz.checked.prog fn (OpenSpec.ofChange s) false (w.forCall tape i).memory i.args) ∧ ({} : Assume).holds Tryz.checked.prog (lone (Frame.enter Tryz.checked.prog F i.args .normal) [] (w.forCall tape i)))
    (hs : s.vars = []) (hres : fn.resultTypes = #[4]) (hread : ∀ t ∈ fn.params.toList, Tryz.prog.readableRec t = true ∧ t < Tryz.prog.types.size)
    (hspec : ∀ ds : List (DataW H), ds.length = fn.params.toList.length → s.fn H ds = { results := [.lit (.bool true)], args := ds })
    (walk : ∀ (W : World) (args : Array Value) (ds : List (DataW H)) (p : List MemPlace), W.ShapedOpen Tryz.prog → laidMetH Tryz.prog laid W → (∀ (j : Nat) t v, fn.params[j]? = some t → args[j]? = some v → ∃ base, Value.okWide Tryz.prog W .any base t v) →
      DataW.TrodAll enc Tryz.prog W 0 (fun _ => true) true fn.params.toList args.toList ds p → W.noneFrozen p → Calls Tryz.prog F args W fun e W' => e = .returned (.bool true) ∧ Below W.heap.size W W') :
    ReturnsInHanded {} Tryz.checked os F .any (fun w args => (s.pre enc Tryz.checked.prog fn [] false w args ∧ laidMetH Tryz.checked.prog laid w) ∧ sizedMet enc Tryz.checked.prog fn (OpenSpec.ofChange s) false w args) (s.post enc Tryz.checked.prog fn false true false false) := by
  refine returnsInHanded_of_calls (C := Tryz.checked) Tryz.own started noInit witness ?_
  intro w tape i _ hsh _ hok hpre hholds
  obtain ⟨_, _, _, fn', hfn', _, _, _, _, hval⟩ := hok
  have e : fn' = fn := Option.some.inj (hfn'.symm.trans hfn)
  subst e
  obtain ⟨⟨⟨ds, gs, before, hw, hc⟩, hx⟩, hz⟩ := hpre
  have hW := DataW.Whole.of_heap (w' := w.forCall tape i) (by rfl) hw
  have hX : laidMetH Tryz.prog laid (w.forCall tape i) := laidMetH.of_heap (by rfl) hx
  generalize w.forCall tape i = W at *
  have hW' := hW
  obtain ⟨p, q, hA, hV, hpq, hfz, hnd⟩ := hW
  rw [hs] at hV
  obtain ⟨rfl, rfl⟩ := trodVars_none hV
  rw [List.append_nil] at hpq
  subst hpq
  refine (walk W i.args ds _ hsh hX (fun j t v h1 h2 => ⟨w.heap.size, hval j t v h1 h2⟩) hA hfz).mono fun e W' ⟨he, hb⟩ => ?_
  subst he
  have hsp : s.fn H (ds ++ []) = { results := [.lit (.bool true)], args := ds } := by
    rw [List.append_nil]; exact hspec ds (trodAll_len _ _ _ _ hA)
  have hlt := fun x hx => hW'.lt x hx
  refine ChangeSpec.post_blind (W := W) ?_
  refine post_of_below (pa := before) (pv := []) hW' (fun b sp hd => ?_) (fun sp h => ?_) (fun sp h => ?_) (by simp) hb ?_
  · rw [hsp, hres]; exact trodAll_mk1 (shut_bool Tryz.underlying4 _)
  · rw [hsp]; exact trodAll_below Tryz.laidOut hb _ _ _ _ hread hA hlt h
  · rw [hsp, hs]; rfl
  · rw [hres]; exact fun j t r h1 h2 => ok_one (f := fn') hres rfl (okWide_bool_mk Tryz.underlying4 _) j t r (by rw [hres]; exact h1) (by rw [hres]; exact h2)
end Go.Proofs.YtgnbhcgagdfaiaaGreatDoor

namespace Go.Proofs.YtgnbhcgagdfaiaaGreatDoor
noncomputable def doorWorld (os : Os) : World := (World.doorLaid Tryz.prog 34 os).setRow 2 (Go.Pinned.utf8FirstZ.map (fun z : Nat => Value.int .u8 (z : Int))).toArray
end Go.Proofs.YtgnbhcgagdfaiaaGreatDoor

namespace Go.Proofs.YtgnbhcgagdfaiaaGreatDoor
open Go.RowKit
set_option linter.unusedVariables false

structure DObserved where
  hour : Int
  snow : Int
  degrees : Int
  wind : Int
  deriving DecidableEq

def fObserved : Flat DObserved where
  n := 4
  enc := fun x => [.int .i64 x.hour, .int .i64 x.snow, .int .i64 x.degrees, .int .i64 x.wind]
  ok := fun x => fInt.ok x.hour ∧ fInt.ok x.snow ∧ fInt.ok x.degrees ∧ fInt.ok x.wind
  pos := by omega
  len := fun _ => rfl
  one := by intro x v hv; simp at hv; rcases hv with rfl | rfl | rfl | rfl <;> rfl

def totObservedS (xs : List DObserved) : Nat := xs.length





def mkObserved (k : Int) : DObserved := ⟨k, k + 1, k + 1 + 1, k + 1 + 1 + 1⟩
def marksObserved (k : Int) (n : Nat) : List DObserved := (List.range n).map fun (i : Nat) => mkObserved (k + 4 * (i : Int))

theorem marksObserved_get (k0 : Int) (n i : Nat) (h : i < (marksObserved k0 n).length) : (marksObserved k0 n)[i] = mkObserved (k0 + 4 * (i : Int)) := by
  simp [marksObserved]
theorem marksObserved_len (k0 : Int) (n : Nat) : (marksObserved k0 n).length = n := by simp [marksObserved]



end Go.Proofs.YtgnbhcgagdfaiaaGreatDoor

namespace Go.Proofs.YtgnbhcgagdfaiaaGreatDoor
open Go.RowKit
set_option linter.unusedVariables false

structure DTest where
  kind : Int
  score : Int
  quality : Int
  depth : Int
  hour : Int
  deriving DecidableEq

def fTest : Flat DTest where
  n := 5
  enc := fun x => [.int .i64 x.kind, .int .i64 x.score, .int .i64 x.quality, .int .i64 x.depth, .int .i64 x.hour]
  ok := fun x => fInt.ok x.kind ∧ fInt.ok x.score ∧ fInt.ok x.quality ∧ fInt.ok x.depth ∧ fInt.ok x.hour
  pos := by omega
  len := fun _ => rfl
  one := by intro x v hv; simp at hv; rcases hv with rfl | rfl | rfl | rfl | rfl <;> rfl

def totTestS (xs : List DTest) : Nat := xs.length





def mkTest (k : Int) : DTest := ⟨k, k + 1, k + 1 + 1, k + 1 + 1 + 1, k + 1 + 1 + 1 + 1⟩
def marksTest (k : Int) (n : Nat) : List DTest := (List.range n).map fun (i : Nat) => mkTest (k + 5 * (i : Int))

theorem marksTest_get (k0 : Int) (n i : Nat) (h : i < (marksTest k0 n).length) : (marksTest k0 n)[i] = mkTest (k0 + 5 * (i : Int)) := by
  simp [marksTest]
theorem marksTest_len (k0 : Int) (n : Nat) : (marksTest k0 n).length = n := by simp [marksTest]



end Go.Proofs.YtgnbhcgagdfaiaaGreatDoor

namespace Go.Proofs.YtgnbhcgagdfaiaaGreatDoor
open Go.RowKit
set_option linter.unusedVariables false

structure DStand where
  id : ByteArray
  trees : Int
  height : Int
  cover : Int
  gap : Int
  deriving DecidableEq

def fStand : Flat DStand where
  n := 5
  enc := fun x => [.string x.id, .int .i64 x.trees, .int .i64 x.height, .int .i64 x.cover, .int .i64 x.gap]
  ok := fun x => fStr.ok x.id ∧ fInt.ok x.trees ∧ fInt.ok x.height ∧ fInt.ok x.cover ∧ fInt.ok x.gap
  pos := by omega
  len := fun _ => rfl
  one := by intro x v hv; simp at hv; rcases hv with rfl | rfl | rfl | rfl | rfl <;> rfl

def totStand (x : DStand) : Nat := x.id.size
def totStandS (xs : List DStand) : Nat := xs.length + (xs.map totStand).sum






def mkStand (k : Int) : DStand := ⟨mt (k), k + 1, k + 1 + 1, k + 1 + 1 + 1, k + 1 + 1 + 1 + 1⟩
def marksStand (k : Int) (n : Nat) : List DStand := (List.range n).map fun (i : Nat) => mkStand (k + 5 * (i : Int))

theorem marksStand_get (k0 : Int) (n i : Nat) (h : i < (marksStand k0 n).length) : (marksStand k0 n)[i] = mkStand (k0 + 5 * (i : Int)) := by
  simp [marksStand]
theorem marksStand_len (k0 : Int) (n : Nat) : (marksStand k0 n).length = n := by simp [marksStand]



end Go.Proofs.YtgnbhcgagdfaiaaGreatDoor

namespace Go.Proofs.YtgnbhcgagdfaiaaGreatDoor
open Go.RowKit
set_option linter.unusedVariables false

structure DPathPoint where
  distance : Int
  height : Int
  deriving DecidableEq

def fPathPoint : Flat DPathPoint where
  n := 2
  enc := fun x => [.int .i64 x.distance, .int .i64 x.height]
  ok := fun x => fInt.ok x.distance ∧ fInt.ok x.height
  pos := by omega
  len := fun _ => rfl
  one := by intro x v hv; simp at hv; rcases hv with rfl | rfl <;> rfl

def totPathPointS (xs : List DPathPoint) : Nat := xs.length





def mkPathPoint (k : Int) : DPathPoint := ⟨k, k + 1⟩
def marksPathPoint (k : Int) (n : Nat) : List DPathPoint := (List.range n).map fun (i : Nat) => mkPathPoint (k + 2 * (i : Int))

theorem marksPathPoint_get (k0 : Int) (n i : Nat) (h : i < (marksPathPoint k0 n).length) : (marksPathPoint k0 n)[i] = mkPathPoint (k0 + 2 * (i : Int)) := by
  simp [marksPathPoint]
theorem marksPathPoint_len (k0 : Int) (n : Nat) : (marksPathPoint k0 n).length = n := by simp [marksPathPoint]



end Go.Proofs.YtgnbhcgagdfaiaaGreatDoor

namespace Go.Proofs.YtgnbhcgagdfaiaaGreatDoor
open Go.RowKit
set_option linter.unusedVariables false

structure DVerified where
  day : Int
  told : Int
  seen : Int
  deriving DecidableEq

def fVerified : Flat DVerified where
  n := 3
  enc := fun x => [.int .i64 x.day, .int .i64 x.told, .int .i64 x.seen]
  ok := fun x => fInt.ok x.day ∧ fInt.ok x.told ∧ fInt.ok x.seen
  pos := by omega
  len := fun _ => rfl
  one := by intro x v hv; simp at hv; rcases hv with rfl | rfl | rfl <;> rfl

def totVerifiedS (xs : List DVerified) : Nat := xs.length





def mkVerified (k : Int) : DVerified := ⟨k, k + 1, k + 1 + 1⟩
def marksVerified (k : Int) (n : Nat) : List DVerified := (List.range n).map fun (i : Nat) => mkVerified (k + 3 * (i : Int))

theorem marksVerified_get (k0 : Int) (n i : Nat) (h : i < (marksVerified k0 n).length) : (marksVerified k0 n)[i] = mkVerified (k0 + 3 * (i : Int)) := by
  simp [marksVerified]
theorem marksVerified_len (k0 : Int) (n : Nat) : (marksVerified k0 n).length = n := by simp [marksVerified]



end Go.Proofs.YtgnbhcgagdfaiaaGreatDoor

namespace Go.Proofs.YtgnbhcgagdfaiaaGreatDoor
open Go.RowKit
set_option linter.unusedVariables false

structure DShot where
  id : ByteArray
  from_ : Int
  until_ : Int
  minutes : Int
  gain : Int
  deriving DecidableEq

def fShot : Flat DShot where
  n := 5
  enc := fun x => [.string x.id, .int .i64 x.from_, .int .i64 x.until_, .int .i64 x.minutes, .int .i64 x.gain]
  ok := fun x => fStr.ok x.id ∧ fInt.ok x.from_ ∧ fInt.ok x.until_ ∧ fInt.ok x.minutes ∧ fInt.ok x.gain
  pos := by omega
  len := fun _ => rfl
  one := by intro x v hv; simp at hv; rcases hv with rfl | rfl | rfl | rfl | rfl <;> rfl

def totShot (x : DShot) : Nat := x.id.size
def totShotS (xs : List DShot) : Nat := xs.length + (xs.map totShot).sum






def mkShot (k : Int) : DShot := ⟨mt (k), k + 1, k + 1 + 1, k + 1 + 1 + 1, k + 1 + 1 + 1 + 1⟩
def marksShot (k : Int) (n : Nat) : List DShot := (List.range n).map fun (i : Nat) => mkShot (k + 5 * (i : Int))

theorem marksShot_get (k0 : Int) (n i : Nat) (h : i < (marksShot k0 n).length) : (marksShot k0 n)[i] = mkShot (k0 + 5 * (i : Int)) := by
  simp [marksShot]
theorem marksShot_len (k0 : Int) (n : Nat) : (marksShot k0 n).length = n := by simp [marksShot]



end Go.Proofs.YtgnbhcgagdfaiaaGreatDoor

namespace Go.Proofs.YtgnbhcgagdfaiaaGreatDoor
open Go.RowKit
set_option linter.unusedVariables false

structure DWatch where
  person : ByteArray
  start : Int
  hours : Int
  onCall : Bool
  deriving DecidableEq

def fWatch : Flat DWatch where
  n := 4
  enc := fun x => [.string x.person, .int .i64 x.start, .int .i64 x.hours, .bool x.onCall]
  ok := fun x => fStr.ok x.person ∧ fInt.ok x.start ∧ fInt.ok x.hours ∧ fBool.ok x.onCall
  pos := by omega
  len := fun _ => rfl
  one := by intro x v hv; simp at hv; rcases hv with rfl | rfl | rfl | rfl <;> rfl

def totWatch (x : DWatch) : Nat := x.person.size
def totWatchS (xs : List DWatch) : Nat := xs.length + (xs.map totWatch).sum






def mkWatch (k : Int) : DWatch := ⟨mt (k), k + 1, k + 1 + 1, ((k + 1 + 1 + 1) % 3 == 0)⟩
def marksWatch (k : Int) (n : Nat) : List DWatch := (List.range n).map fun (i : Nat) => mkWatch (k + 4 * (i : Int))

theorem marksWatch_get (k0 : Int) (n i : Nat) (h : i < (marksWatch k0 n).length) : (marksWatch k0 n)[i] = mkWatch (k0 + 4 * (i : Int)) := by
  simp [marksWatch]
theorem marksWatch_len (k0 : Int) (n : Nat) : (marksWatch k0 n).length = n := by simp [marksWatch]



end Go.Proofs.YtgnbhcgagdfaiaaGreatDoor

namespace Go.Proofs.YtgnbhcgagdfaiaaGreatDoor
open Go.RowKit
set_option linter.unusedVariables false

/-- The slices of a desk. -/
structure DVals where
  ob : Value
  ma : Value
  te : Value
  st : Value
  pa : Value
  zo : Value
  re : Value
  ve : Value
  sh : Value
  gr : Value
  wa : Value
  in_ : Value

structure DDesk where
  rows : Int
  columns : Int
  ob : List DObserved
  ma : List Int
  te : List DTest
  st : List DStand
  pa : List DPathPoint
  zo : List Int
  re : List DRegion
  ve : List DVerified
  sh : List DShot
  gr : List DGroup
  wa : List DWatch
  in_ : List DIncident
def deskA (v : DVals) (x : DDesk) : Value := .agg #[v.ob, .int .i64 x.rows, .int .i64 x.columns, v.ma, v.te, v.st, v.pa, v.zo, v.re, v.ve, v.sh, v.gr, v.wa, v.in_]
/-- The desk's slices read as its lists. -/
structure DeskRd (w : World) (v : DVals) (x : DDesk) (F : Nat → List Nat) : Prop where
  ob : Sl fObserved.cod w v.ob x.ob (F 0)
  ma : Sl fInt.cod w v.ma x.ma (F 1)
  te : Sl fTest.cod w v.te x.te (F 2)
  st : Sl fStand.cod w v.st x.st (F 3)
  pa : Sl fPathPoint.cod w v.pa x.pa (F 4)
  zo : Sl fInt.cod w v.zo x.zo (F 5)
  re : Sl cRegion w v.re x.re (F 6)
  ve : Sl fVerified.cod w v.ve x.ve (F 7)
  sh : Sl fShot.cod w v.sh x.sh (F 8)
  gr : Sl fGroup.cod w v.gr x.gr (F 9)
  wa : Sl fWatch.cod w v.wa x.wa (F 10)
  in_ : Sl fIncident.cod w v.in_ x.in_ (F 11)
theorem DeskRd.below' {w w' : World} {v : DVals} {x : DDesk} {F : Nat → List Nat} (h : DeskRd w v x F) (hb : Below w.heap.size w w') : DeskRd w' v x F :=
  ⟨h.ob.below' hb, h.ma.below' hb, h.te.below' hb, h.st.below' hb, h.pa.below' hb, h.zo.below' hb, h.re.below' hb, h.ve.below' hb, h.sh.below' hb, h.gr.below' hb, h.wa.below' hb, h.in_.below' hb⟩
/-- The slices are written as they are. -/
structure DeskSh (v : DVals) : Prop where
  ob : ∃ A n c, v.ob = .slice A n c
  ma : ∃ A n c, v.ma = .slice A n c
  te : ∃ A n c, v.te = .slice A n c
  st : ∃ A n c, v.st = .slice A n c
  pa : ∃ A n c, v.pa = .slice A n c
  zo : ∃ A n c, v.zo = .slice A n c
  re : ∃ A n c, v.re = .slice A n c
  ve : ∃ A n c, v.ve = .slice A n c
  sh : ∃ A n c, v.sh = .slice A n c
  gr : ∃ A n c, v.gr = .slice A n c
  wa : ∃ A n c, v.wa = .slice A n c
  in_ : ∃ A n c, v.in_ = .slice A n c
theorem DeskRd.shape {w : World} {v : DVals} {x : DDesk} {F : Nat → List Nat} (h : DeskRd w v x F) : DeskSh v :=
  ⟨(let ⟨A, c, e, _⟩ := h.ob.form; ⟨A, _, c, e⟩), (let ⟨A, c, e, _⟩ := h.ma.form; ⟨A, _, c, e⟩), (let ⟨A, c, e, _⟩ := h.te.form; ⟨A, _, c, e⟩), (let ⟨A, c, e, _⟩ := h.st.form; ⟨A, _, c, e⟩), (let ⟨A, c, e, _⟩ := h.pa.form; ⟨A, _, c, e⟩), (let ⟨A, c, e, _⟩ := h.zo.form; ⟨A, _, c, e⟩), (let ⟨A, c, e, _⟩ := h.re.form; ⟨A, _, c, e⟩), (let ⟨A, c, e, _⟩ := h.ve.form; ⟨A, _, c, e⟩), (let ⟨A, c, e, _⟩ := h.sh.form; ⟨A, _, c, e⟩), (let ⟨A, c, e, _⟩ := h.gr.form; ⟨A, _, c, e⟩), (let ⟨A, c, e, _⟩ := h.wa.form; ⟨A, _, c, e⟩), (let ⟨A, c, e, _⟩ := h.in_.form; ⟨A, _, c, e⟩)⟩
/-- A desk in a box. -/
structure DBox (w : World) (g : Nat) (v : DVals) (x : DDesk) : Prop where
  c0 : w.cell? ⟨g, 0, none⟩ = some (v.ob)
  c1 : w.cell? ⟨g, 1, none⟩ = some (.int .i64 x.rows)
  c2 : w.cell? ⟨g, 2, none⟩ = some (.int .i64 x.columns)
  c3 : w.cell? ⟨g, 3, none⟩ = some (v.ma)
  c4 : w.cell? ⟨g, 4, none⟩ = some (v.te)
  c5 : w.cell? ⟨g, 5, none⟩ = some (v.st)
  c6 : w.cell? ⟨g, 6, none⟩ = some (v.pa)
  c7 : w.cell? ⟨g, 7, none⟩ = some (v.zo)
  c8 : w.cell? ⟨g, 8, none⟩ = some (v.re)
  c9 : w.cell? ⟨g, 9, none⟩ = some (v.ve)
  c10 : w.cell? ⟨g, 10, none⟩ = some (v.sh)
  c11 : w.cell? ⟨g, 11, none⟩ = some (v.gr)
  c12 : w.cell? ⟨g, 12, none⟩ = some (v.wa)
  c13 : w.cell? ⟨g, 13, none⟩ = some (v.in_)
theorem DBox.below {w w' : World} {g B : Nat} {v : DVals} {x : DDesk} (h : DBox w g v x) (hb : Below B w w') (hg : g < B) : DBox w' g v x :=
  ⟨(hb.cell (p := ⟨g, _, none⟩) hg).trans h.c0, (hb.cell (p := ⟨g, _, none⟩) hg).trans h.c1, (hb.cell (p := ⟨g, _, none⟩) hg).trans h.c2, (hb.cell (p := ⟨g, _, none⟩) hg).trans h.c3, (hb.cell (p := ⟨g, _, none⟩) hg).trans h.c4, (hb.cell (p := ⟨g, _, none⟩) hg).trans h.c5, (hb.cell (p := ⟨g, _, none⟩) hg).trans h.c6, (hb.cell (p := ⟨g, _, none⟩) hg).trans h.c7, (hb.cell (p := ⟨g, _, none⟩) hg).trans h.c8, (hb.cell (p := ⟨g, _, none⟩) hg).trans h.c9, (hb.cell (p := ⟨g, _, none⟩) hg).trans h.c10, (hb.cell (p := ⟨g, _, none⟩) hg).trans h.c11, (hb.cell (p := ⟨g, _, none⟩) hg).trans h.c12, (hb.cell (p := ⟨g, _, none⟩) hg).trans h.c13⟩
theorem DBox.lt {w : World} {g : Nat} {v : DVals} {x : DDesk} (h : DBox w g v x) : g < w.heap.size := block_lt_of_cell h.c0
theorem DBox.below' {w w' : World} {g : Nat} {v : DVals} {x : DDesk} (h : DBox w g v x) (hb : Below w.heap.size w w') : DBox w' g v x := h.below hb h.lt
theorem DBox.only {w w' : World} {g : Nat} {v : DVals} {x : DDesk} {fp : List Nat} (h : DBox w g v x) (ho : Only fp w w') (hg : g ∉ fp) : DBox w' g v x :=
  ⟨(World.cell?_of_block (a := ⟨g, 0, none⟩) (ho.block g h.lt hg)).trans h.c0, (World.cell?_of_block (a := ⟨g, 1, none⟩) (ho.block g h.lt hg)).trans h.c1, (World.cell?_of_block (a := ⟨g, 2, none⟩) (ho.block g h.lt hg)).trans h.c2, (World.cell?_of_block (a := ⟨g, 3, none⟩) (ho.block g h.lt hg)).trans h.c3, (World.cell?_of_block (a := ⟨g, 4, none⟩) (ho.block g h.lt hg)).trans h.c4, (World.cell?_of_block (a := ⟨g, 5, none⟩) (ho.block g h.lt hg)).trans h.c5, (World.cell?_of_block (a := ⟨g, 6, none⟩) (ho.block g h.lt hg)).trans h.c6, (World.cell?_of_block (a := ⟨g, 7, none⟩) (ho.block g h.lt hg)).trans h.c7, (World.cell?_of_block (a := ⟨g, 8, none⟩) (ho.block g h.lt hg)).trans h.c8, (World.cell?_of_block (a := ⟨g, 9, none⟩) (ho.block g h.lt hg)).trans h.c9, (World.cell?_of_block (a := ⟨g, 10, none⟩) (ho.block g h.lt hg)).trans h.c10, (World.cell?_of_block (a := ⟨g, 11, none⟩) (ho.block g h.lt hg)).trans h.c11, (World.cell?_of_block (a := ⟨g, 12, none⟩) (ho.block g h.lt hg)).trans h.c12, (World.cell?_of_block (a := ⟨g, 13, none⟩) (ho.block g h.lt hg)).trans h.c13⟩
theorem DBox.new (w : World) (v : DVals) (x : DDesk) (T : TypeId) : DBox (w.alloc (.cells #[v.ob, .int .i64 x.rows, .int .i64 x.columns, v.ma, v.te, v.st, v.pa, v.zo, v.re, v.ve, v.sh, v.gr, v.wa, v.in_] T)) w.heap.size v x := by
  constructor <;> simp
theorem Sl.nilD {α : Type} (E : Cod α) (w : World) : Sl E w (.slice none 0 0) ([] : List α) [] := ⟨none, 0, rfl, by simp, by simp [maxLen], .inl ⟨rfl, rfl⟩⟩
/-- Lists that bear the marks from k on. -/
structure Marked (y : DDesk) (k K : Int) where
  n0 : Nat
  n1 : Nat
  n2 : Nat
  n3 : Nat
  n4 : Nat
  n5 : Nat
  n6 : List Nat
  mm6 : Nat
  n7 : Nat
  n8 : Nat
  n9 : Nat
  n10 : Nat
  n11 : Nat
  qq6 : n6.length = mm6
  h0 : y.ob = marksObserved k n0
  h1 : y.ma = marksInt64 (k + 4 * (n0 : Int)) n1
  h2 : y.te = marksTest ((k + 4 * (n0 : Int)) + (n1 : Int)) n2
  h3 : y.st = marksStand (((k + 4 * (n0 : Int)) + (n1 : Int)) + 5 * (n2 : Int)) n3
  h4 : y.pa = marksPathPoint ((((k + 4 * (n0 : Int)) + (n1 : Int)) + 5 * (n2 : Int)) + 5 * (n3 : Int)) n4
  h5 : y.zo = marksInt64 (((((k + 4 * (n0 : Int)) + (n1 : Int)) + 5 * (n2 : Int)) + 5 * (n3 : Int)) + 2 * (n4 : Int)) n5
  h6 : y.re = marksRegion ((((((k + 4 * (n0 : Int)) + (n1 : Int)) + 5 * (n2 : Int)) + 5 * (n3 : Int)) + 2 * (n4 : Int)) + (n5 : Int)) n6
  h7 : y.ve = marksVerified (((((((k + 4 * (n0 : Int)) + (n1 : Int)) + 5 * (n2 : Int)) + 5 * (n3 : Int)) + 2 * (n4 : Int)) + (n5 : Int)) + 2 * (mm6 : Int) + (n6.sum : Int)) n7
  h8 : y.sh = marksShot ((((((((k + 4 * (n0 : Int)) + (n1 : Int)) + 5 * (n2 : Int)) + 5 * (n3 : Int)) + 2 * (n4 : Int)) + (n5 : Int)) + 2 * (mm6 : Int) + (n6.sum : Int)) + 3 * (n7 : Int)) n8
  h9 : y.gr = marksGroup (((((((((k + 4 * (n0 : Int)) + (n1 : Int)) + 5 * (n2 : Int)) + 5 * (n3 : Int)) + 2 * (n4 : Int)) + (n5 : Int)) + 2 * (mm6 : Int) + (n6.sum : Int)) + 3 * (n7 : Int)) + 5 * (n8 : Int)) n9
  h10 : y.wa = marksWatch ((((((((((k + 4 * (n0 : Int)) + (n1 : Int)) + 5 * (n2 : Int)) + 5 * (n3 : Int)) + 2 * (n4 : Int)) + (n5 : Int)) + 2 * (mm6 : Int) + (n6.sum : Int)) + 3 * (n7 : Int)) + 5 * (n8 : Int)) + 7 * (n9 : Int)) n10
  h11 : y.in_ = marksIncident (((((((((((k + 4 * (n0 : Int)) + (n1 : Int)) + 5 * (n2 : Int)) + 5 * (n3 : Int)) + 2 * (n4 : Int)) + (n5 : Int)) + 2 * (mm6 : Int) + (n6.sum : Int)) + 3 * (n7 : Int)) + 5 * (n8 : Int)) + 7 * (n9 : Int)) + 4 * (n10 : Int)) n11
  last : K = ((((((((((((k + 4 * (n0 : Int)) + (n1 : Int)) + 5 * (n2 : Int)) + 5 * (n3 : Int)) + 2 * (n4 : Int)) + (n5 : Int)) + 2 * (mm6 : Int) + (n6.sum : Int)) + 3 * (n7 : Int)) + 5 * (n8 : Int)) + 7 * (n9 : Int)) + 4 * (n10 : Int)) + 6 * (n11 : Int))
  b0 : n0 ≤ 1000000000
  b1 : n1 ≤ 1000000000
  b2 : n2 ≤ 1000000000
  b3 : n3 ≤ 1000000000
  b4 : n4 ≤ 1000000000
  b5 : n5 ≤ 1000000000
  b6 : n6.length ≤ 1000000000 ∧ n6.sum ≤ 1000000000
  b7 : n7 ≤ 1000000000
  b8 : n8 ≤ 1000000000
  b9 : n9 ≤ 1000000000
  b10 : n10 ≤ 1000000000
  b11 : n11 ≤ 1000000000
def totDesk (x : DDesk) : Nat := totObservedS x.ob + totInt64S x.ma + totTestS x.te + totStandS x.st + totPathPointS x.pa + totInt64S x.zo + totRegionS x.re + totVerifiedS x.ve + totShotS x.sh + totGroupS x.gr + totWatchS x.wa + totIncidentS x.in_
structure BoxD (w : World) (g : Nat) : Prop where
  d0 : w.cell? ⟨g, 0, none⟩ = some (.slice none 0 0)
  d1 : w.cell? ⟨g, 1, none⟩ = some (.int .i64 0)
  d2 : w.cell? ⟨g, 2, none⟩ = some (.int .i64 0)
  d3 : w.cell? ⟨g, 3, none⟩ = some (.slice none 0 0)
  d4 : w.cell? ⟨g, 4, none⟩ = some (.slice none 0 0)
  d5 : w.cell? ⟨g, 5, none⟩ = some (.slice none 0 0)
  d6 : w.cell? ⟨g, 6, none⟩ = some (.slice none 0 0)
  d7 : w.cell? ⟨g, 7, none⟩ = some (.slice none 0 0)
  d8 : w.cell? ⟨g, 8, none⟩ = some (.slice none 0 0)
  d9 : w.cell? ⟨g, 9, none⟩ = some (.slice none 0 0)
  d10 : w.cell? ⟨g, 10, none⟩ = some (.slice none 0 0)
  d11 : w.cell? ⟨g, 11, none⟩ = some (.slice none 0 0)
  d12 : w.cell? ⟨g, 12, none⟩ = some (.slice none 0 0)
  d13 : w.cell? ⟨g, 13, none⟩ = some (.slice none 0 0)
  z0 : w.frozen? ⟨g, 0, none⟩ = false
  z1 : w.frozen? ⟨g, 1, none⟩ = false
  z2 : w.frozen? ⟨g, 2, none⟩ = false
  z3 : w.frozen? ⟨g, 3, none⟩ = false
  z4 : w.frozen? ⟨g, 4, none⟩ = false
  z5 : w.frozen? ⟨g, 5, none⟩ = false
  z6 : w.frozen? ⟨g, 6, none⟩ = false
  z7 : w.frozen? ⟨g, 7, none⟩ = false
  z8 : w.frozen? ⟨g, 8, none⟩ = false
  z9 : w.frozen? ⟨g, 9, none⟩ = false
  z10 : w.frozen? ⟨g, 10, none⟩ = false
  z11 : w.frozen? ⟨g, 11, none⟩ = false
  z12 : w.frozen? ⟨g, 12, none⟩ = false
  z13 : w.frozen? ⟨g, 13, none⟩ = false
theorem BoxD.new (w : World) (T : TypeId) : BoxD (w.alloc (.cells #[.slice none 0 0, .int .i64 0, .int .i64 0, .slice none 0 0, .slice none 0 0, .slice none 0 0, .slice none 0 0, .slice none 0 0, .slice none 0 0, .slice none 0 0, .slice none 0 0, .slice none 0 0, .slice none 0 0, .slice none 0 0] T)) w.heap.size := by
  constructor <;> simp
theorem BoxD.below {w w' : World} {g B : Nat} (h : BoxD w g) (hb : Below B w w') (hg : g < B) : BoxD w' g :=
  ⟨(hb.cell (p := ⟨g, _, none⟩) hg).trans h.d0, (hb.cell (p := ⟨g, _, none⟩) hg).trans h.d1, (hb.cell (p := ⟨g, _, none⟩) hg).trans h.d2, (hb.cell (p := ⟨g, _, none⟩) hg).trans h.d3, (hb.cell (p := ⟨g, _, none⟩) hg).trans h.d4, (hb.cell (p := ⟨g, _, none⟩) hg).trans h.d5, (hb.cell (p := ⟨g, _, none⟩) hg).trans h.d6, (hb.cell (p := ⟨g, _, none⟩) hg).trans h.d7, (hb.cell (p := ⟨g, _, none⟩) hg).trans h.d8, (hb.cell (p := ⟨g, _, none⟩) hg).trans h.d9, (hb.cell (p := ⟨g, _, none⟩) hg).trans h.d10, (hb.cell (p := ⟨g, _, none⟩) hg).trans h.d11, (hb.cell (p := ⟨g, _, none⟩) hg).trans h.d12, (hb.cell (p := ⟨g, _, none⟩) hg).trans h.d13,
   (hb.frozen (p := ⟨g, _, none⟩) hg).trans h.z0, (hb.frozen (p := ⟨g, _, none⟩) hg).trans h.z1, (hb.frozen (p := ⟨g, _, none⟩) hg).trans h.z2, (hb.frozen (p := ⟨g, _, none⟩) hg).trans h.z3, (hb.frozen (p := ⟨g, _, none⟩) hg).trans h.z4, (hb.frozen (p := ⟨g, _, none⟩) hg).trans h.z5, (hb.frozen (p := ⟨g, _, none⟩) hg).trans h.z6, (hb.frozen (p := ⟨g, _, none⟩) hg).trans h.z7, (hb.frozen (p := ⟨g, _, none⟩) hg).trans h.z8, (hb.frozen (p := ⟨g, _, none⟩) hg).trans h.z9, (hb.frozen (p := ⟨g, _, none⟩) hg).trans h.z10, (hb.frozen (p := ⟨g, _, none⟩) hg).trans h.z11, (hb.frozen (p := ⟨g, _, none⟩) hg).trans h.z12, (hb.frozen (p := ⟨g, _, none⟩) hg).trans h.z13⟩
theorem BoxD.far {V : World} {b g j : Nat} {v : Value} (h : BoxD V b) (hne : b ≠ g) : BoxD (V.setCell ⟨g, j, none⟩ v) b := by
  have k : ∀ i, (V.setCell ⟨g, j, none⟩ v).cell? ⟨b, i, none⟩ = V.cell? ⟨b, i, none⟩ := fun i => World.cell?_setCell_far V ⟨g, j, none⟩ ⟨b, i, none⟩ v (fun e => hne e.symm)
  have f : ∀ i, (V.setCell ⟨g, j, none⟩ v).frozen? ⟨b, i, none⟩ = V.frozen? ⟨b, i, none⟩ := fun i => frozen?_setCell _ _ _ _
  exact ⟨(k _).trans h.d0, (k _).trans h.d1, (k _).trans h.d2, (k _).trans h.d3, (k _).trans h.d4, (k _).trans h.d5, (k _).trans h.d6, (k _).trans h.d7, (k _).trans h.d8, (k _).trans h.d9, (k _).trans h.d10, (k _).trans h.d11, (k _).trans h.d12, (k _).trans h.d13, (f _).trans h.z0, (f _).trans h.z1, (f _).trans h.z2, (f _).trans h.z3, (f _).trans h.z4, (f _).trans h.z5, (f _).trans h.z6, (f _).trans h.z7, (f _).trans h.z8, (f _).trans h.z9, (f _).trans h.z10, (f _).trans h.z11, (f _).trans h.z12, (f _).trans h.z13⟩
/-- A box of 14 cells that are known by their places. -/
structure OBox (w : World) (g : Nat) (cs : Nat → Value) : Prop where
  c : ∀ j, j < 14 → w.cell? ⟨g, j, none⟩ = some (cs j)
  z : ∀ j, w.frozen? ⟨g, j, none⟩ = false
def zeroD : Nat → Value
  | 1 => .int .i64 0
  | 2 => .int .i64 0
  | _ => .slice none 0 0
theorem OBox.lt {w : World} {g : Nat} {cs : Nat → Value} (h : OBox w g cs) : g < w.heap.size := block_lt_of_cell (h.c 0 (by omega))
theorem OBox.below' {w w' : World} {g : Nat} {cs : Nat → Value} (h : OBox w g cs) (hb : Below w.heap.size w w') : OBox w' g cs :=
  ⟨fun j hj => (hb.cell (p := ⟨g, j, none⟩) h.lt).trans (h.c j hj), fun j => (hb.frozen (p := ⟨g, j, none⟩) h.lt).trans (h.z j)⟩
theorem OBox.set {w : World} {g : Nat} {cs : Nat → Value} (h : OBox w g cs) {k : Nat} (hk : k < 14) (v : Value) : OBox (w.setCell ⟨g, k, none⟩ v) g (fun i => if i = k then v else cs i) := by
  refine ⟨fun j hj => ?_, fun j => (frozen?_setCell _ _ _ _).trans (h.z j)⟩
  by_cases e : j = k
  · subst e; rw [if_pos rfl]; exact World.cell?_setCell_same w _ _ (h.c j hj)
  · rw [if_neg e, World.cell?_setCell_other _ _ _ _ (fun e2 => by injection e2 with _ e2 _; exact e e2.symm)]
    exact h.c j hj
theorem OBox.new (w : World) (T : TypeId) : OBox (w.alloc (.cells #[.slice none 0 0, .int .i64 0, .int .i64 0, .slice none 0 0, .slice none 0 0, .slice none 0 0, .slice none 0 0, .slice none 0 0, .slice none 0 0, .slice none 0 0, .slice none 0 0, .slice none 0 0, .slice none 0 0, .slice none 0 0] T)) w.heap.size zeroD := by
  constructor
  · intro j hj
    have : j = 0 ∨ j = 1 ∨ j = 2 ∨ j = 3 ∨ j = 4 ∨ j = 5 ∨ j = 6 ∨ j = 7 ∨ j = 8 ∨ j = 9 ∨ j = 10 ∨ j = 11 ∨ j = 12 ∨ j = 13 := by omega
    rcases this with h | h | h | h | h | h | h | h | h | h | h | h | h | h <;> subst h <;> simp [zeroD]
  · intro j; simp
theorem BoxD.onlyB {w w' : World} {g : Nat} {fp : List Nat} (h : BoxD w g) (ho : Only fp w w') (hg : g ∉ fp) : BoxD w' g :=
  have hl := block_lt_of_cell h.d0
  ⟨(World.cell?_of_block (a := ⟨g, 0, none⟩) (ho.block g hl hg)).trans h.d0, (World.cell?_of_block (a := ⟨g, 1, none⟩) (ho.block g hl hg)).trans h.d1, (World.cell?_of_block (a := ⟨g, 2, none⟩) (ho.block g hl hg)).trans h.d2, (World.cell?_of_block (a := ⟨g, 3, none⟩) (ho.block g hl hg)).trans h.d3, (World.cell?_of_block (a := ⟨g, 4, none⟩) (ho.block g hl hg)).trans h.d4, (World.cell?_of_block (a := ⟨g, 5, none⟩) (ho.block g hl hg)).trans h.d5, (World.cell?_of_block (a := ⟨g, 6, none⟩) (ho.block g hl hg)).trans h.d6, (World.cell?_of_block (a := ⟨g, 7, none⟩) (ho.block g hl hg)).trans h.d7, (World.cell?_of_block (a := ⟨g, 8, none⟩) (ho.block g hl hg)).trans h.d8, (World.cell?_of_block (a := ⟨g, 9, none⟩) (ho.block g hl hg)).trans h.d9, (World.cell?_of_block (a := ⟨g, 10, none⟩) (ho.block g hl hg)).trans h.d10, (World.cell?_of_block (a := ⟨g, 11, none⟩) (ho.block g hl hg)).trans h.d11, (World.cell?_of_block (a := ⟨g, 12, none⟩) (ho.block g hl hg)).trans h.d12, (World.cell?_of_block (a := ⟨g, 13, none⟩) (ho.block g hl hg)).trans h.d13, (World.frozen?_of_block (a := ⟨g, 0, none⟩) (ho.block g hl hg)).trans h.z0, (World.frozen?_of_block (a := ⟨g, 1, none⟩) (ho.block g hl hg)).trans h.z1, (World.frozen?_of_block (a := ⟨g, 2, none⟩) (ho.block g hl hg)).trans h.z2, (World.frozen?_of_block (a := ⟨g, 3, none⟩) (ho.block g hl hg)).trans h.z3, (World.frozen?_of_block (a := ⟨g, 4, none⟩) (ho.block g hl hg)).trans h.z4, (World.frozen?_of_block (a := ⟨g, 5, none⟩) (ho.block g hl hg)).trans h.z5, (World.frozen?_of_block (a := ⟨g, 6, none⟩) (ho.block g hl hg)).trans h.z6, (World.frozen?_of_block (a := ⟨g, 7, none⟩) (ho.block g hl hg)).trans h.z7, (World.frozen?_of_block (a := ⟨g, 8, none⟩) (ho.block g hl hg)).trans h.z8, (World.frozen?_of_block (a := ⟨g, 9, none⟩) (ho.block g hl hg)).trans h.z9, (World.frozen?_of_block (a := ⟨g, 10, none⟩) (ho.block g hl hg)).trans h.z10, (World.frozen?_of_block (a := ⟨g, 11, none⟩) (ho.block g hl hg)).trans h.z11, (World.frozen?_of_block (a := ⟨g, 12, none⟩) (ho.block g hl hg)).trans h.z12, (World.frozen?_of_block (a := ⟨g, 13, none⟩) (ho.block g hl hg)).trans h.z13⟩
theorem DeskRd.onlyF {w w' : World} {v : DVals} {x : DDesk} {F : Nat → List Nat} {fp : List Nat} (h : DeskRd w v x F) (ho : Only fp w w') (hd : ∀ i, i < 12 → ∀ b ∈ F i, b ∉ fp) : DeskRd w' v x F :=
  ⟨h.ob.only ho (hd 0 (by decide)), h.ma.only ho (hd 1 (by decide)), h.te.only ho (hd 2 (by decide)), h.st.only ho (hd 3 (by decide)), h.pa.only ho (hd 4 (by decide)), h.zo.only ho (hd 5 (by decide)), h.re.only ho (hd 6 (by decide)), h.ve.only ho (hd 7 (by decide)), h.sh.only ho (hd 8 (by decide)), h.gr.only ho (hd 9 (by decide)), h.wa.only ho (hd 10 (by decide)), h.in_.only ho (hd 11 (by decide))⟩
theorem DeskRd.ltF {w : World} {v : DVals} {x : DDesk} {F : Nat → List Nat} (h : DeskRd w v x F) : ∀ i, i < 12 → ∀ b ∈ F i, b < w.heap.size := fun i hi => match i, hi with
  | 0, _ => h.ob.lt
  | 1, _ => h.ma.lt
  | 2, _ => h.te.lt
  | 3, _ => h.st.lt
  | 4, _ => h.pa.lt
  | 5, _ => h.zo.lt
  | 6, _ => h.re.lt
  | 7, _ => h.ve.lt
  | 8, _ => h.sh.lt
  | 9, _ => h.gr.lt
  | 10, _ => h.wa.lt
  | 11, _ => h.in_.lt
structure NewD (w : World) (v : DVals) (x : DDesk) (F : Nat → List Nat) (w' : World) : Prop where
  rd : DeskRd w' v x F
  lo : ∀ i, i < 12 → ∀ b ∈ F i, w.heap.size ≤ b
  ap : ∀ i j, i < 12 → j < 12 → i ≠ j → ∀ b ∈ F i, b ∉ F j
  nd : (F 6).Nodup
  below : Below w.heap.size w w'

end Go.Proofs.YtgnbhcgagdfaiaaGreatDoor

namespace Go.Proofs.YtgnbhcgagdfaiaaGreatDoor
open Go.RowKit Go.WideShapes Go.ChangeShapes Go.ChangeAt Go.Deep

/-- Whatever the form's reader reads at type t reads by E. -/
def Opens {α : Type} (t : TypeId) (E : Cod α) : Prop :=
  ∀ {H : Type} {enc : TypeId × Value → H} {w : World} {n : Nat} {cs : List Value} {x : DataW H × List MemPlace},
    DataW.trod enc Tryz.prog w 0 (fun _ => true) true n t cs = some x → w.noneFrozen x.2 → ∃ y fp, E.rd w cs y fp

theorem opens_int {t : TypeId} (ht : Tryz.prog.underlying t = some (.int .i64)) : Opens t fInt.cod := by
  intro H enc w n cs x h _
  obtain ⟨k, rfl, rfl, wk⟩ := DataW.trod_int ht h
  refine ⟨k, [], rfl, ?_, rfl⟩
  exact bounds_i64 wk
theorem opens_str {t : TypeId} (ht : Tryz.prog.underlying t = some .string) : Opens t fStr.cod := by
  intro H enc w n cs x h _
  obtain ⟨s, rfl, rfl, hs⟩ := DataW.trod_string ht h
  exact ⟨s, [], rfl, by unfold maxLen at hs; exact hs, rfl⟩
theorem opens_bool {t : TypeId} (ht : Tryz.prog.underlying t = some .bool) : Opens t fBool.cod := by
  intro H enc w n cs x h _
  obtain ⟨s, rfl, rfl⟩ := DataW.trod_bool ht h
  exact ⟨s, [], rfl, trivial, rfl⟩

theorem add_none (b off x y : Nat) : ((⟨b, off, none⟩ : Addr).add x).add y = ⟨b, off + x + y, none⟩ := by
  unfold Addr.add
  by_cases hx : x = 0 <;> by_cases hy : y = 0 <;> simp [hx, hy]

theorem opens_slice {α : Type} {E : Cod α} {t e : TypeId} (ht : Tryz.prog.underlying t = some (.slice e)) (hn : Tryz.prog.cellsOf e = E.n) (he : Opens e E) : Opens t E.slice := by
  intro H enc w n cs x h hfz
  rcases open_slice ht h with ⟨rfl, rfl⟩ | ⟨a, len, cap, m, n', D, Pl, rfl, hb, hl, hm, hmm, hx, hi⟩
  · exact ⟨[], [], _, rfl, none, 0, rfl, by simp, by simp [maxLen], .inl ⟨rfl, rfl⟩⟩
  · simp only [if_true] at hmm
    subst hmm
    rcases Nat.eq_zero_or_pos len with h0 | h0
    · subst h0
      exact ⟨[], [], _, rfl, some a, m, rfl, by simp, hm, .inl ⟨rfl, rfl⟩⟩
    · rw [hn] at hi
      have hspot : a = ⟨a.block, a.off, none⟩ := by
        obtain ⟨cs', hc, _⟩ := hi 0 (by omega)
        obtain ⟨_, hcl, hat⟩ := World.cells?_some hc
        have h1 := hat 0 E.pos
        have hps := E.pos
        rw [List.getElem?_eq_getElem (by omega)] at h1
        have h2 : w.cell? a = some cs'[0] := by simpa [Addr.add] using h1
        have := World.cell?_spot h2
        cases a; simp_all
      have hel : ∀ i : Fin len, ∃ p : α × List Nat × List Value, (∀ j, j < E.n → w.cell? ⟨a.block, a.off + i.1 * E.n + j, none⟩ = p.2.2[j]?) ∧ (∀ j, j < E.n → w.frozen? ⟨a.block, a.off + i.1 * E.n + j, none⟩ = false) ∧ E.rd w p.2.2 p.1 p.2.1 := by
        intro ⟨i, hil⟩
        obtain ⟨cs', hc, htr⟩ := hi i (by omega)
        obtain ⟨_, hcl, hat⟩ := World.cells?_some hc
        have hsub : ∀ pl ∈ Pl i, pl ∈ x.2 := by
          intro pl hpl
          rw [hx]
          exact List.mem_append_right _ (List.mem_flatMap.2 ⟨i, by simp; omega, hpl⟩)
        obtain ⟨y, fp, hy⟩ := he htr (fun b off hmem => hfz b off (hsub _ hmem))
        refine ⟨⟨y, fp, cs'⟩, fun j hj => ?_, fun j hj => ?_, hy⟩
        · have := hat j hj
          rw [hspot, add_none] at this
          exact this
        · refine hfz _ _ ?_
          rw [hx]
          refine List.mem_append_left _ ?_
          unfold MemPlace.row
          refine List.mem_map.2 ⟨i * E.n + j, ?_, by rw [Nat.add_assoc]⟩
          rw [List.mem_range, hn]
          have : (i + 1) * E.n ≤ m * E.n := Nat.mul_le_mul_right _ (by omega)
          rw [Nat.succ_mul] at this
          omega
      obtain ⟨f, hf⟩ := Classical.axiomOfChoice hel
      have hblk : a.block < w.heap.size := by
        obtain ⟨h1, _, h3⟩ := hf ⟨0, h0⟩
        have h1 := h1 0 E.pos
        have h4 := E.len h3
        have hps := E.pos
        rw [List.getElem?_eq_getElem (by omega)] at h1
        exact block_lt_of_cell (a := ⟨a.block, _, none⟩) h1
      refine ⟨List.ofFn fun i => (f i).1, a.block :: (List.range len).flatMap fun i => if h : i < len then (f ⟨i, h⟩).2.1 else [], _, rfl, some a, m, by simp, by simpa using hl, hm,
        .inr ⟨a.block, a.off, _, by rw [← hspot], hblk, by rw [List.length_ofFn], fun i hil => ?_⟩⟩
      rw [List.length_ofFn] at hil
      obtain ⟨h1, h2, h3⟩ := hf ⟨i, hil⟩
      refine ⟨(f ⟨i, hil⟩).2.2, h1, h2, ?_⟩
      simpa [hil] using h3

/-- A struct of fields of one cell each. -/
theorem opens_fields {t : TypeId} {fs : Array Field} (ht : Tryz.prog.underlying t = some (.struct fs)) (hone : oneCellFields Tryz.prog fs = true) (hC : Tryz.prog.cellsOf t = fs.size)
    {H : Type} {enc : TypeId × Value → H} {w : World} {n : Nat} {cs : List Value} {x : DataW H × List MemPlace} (h : DataW.trod enc Tryz.prog w 0 (fun _ => true) true n t cs = some x) (hfz : w.noneFrozen x.2) :
    cs.length = fs.size ∧ ∀ (j : Nat) (f : Field), fs[j]? = some f → ∃ (v : Value) (m : Nat) (y : DataW H × List MemPlace), cs[j]? = some v ∧ DataW.trod enc Tryz.prog w 0 (fun _ => true) true m f.type [v] = some y ∧ w.noneFrozen y.2 := by
  obtain ⟨xs, n', rfl, hx, hl, hxl, hf⟩ := DataW.trod_struct ht h
  refine ⟨hl.trans hC, fun j f hj => ?_⟩
  have hjl : j < fs.size := (Array.getElem?_eq_some_iff.1 hj).1
  obtain ⟨ho, hk⟩ := hone_of hone j f hj
  have h1 := hf j f hj
  rw [ho, hk] at h1
  have hcl : j < cs.length := by rw [hl, hC]; exact hjl
  have e1 : (cs.drop j).take 1 = [cs[j]] := by
    rw [List.drop_eq_getElem_cons hcl]; rfl
  rw [e1, List.getElem?_eq_getElem (by omega)] at h1
  refine ⟨cs[j], n', xs[j], List.getElem?_eq_getElem hcl, h1, fun b off hm => hfz b off ?_⟩
  rw [hx]
  exact List.mem_flatMap.2 ⟨xs[j], List.getElem_mem _, hm⟩

/-- An argument that came in: its value reads. -/
theorem Opens.arg {α : Type} {t : TypeId} {E : Cod α} (ho : Opens t E) {H : Type} {enc : TypeId × Value → H} {w : World} {v : Value} {d : DataW H} {ps : List MemPlace}
    (h : DataW.Trod enc Tryz.prog w 0 (fun _ => true) true t v d ps) (hfz : w.noneFrozen ps) : ∃ y fp, E.rd w v.cells.toList y fp := by
  obtain ⟨n, hn⟩ := h
  exact ho hn hfz
theorem Opens.sl {α : Type} {t : TypeId} {E : Cod α} (ho : Opens t E.slice) {H : Type} {enc : TypeId × Value → H} {w : World} {v : Value} {d : DataW H} {ps : List MemPlace}
    (h : DataW.Trod enc Tryz.prog w 0 (fun _ => true) true t v d ps) (hfz : w.noneFrozen ps) {A : Option Addr} {len cap : Nat} (hv : v = .slice A len cap) : ∃ y fp, Sl E w v y fp := by
  obtain ⟨y, fp, u, hu, hs⟩ := ho.arg h hfz
  subst hv
  simp [Value.cells] at hu
  subst hu
  exact ⟨y, fp, hs⟩

end Go.Proofs.YtgnbhcgagdfaiaaGreatDoor

namespace Go.Proofs.YtgnbhcgagdfaiaaGreatDoor
open Go.RowKit
end Go.Proofs.YtgnbhcgagdfaiaaGreatDoor

namespace Go.Proofs.YtgnbhcgagdfaiaaGreatDoor
open Go.RowKit
end Go.Proofs.YtgnbhcgagdfaiaaGreatDoor

namespace Go.Proofs.YtgnbhcgagdfaiaaGreatDoor
open Go.RowKit
end Go.Proofs.YtgnbhcgagdfaiaaGreatDoor

namespace Go.Proofs.YtgnbhcgagdfaiaaGreatDoor
open Go.RowKit
end Go.Proofs.YtgnbhcgagdfaiaaGreatDoor

namespace Go.Proofs.YtgnbhcgagdfaiaaGreatDoor
open Go.RowKit
end Go.Proofs.YtgnbhcgagdfaiaaGreatDoor

namespace Go.Proofs.YtgnbhcgagdfaiaaGreatDoor
open Go.RowKit
end Go.Proofs.YtgnbhcgagdfaiaaGreatDoor

namespace Go.Proofs.YtgnbhcgagdfaiaaGreatDoor
open Go.RowKit
end Go.Proofs.YtgnbhcgagdfaiaaGreatDoor

namespace Go.Proofs.YtgnbhcgagdfaiaaGreatDoor
open Go.RowKit
end Go.Proofs.YtgnbhcgagdfaiaaGreatDoor

namespace Go.Proofs.YtgnbhcgagdfaiaaGreatDoor
open Go.RowKit
end Go.Proofs.YtgnbhcgagdfaiaaGreatDoor

namespace Go.Proofs.YtgnbhcgagdfaiaaGreatDoor
open Go.RowKit Go.WideShapes Go.ChangeShapes Go.ChangeAt Go.Deep
set_option linter.unusedVariables false

theorem opensRegion : Opens 56 cRegion := by
  intro H enc w m cs x h hfz
  obtain ⟨hl, hf⟩ := opens_fields Tryz.underlying56 (by kernel_rfl) (by kernel_rfl) h hfz
  obtain ⟨v0, m0, y0, c0, t0, z0⟩ := hf 0 _ rfl
  obtain ⟨a0, _, e0, ok0, _⟩ := opens_str Tryz.underlying9 t0 z0
  obtain rfl : v0 = _ := by injection e0
  obtain ⟨v1, m1, y1, c1, t1, z1⟩ := hf 1 _ rfl
  obtain ⟨a1, _, e1, ok1, _⟩ := opens_int Tryz.underlying2 t1 z1
  obtain rfl : v1 = _ := by injection e1
  obtain ⟨v2, m2, y2, c2, t2, z2⟩ := hf 2 _ rfl
  obtain ⟨a2, fp2, e2⟩ := opens_slice Tryz.underlying24 (by kernel_rfl) (opens_str Tryz.underlying9) t2 z2
  have hl' : cs.length = 3 := hl
  match cs, hl' with
  | [u0, u1, u2], _ =>
    obtain rfl : u0 = _ := by simpa using c0
    obtain rfl : u1 = _ := by simpa using c1
    obtain rfl : u2 = _ := by simpa using c2
    exact ⟨⟨a0, a1, a2⟩, fp2, _, rfl, ok0, ok1, e2⟩
theorem opens_parts {t : TypeId} {fs : Array Field} (ht : Tryz.prog.underlying t = some (.struct fs))
    {H : Type} {enc : TypeId × Value → H} {w : World} {n : Nat} {cs : List Value} {x : DataW H × List MemPlace} (h : DataW.trod enc Tryz.prog w 0 (fun _ => true) true n t cs = some x) (hfz : w.noneFrozen x.2) :
    cs.length = Tryz.prog.cellsOf t ∧ ∀ (j : Nat) (f : Field), fs[j]? = some f → ∃ (m : Nat) (y : DataW H × List MemPlace), DataW.trod enc Tryz.prog w 0 (fun _ => true) true m f.type ((cs.drop f.offset).take (Tryz.prog.cellsOf f.type)) = some y ∧ w.noneFrozen y.2 := by
  obtain ⟨xs, n', rfl, hx, hl, hxl, hf⟩ := DataW.trod_struct ht h
  refine ⟨hl, fun j f hj => ?_⟩
  have hjl : j < fs.size := (Array.getElem?_eq_some_iff.1 hj).1
  have h1 := hf j f hj
  rw [List.getElem?_eq_getElem (by omega)] at h1
  refine ⟨n', xs[j], h1, fun b off hm => hfz b off ?_⟩
  rw [hx]
  exact List.mem_flatMap.2 ⟨xs[j], List.getElem_mem _, hm⟩
def fps (L : List (List Nat)) (i : Nat) : List Nat := L.getD i []
end Go.Proofs.YtgnbhcgagdfaiaaGreatDoor
