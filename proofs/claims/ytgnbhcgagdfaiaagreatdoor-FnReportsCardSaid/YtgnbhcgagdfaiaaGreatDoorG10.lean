/- Parts of the proof: Js, Pa2, Jv, Pd, B10, Law, LawS. -/
import Derived.Test.YtgnbhcgagdfaiaaGreatDoorG07
import Derived.Test.YtgnbhcgagdfaiaaGreatDoorG09
import Derived.Test.YtgnbhcgagdfaiaaGreatDoorG05
import Derived.Test.YtgnbhcgagdfaiaaGreatDoorG08
import Derived.Test.YtgnbhcgagdfaiaaGreatDoorG02
import Derived.Test.YtgnbhcgagdfaiaaGreatDoorG04
import Derived.Test.YtgnbhcgagdfaiaaGreatDoorG01
import Derived.ProofKit
import Derived.ChangeSame
import Derived.HandedShaped
import Derived.Shelf.Vars
namespace Go.Proofs.YtgnbhcgagdfaiaaGreatDoor
open Go.RowKit
set_option linter.unusedVariables false

/-- The queue is changed in place. -/
theorem GSt.inplace {w w' : World} {base gs n Bq : Nat} {f : Nat → Bool} {vo vg : Value} {L : List (List Nat)} {V : Nat → Value} {G : Nat → Nat} {gq m cap : Nat} {q q' s : List Nat} (h : GSt w base gs n Bq f vo L V G (.slice (some ⟨gq, 0, none⟩) m cap) q vg s) (ho : Only [gq] w w') (hq : Own fInt w' Bq 2 (.slice (some ⟨gq, 0, none⟩) m cap) (ints q')) : GSt w' base gs n Bq f vo L V G (.slice (some ⟨gq, 0, none⟩) m cap) q' vg s := by
  have hgq := (own_at h.qo (g := gq) rfl).1
  have hk : ∀ b, b < Bq → b < w.heap.size → w'.heap[b]? = w.heap[b]? := fun b hb hbl => ho.block b hbl (by rw [List.mem_singleton]; omega)
  refine ⟨h.out.keep (fun b hb => hk b (h.low b hb).1 (h.out.lt hb).2), h.low, own_stays h.seen (fun b hb hbl => ?_), h.gsl, hq, own_stays h.go (fun b hb hbl => ho.block b hbl (by
    rw [List.mem_singleton]; intro e; exact h.ap b hb (by rw [e]; rfl))), h.ap⟩
  have e : gs = b := by injection hb
  exact hk b (by have := h.gsl; omega) hbl
theorem ints_perm {q : List Nat} {L : List Int} (h : L.Perm (ints q)) (hs : L.Pairwise (· ≤ ·)) (hn : q.Nodup) : ∃ s, L = ints s ∧ s.Pairwise (· < ·) ∧ s.length = q.length ∧ ∀ x, x ∈ s ↔ x ∈ q := by
  have e := ints_back (L := L) (fun y hy => ints_pos y (h.mem_iff.1 hy))
  have hmem : ∀ x, x ∈ L.map Int.toNat ↔ x ∈ q := fun x => by rw [← ints_mem, e, h.mem_iff, ints_mem]
  have hnd : (ints q).Nodup := by
    unfold ints
    rw [List.nodup_iff_pairwise_ne] at *
    rw [List.pairwise_map]
    exact hn.imp (fun h e => h (by omega))
  have hnd2 := h.nodup_iff.2 hnd
  refine ⟨_, e.symm, ?_, ?_, hmem⟩
  · rw [← ints_sorted, e]
    rw [List.nodup_iff_pairwise_ne] at hnd2
    exact hs.imp₂ (fun a b h1 h2 => by omega) hnd2
  · rw [List.length_map, h.length_eq, ints_len]
set_option maxRecDepth 100000 in
set_option maxHeartbeats 8000000 in
theorem joined_any (v : Value) (xs : List DRegion) (fp : List Nat) (w : World) (hx : Sl cRegion w v xs fp) (hv : regionsB xs = true) :
    Calls Tryz.prog 37 #[v] w fun e w' => GrR xs w e w' := by
  obtain ⟨A, cap, rfl, hlen, hcap⟩ := hx.form
  obtain ⟨j0, hj, hy0, hy1, hy2⟩ := info_parts infoIntP
  obtain ⟨i0, hi, hz0, hz1, hz2⟩ := info_parts infoRowP
  obtain ⟨k0, hk0, hb0', hb1', hb2'⟩ := info_parts infoBoolP
  have hn8 := regs_len hv
  have hmk : ∀ W : World, (Instr.makeSlice 97 (.int .i64 (xs.length : Nat)) (.int .i64 (xs.length : Nat))).run Tryz.prog W = .ok (.slice (some ⟨W.heap.size, 0, none⟩) xs.length xs.length) (W.alloc (.cells (madeCells #[Value.bool false] xs.length) 4)) := fun W => by
    have h := run_make_rowN (P := Tryz.prog) 97 4 k0 _ Tryz.underlying97 hk0 hb0' .i64 .i64 xs.length xs.length (Nat.le_refl _) (by rw [hb2']; omega) (by omega) W
    rw [hb1', Nat.mul_one] at h
    exact h
  have hg := adjR_graph hv
  have HV := Lib.hid hv
  have hB1 : Below w.heap.size w (w.alloc (.cells (madeCells #[Value.bool false] xs.length) 4)) := (Below.refl _ _).alloc (Nat.le_refl _) _
  have hS0 : Own fBool (w.alloc (.cells (madeCells #[Value.bool false] xs.length) 4)) w.heap.size 4 (.slice (some ⟨w.heap.size, 0, none⟩) xs.length xs.length) (seenL xs.length (fun _ => false)) := madeBools w w.heap.size xs.length (Nat.le_refl _) (by omega)
  have hP0 : PgW (w.alloc (.cells (madeCells #[Value.bool false] xs.length) 4)) w.heap.size (.slice none 0 0) 0 (fun _ => undef) (fun _ => []) (fun _ => 0) :=
    PgW.nil (c := 0) (show World.ownsRow _ w.heap.size 46 1 _ 0 [] from Own.nil fInt _ _ _)
  obtain ⟨gs, hgs⟩ : ∃ gs, gs = w.heap.size := ⟨_, rfl⟩
  clear hk0 hb0' hb1' hb2'
  go_enter Tryz.func37, Tryz.ntmps37
  go_wp2
  go_loopw [3, 17] (fun vo c wr => ∃ (i : Nat) (V : Nat → Value) (G : Nat → Nat), i ≤ xs.length ∧ c = .int .i64 i ∧ PgW wr w.heap.size vo (groupsL xs.length (adjR xs) i).length V (fun j => ints ((groupsL xs.length (adjR xs) i).getD j [])) G ∧ (∀ b, inPg vo (groupsL xs.length (adjR xs) i).length G b → b ≠ w.heap.size) ∧ Own fBool wr w.heap.size 4 (.slice (some ⟨w.heap.size, 0, none⟩) xs.length xs.length) (seenL xs.length (seenB (adjR xs) i)) ∧ Below w.heap.size w wr) (fun _ c _ => xs.length - (intOf c).toNat)
  case atStart =>
    refine ⟨0, _, _, Nat.zero_le _, rfl, hP0.congr (fun i hi => absurd hi (Nat.not_lt_zero _)), fun b hb => ?_, hS0, hB1⟩
    rcases hb with hb | ⟨i, hi, _⟩
    · cases hb
    · exact absurd hi (Nat.not_lt_zero _)
  case round => as_aux_lemma =>
    clear hS0 hP0 hB1
    obtain ⟨i, V, G, hi1, rfl, hpg, hne, hse, hb⟩ := hrel
    rename World => wo
    by_cases hlt : i < xs.length
    rotate_left
    · obtain rfl : i = xs.length := by omega
      obtain ⟨fq, h1, h2, _⟩ := hpg.sl (xss := (groupsL xs.length (adjR xs) xs.length).map ints) mapGet (fun i _ => ints_ok (grp_ok (by omega)))
      obtain ⟨A5, c5, rfl⟩ := hpg.form
      clear hpg hse hne
      go_wp2
      go_ret
      exact ⟨_, fq, rfl, h1, h2, hb⟩
    have hlti : (i : Int) < (xs.length : Int) := by omega
    have cs := hse.cellBool (seenL_get (f := seenB (adjR xs) i) hlt)
    have zs := hse.frozenS i
    cases hsi : seenB (adjR xs) i i
    rotate_left
    · rw [hsi] at cs
      have HG := Lib.hid (groupsL_skip (n := xs.length) hsi)
      have HS : Hid (seenL xs.length (seenB (adjR xs) i) = seenL xs.length (seenB (adjR xs) (i + 1))) := seenL_congr (fun j _ => (seenB_skip hg hsi j).symm)
      clear hsi
      go_wp2
      go_roundw
      case rel => exact ⟨i + 1, V, G, by omega, by go_num, by rw [HG.out]; exact hpg, by rw [HG.out]; exact hne, by rw [← HS.out]; exact hse, hb⟩
      case measure => simp [intOf]; omega
    rw [hsi] at cs
    have hgsl := hse.blk.2.1
    have hgsb := hse.blk.1
    have hG0 : GSt wo w.heap.size w.heap.size xs.length wo.heap.size (seenB (adjR xs) i) u3 (groupsL xs.length (adjR xs) i) V G (.slice none 0 0) [] (.slice none 0 0) [] :=
      ⟨hpg, fun b hb => ⟨(hpg.lt hb).2, hne b hb⟩, hse, hgsl, Own.nil _ _ _ _, Own.nil _ _ _ _, fun b hb => by cases hb⟩
    have hG1 := ((hG0.mark i).below ((Below.refl _ _).alloc (Nat.le_refl _) (.cells #[.int .i64 i] 2))).congr (f' := fun j => seenB (adjR xs) i j || memN j [i]) (fun j _ => by rw [memN_one])
    have hszS : (wo.setCell ⟨w.heap.size, i, none⟩ (.bool true)).heap.size = wo.heap.size := World.size_setCell _ _ _
    have hq1 : Own fInt ((wo.setCell ⟨w.heap.size, i, none⟩ (.bool true)).alloc (.cells #[.int .i64 i] 2)) wo.heap.size 2 (.slice (some ⟨wo.heap.size, 0, none⟩) 1 1) (ints [i]) := by
      have h := World.ownsRow_lit (e := 2) (size := 1) (base := wo.heap.size) (wo.setCell ⟨w.heap.size, i, none⟩ (.bool true)) #[.int .i64 i] 1 (by rw [hszS]; exact Nat.le_refl _) (by decide) rfl
      rw [hszS] at h
      exact h
    have hG2 : GSt _ w.heap.size w.heap.size xs.length wo.heap.size (fun j => seenB (adjR xs) i j || memN j [i]) u3 (groupsL xs.length (adjR xs) i) V G (.slice (some ⟨wo.heap.size, 0, none⟩) 1 1) [i] (.slice none 0 0) [] :=
      ⟨hG1.out, hG1.low, hG1.seen, hG1.gsl, hq1, Own.nil _ _ _ _, fun b hb => by cases hb⟩
    have hb2 : Below w.heap.size w ((wo.setCell ⟨w.heap.size, i, none⟩ (.bool true)).alloc (.cells #[.int .i64 i] 2)) := by
      have h1 : Below w.heap.size w (wo.setCell ⟨w.heap.size, i, none⟩ (.bool true)) := hb.setCell (p := ⟨w.heap.size, i, none⟩) hgsb _
      exact h1.alloc h1.size _
    have hbs := hb.size
    have hbz : wo.heap.size ≤ ((wo.setCell ⟨w.heap.size, i, none⟩ (.bool true)).alloc (.cells #[.int .i64 i] 2)).heap.size := by simp
    replace hsi := Lib.hid hsi
    clear hG0 hG1 hq1 hszS hpg hne hse hb
    obtain ⟨A5, c5, rfl⟩ := hG2.out.form
    go_wp2
    generalize hBq : wo.heap.size = Bq at *
    clear hBq
    go_loopw [6, 7] (fun vq c wr => ∃ (q : List Nat) (at_ : Nat), Queue (adjR xs) xs.length i q at_ ∧ at_ ≤ q.length ∧ c = .int .i64 at_ ∧ GSt wr w.heap.size w.heap.size xs.length Bq (fun j => seenB (adjR xs) i j || memN j q) (.slice A5 (groupsL xs.length (adjR xs) i).length c5) (groupsL xs.length (adjR xs) i) V G vq q (.slice none 0 0) [] ∧ Below w.heap.size w wr ∧ Bq ≤ wr.heap.size) (fun _ c _ => xs.length + 1 - (intOf c).toNat)
    case atStart => exact ⟨[i], 0, Queue.start hlt, Nat.zero_le _, rfl, hG2, hb2, hbz⟩
    case round => as_aux_lemma =>
      clear hG2 hb2 hbz cs zs
      obtain ⟨q, at_, hq, hat, rfl, hG, hb, hBw⟩ := hrel
      have hqn := hq.len
      have hq0 : 0 < q.length := List.length_pos_of_mem hq.first
      obtain ⟨gq, cq, rfl⟩ := hG.qo.addr (by rw [ints_len]; exact hq0)
      rw [ints_len] at hG ⊢
      by_cases hql : at_ < q.length
      rotate_left
      · -- the group is whole: it is sorted in its place
        obtain rfl : at_ = q.length := by omega
        have hqown : Own fInt wr Bq 2 (.slice (some ⟨gq, 0, none⟩) (ints q).length cq) (ints q) := by have h := hG.qo; rw [← ints_len q] at h; exact h
        have hq12 : (ints q).length ≤ 12 := by rw [ints_len]; omega
        have HLQ := Lib.hid (ints_len q)
        rw [← HLQ.out]
        go_wp2_with fail
        refine (sortI_any gq cq Bq (ints q) _ hqown hq12).mono ?_
        rintro e w6 ⟨rfl, Ls, hsrt, hperm, hord, honly⟩
        obtain ⟨s, rfl, hss, hsl, hsm⟩ := ints_perm hperm hord hq.nd
        rw [HLQ.out] at hsrt ⊢
        replace hG := hG.inplace honly hsrt
        replace hb : Below w.heap.size w w6 := hb.trans (honly.below hb.size (by intro b hb'; rw [List.mem_singleton] at hb'; rw [hb']; have := (own_at hG.qo (g := gq) rfl).1; have := hbs; omega))
        have hsB : Bq ≤ w6.heap.size := Nat.le_trans hBw honly.size
        clear hqown hq12 HLQ hsrt hperm hord honly hBw
        generalize hwr : w6 = wr6 at *
        clear hwr
        have hGG : GSt wr6 w.heap.size w.heap.size xs.length Bq (fun j => seenB (adjR xs) i j || memN j q) (.slice A5 (groupsL xs.length (adjR xs) i).length c5) (groupsL xs.length (adjR xs) i) V G (.slice none 0 0) [] (.slice (some ⟨gq, 0, none⟩) s.length cq) s :=
          ⟨hG.out, hG.low, hG.seen, hG.gsl, Own.nil _ _ _ _, by rw [hsl]; exact hG.qo, fun b _ e => by cases e⟩
        have HSM : Hid (s.Pairwise (· < ·) ∧ ∀ x, x ∈ s ↔ x ∈ q.take q.length) := ⟨hss, fun x => by rw [List.take_length]; exact hsm x⟩
        rw [← hsl]
        clear hG
        have hG := hGG
        clear hGG hss hsm hsl
        have hcomp : s = compL xs.length (adjR xs) i := comp_of_queue hq (Nat.le_refl _) HSM.out.1 (fun x => by rw [HSM.out.2, List.take_length])
        have hs0 : 0 < s.length := List.length_pos_of_mem ((HSM.out.2 i).2 (by rw [List.take_length]; exact hq.first))
        have HG : Hid (groupsL xs.length (adjR xs) (i + 1) = (groupsL xs.length (adjR xs) i) ++ [s]) := by show _ = _; rw [groupsL_new hsi.out, hcomp]
        have HSE : Hid (seenL xs.length (fun j => seenB (adjR xs) i j || memN j q) = seenL xs.length (seenB (adjR xs) (i + 1))) := seenL_congr (fun j _ => seen_after hq (Nat.le_refl _) j)
        have hgn := groupsL_len (n := xs.length) (adj := adjR xs) (k := i)
        have hLi : ((ints s).length : Nat) = s.length := ints_len s
        clear hcomp HSM hLi
        have hgqB := (own_at hG.go (g := gq) rfl)
        have hbs2 := hb.size
        have hpA : PgW (wr6.alloc (.cells #[.slice (some ⟨gq, 0, none⟩) s.length cq] 46)) w.heap.size (.slice A5 (groupsL xs.length (adjR xs) i).length c5) (groupsL xs.length (adjR xs) i).length V (fun j => ints ((groupsL xs.length (adjR xs) i).getD j [])) G := hG.out.below ((Below.refl _ _).alloc (Nat.le_refl _) _)
        have hyA : Own fInt (wr6.alloc (.cells #[.slice (some ⟨gq, 0, none⟩) s.length cq] 46)) w.heap.size 2 (.slice (some ⟨gq, 0, none⟩) s.length cq) (ints s) := ownM_ (hG.go.below ((Below.refl _ _).alloc (Nat.le_refl _) _)) hbs
        have hbA : Below w.heap.size w (wr6.alloc (.cells #[.slice (some ⟨gq, 0, none⟩) s.length cq] 46)) := hb.alloc hbs2 _
        have hseA : Own fBool (wr6.alloc (.cells #[.slice (some ⟨gq, 0, none⟩) s.length cq] 46)) w.heap.size 4 (.slice (some ⟨w.heap.size, 0, none⟩) xs.length xs.length) (seenL xs.length (fun j => seenB (adjR xs) i j || memN j q)) := hG.seen.below ((Below.refl _ _).alloc (Nat.le_refl _) _)
        have hGy : ∀ j, j < (groupsL xs.length (adjR xs) i).length → G j ≠ gq := fun j hj e => by have := (hG.low _ (.inr ⟨j, hj, rfl⟩)).1; omega
        have hvy : ((.slice A5 (groupsL xs.length (adjR xs) i).length c5) : Value).ownBlock ≠ some gq := fun e => by have := (hG.low _ (.inl e)).1; omega
        have hnw : ∀ (j : Nat) (u : Value), [(.slice (some ⟨gq, 0, none⟩) s.length cq : Value)][j]? = some u → (wr6.alloc (.cells #[.slice (some ⟨gq, 0, none⟩) s.length cq] 46)).cell? ((⟨wr6.heap.size, 0, none⟩ : Addr).add j) = some u := fun j u hj => by
          match j, hj with
          | 0, hj => injection hj with hj; subst hj; simp [Addr.add]
          | j + 1, hj => simp at hj
        obtain ⟨LV, hLV⟩ : ∃ LV : List Value, LV = (List.range ((groupsL xs.length (adjR xs) i).length)).map V := ⟨_, rfl⟩
        have hown0 := hpA.own
        rw [← hLV] at hown0
        have HLV := Lib.hid hLV
        have hgsl2 := hG.gslt
        have hlow := hG.low
        have hgsB := hG.gsl
        clear hLV hG
        generalize (groupsL xs.length (adjR xs) i) = L at *
        go_wp2_with (at_builtin; refine wpList_append_lies _ rfl _ _ 58 rfl w.heap.size 46 i0 (.slice none 0 0) 1 24 Tryz.underlying58 hi hz0 hz1 hz2 rfl (by decide) (.slice A5 L.length c5) L.length _ rfl hown0 _ 1 1 [.slice (some ⟨gq, 0, none⟩) s.length cq] rfl rfl hnw (by intro u hu; rw [List.mem_singleton] at hu; subst hu; rfl) (by decide) (by unfold maxLen; omega) (by omega) (by simp; omega) (wr6.heap.size + 1) (by simp) ?_)
        intro g5 c6 w5 hown5 hgr5 hat5 hlt5
        rw [HLV.out] at hown5
        clear hown0 HLV hnw
        have hl5 : (Value.slice (some ⟨g5, 0, none⟩) (L.length + 1) c6).ownBlock = (.slice A5 L.length c5 : Value).ownBlock ∨ (Value.slice (some ⟨g5, 0, none⟩) (L.length + 1) c6).ownBlock = some ((wr6.alloc (.cells #[.slice (some ⟨gq, 0, none⟩) s.length cq] 46))).heap.size := by
          rcases hat5 with e | e
          · exact .inl e.symm
          · refine .inr ?_
            show some g5 = _
            rw [e]; simp
        have hp2 := hpA.push hyA rfl hGy hvy hown5 hgr5 hl5
        have hb5 : Below w.heap.size w w5 := hbA.grown hgr5 (by simp; omega) (fun k hk => (hpA.lt (.inl hk)).1)
        have hse5 : Own fBool w5 w.heap.size 4 (.slice (some ⟨w.heap.size, 0, none⟩) xs.length xs.length) (seenL xs.length (fun j => seenB (adjR xs) i j || memN j q)) := own_stays hseA (fun b hb hbl => hgr5.block b hbl (fun e => by
          have e2 : w.heap.size = b := by injection hb
          exact (hlow b (.inl e.symm)).2 e2.symm))
        rw [HSE.out] at hse5
        have hlL : (L ++ [s]).length = L.length + 1 := by rw [List.length_append]; rfl
        have hp3 := hp2.congr (fun i hi => getD_snoc (L := L) (c := s) hi)
        have hne5 : ∀ b, inPg (.slice (some ⟨g5, 0, none⟩) (L.length + 1) c6) (L.length + 1) (fun i => if i = L.length then gq else G i) b → b ≠ w.heap.size := fun b hb => by
          rcases hb with hb | ⟨j, hj, hb⟩
          · have hb : g5 = b := by injection hb
            subst hb
            rcases hat5 with e | e
            · exact (hlow _ (.inl e)).2
            · omega
          · replace hb : (if j = L.length then gq else G j) = b := hb
            by_cases e : j = L.length
            · rw [if_pos e] at hb; omega
            · rw [if_neg e] at hb; exact (hlow b (.inr ⟨j, by omega, hb⟩)).2
        rw [← hlL] at hp3 hne5 ⊢
        clear hown5 hgr5 hat5 hlt5 hl5 hp2 hlL hGy hvy hbA hyA hpA hlow
        go_wp2
        go_roundw
        case rel => exact ⟨i + 1, _, _, by omega, by go_num, by rw [HG.out]; exact hp3, by rw [HG.out]; exact hne5, hse5, hb5⟩
        case measure => simp [intOf]; omega
      have hqli : (at_ : Int) < (q.length : Int) := by omega
      have ccq := hG.cellQ hql
      obtain ⟨x0, hx0⟩ : ∃ x0, q[at_] = x0 := ⟨_, rfl⟩
      rw [hx0] at ccq
      have hx0n : x0 < xs.length := by rw [← hx0]; exact hq.lt _ (List.getElem_mem hql)
      have hrx : Rch (adjR xs) i x0 := by rw [← hx0]; exact hq.rch _ (List.getElem_mem hql)
      have HQX0 : Hid (q[at_]? = some x0) := by show _ = _; rw [List.getElem?_eq_getElem hql, hx0]
      clear hx0
      obtain ⟨b, off, vk, fk, rfl, r0, r1, r2, hnear, hbfp, hfks, _, _⟩ := (hx.below' hb).reg hx0n
      obtain ⟨An, cn, rfl, hnl, _⟩ := hnear.form
      have hfkl : ∀ c ∈ fk, c < w.heap.size := fun c hc => hx.lt c (hfks c hc)
      have hBR : Below wr.heap.size wr (wr.alloc (.cells #[.string xs[x0].id, .int .i64 xs[x0].level, .slice An xs[x0].near.length cn] 63)) := (Below.refl _ _).alloc (Nat.le_refl _) _
      have hGR := hG.below hBR
      have hbR := hb.trans (hBR.mono hb.size)
      have hBwR : Bq ≤ (wr.alloc (.cells #[.string xs[x0].id, .int .i64 xs[x0].level, .slice An xs[x0].near.length cn] 63)).heap.size := Nat.le_trans hBw hBR.size
      have hnearR := hnear.below' hBR
      have hrb : (wr.alloc (.cells #[.string xs[x0].id, .int .i64 xs[x0].level, .slice An xs[x0].near.length cn] 63)).cell? ⟨wr.heap.size, 1, none⟩ = some (.int .i64 xs[x0].level) := by simp
      have hrl : wr.heap.size < (wr.alloc (.cells #[.string xs[x0].id, .int .i64 xs[x0].level, .slice An xs[x0].near.length cn] 63)).heap.size := by simp
      have hrq : ∀ b, (.slice (some ⟨gq, 0, none⟩) q.length cq : Value).ownBlock = some b → b ≠ wr.heap.size := fun b hb => by have := (own_at hG.qo hb).2; omega
      have hgsr : w.heap.size < wr.heap.size := hG.gslt.2
      clear hG hb hBR hnear hBw
      go_wp2
      generalize hR : wr.heap.size = bR at *
      rename World => w8
      go_loopw [6, 45] (fun vq c wr => ∃ (q2 : List Nat) (m : Nat), m ≤ xs[x0].near.length ∧ c = .int .i64 m ∧ Queue (adjR xs) xs.length i q2 at_ ∧ at_ < q2.length ∧ Hid (q2[at_]? = some x0) ∧ Hid (∀ y (hy : y < xs.length), adjR xs x0 y = true → xs[y].id ∈ xs[x0].near.take m → y ∈ q2) ∧ GSt wr w.heap.size w.heap.size xs.length Bq (fun j => seenB (adjR xs) i j || memN j q2) (.slice A5 (groupsL xs.length (adjR xs) i).length c5) (groupsL xs.length (adjR xs) i) V G vq q2 (.slice none 0 0) [] ∧ wr.cell? ⟨bR, 1, none⟩ = some (.int .i64 xs[x0].level) ∧ (∀ b, vq.ownBlock = some b → b ≠ bR) ∧ bR < wr.heap.size ∧ Sl fStr.cod wr (.slice An xs[x0].near.length cn) xs[x0].near fk ∧ Below w.heap.size w wr ∧ Bq ≤ wr.heap.size) (fun _ c _ => xs[x0].near.length - (intOf c).toNat)
      case atStart => exact ⟨q, 0, Nat.zero_le _, rfl, hq, hql, HQX0, (fun y hy _ h => by simp at h), hGR, hrb, hrq, hrl, hnearR, hbR, hBwR⟩
      case round => as_aux_lemma =>
        clear hGR hrb hrq hrl hnearR hbR hBwR r0 r1 r2 ccq HQX0
        obtain ⟨q2, m, hm, rfl, hq2, hat2, HQX, HAL, hG, hrb, hrq, hrl, hnear, hb, hBw⟩ := hrel
        have hqn2 := hq2.len
        by_cases hltm : m < xs[x0].near.length
        rotate_left
        · have hm2 : ¬ (m : Int) < (xs[x0].near.length : Int) := by omega
          have hqx : q2[at_] = x0 := by have := HQX.out; rw [List.getElem?_eq_getElem hat2] at this; exact Option.some.inj this
          have hqN := hq2.next hat2 (fun y hy => by
            rw [hqx] at hy
            have hyl := (hg.lt _ _ hy).2
            refine HAL.out y hyl hy ?_
            rw [List.take_of_length_le (by omega)]
            rw [adjR_at hx0n hyl, Bool.and_eq_true] at hy
            exact memS_true.1 hy.2)
          clear hqx HAL HQX hq2
          go_wp2
          go_roundw
          case rel => exact ⟨q2, at_ + 1, hqN, by omega, by go_num, hG, hb, hBw⟩
          case measure => simp [intOf]; omega
        have hltm' : (m : Int) < (xs[x0].near.length : Int) := by omega
        obtain ⟨b1, off1, rfl, _, _, n0, _⟩ := hnear.cell1 rfl hltm rfl
        replace n0 : wr.cell? ⟨b1, off1 + m, none⟩ = some (.string xs[x0].near[m]) := by simpa using n0
        go_wp2_with fail
        refine (regionAt_any _ xs fp xs[x0].near[m] _ (hx.below' hb)).mono ?_
        rintro e w7 ⟨r, rfl, hfr, hb7⟩
        obtain ⟨k, hk, rfl, hid⟩ := find_near HV.out hx0n (List.getElem_mem hltm) hfr
        have hG7 := hG.below hb7
        have hrb7 : w7.cell? ⟨bR, 1, none⟩ = some (.int .i64 xs[x0].level) := (hb7.cell (p := ⟨bR, 1, none⟩) hrl).trans hrb
        have hrl7 : bR < w7.heap.size := Nat.lt_of_lt_of_le hrl hb7.size
        have hnear7 := hnear.below' hb7
        have hB7 := hb.trans (hb7.mono hb.size)
        have hBw7 : Bq ≤ w7.heap.size := Nat.le_trans hBw hb7.size
        clear hG hrb hrl hnear hb hBw hb7 hfr n0
        have hki : (k : Int) < (xs.length : Int) := by omega
        obtain ⟨b', off', vk', fk', hA, _, r1, _⟩ := (hx.below' hB7).reg hk
        injection hA with hA
        injection hA with hA1 hA2 _
        subst hA1 hA2
        obtain ⟨gq2, cq2, rfl⟩ := hG7.qo.addr (by rw [ints_len]; omega)
        rw [ints_len] at hG7 hrq ⊢
        have s0 := hG7.cellS hk
        have HADJ : Hid (adjR xs x0 k = decide (xs[k].level = xs[x0].level)) := by
          show _ = _
          rw [adjR_at hx0n hk, hid, memS_true.2 (List.getElem_mem hltm), Bool.and_true]
          rw [Bool.eq_iff_iff]; simp [eq_comm]
        have HNX : Hid (seenB (adjR xs) i k = true → adjR xs x0 k = true → False) := fun h1 h2 => by
          have hqx : q2[at_] = x0 := by have := HQX.out; rw [List.getElem?_eq_getElem hat2] at this; exact Option.some.inj this
          have := hq2.fresh hg hsi.out hat2 (by rw [hqx]; exact h2)
          rw [this] at h1; cases h1
        have HTK : Hid (∀ y (hy : y < xs.length), xs[y].id ∈ xs[x0].near.take (m + 1) → xs[y].id ∈ xs[x0].near.take m ∨ y = k) := fun y hy h => by
          rw [List.take_succ_eq_append_getElem hltm, List.mem_append, List.mem_singleton] at h
          rcases h with h | h
          · exact .inl h
          · exact .inr (regs_id HV.out hy hk (h.trans hid.symm))
        have hxl : xs.length ≤ 8 := hn8
        clear hid
        generalize hlk' : xs[k].level = lk at *
        clear hlk'
        cases hf : (seenB (adjR xs) i k || memN k q2)
        rotate_left
        · rw [hf] at s0
          have HAL2 : Hid (∀ y (hy : y < xs.length), adjR xs x0 y = true → xs[y].id ∈ xs[x0].near.take (m + 1) → y ∈ q2) := fun y hy ha h => by
            rcases HTK.out y hy h with h | rfl
            · exact HAL.out y hy ha h
            · rcases Bool.or_eq_true _ _ ▸ hf with h | h
              · exact (HNX.out h ha).elim
              · exact memN_true.1 h
          clear hf HADJ HNX HAL HTK
          go_wp2
          have gs0 := cell_regrown s0
          refine wp_region_mix (C := fun w' => ∃ p : Regrown, w' = Go.Sort.grow (redrawn w7 p.d) p.os) [true, true, true, true, true, true, true, true, true, true, true, true, true, true, true] (by kernel_rfl) (by kernel_rfl) (by kernel_rfl) (fun _ _ d _ _ h => by cases d <;> exact h) (regrown_of_below (Below.drew (Below.refl _ _))) ?_
          have hS0 : Below (w7.heap.size) w7 w7.drew := Below.drew (Below.refl _ _)
          refine wpMix_pure (by kernel_rfl) (fun K hK => ?_); go_big_quiet_op; refine hK _ ?_; clear hK K
          refine wpMix_pure (by kernel_rfl) (fun K hK => ?_); go_big_quiet_op; refine hK _ ?_; clear hK K
          refine wpMix_pure (by kernel_rfl) (fun K hK => ?_); go_big_quiet_op; refine hK _ ?_; clear hK K
          refine wpMix_pure (by kernel_rfl) (fun K hK => ?_); go_big_quiet_op; refine hK _ ?_; clear hK K
          refine wpMix_pure (by kernel_rfl) (fun K hK => ?_); go_big_quiet_op; refine hK _ ?_; clear hK K
          refine wpMix_pure (by kernel_rfl) (fun K hK => ?_); go_big_quiet_op; refine hK _ ?_; clear hK K
          refine wpMix_skip (by kernel_rfl) (fun K hK => ?_)
          simp only [Act.put, List.setIfInBounds_toArray, List.set_cons_zero, List.set_cons_succ]
          refine hK _ ?_; clear hK K
          refine wpMix_skip (by kernel_rfl) (fun K hK => ?_)
          simp only [Act.put, List.setIfInBounds_toArray, List.set_cons_zero, List.set_cons_succ]
          refine hK _ ?_; clear hK K
          refine wpMix_skip (by kernel_rfl) (fun K hK => ?_)
          simp only [Act.put, List.setIfInBounds_toArray, List.set_cons_zero, List.set_cons_succ]
          refine hK _ ?_; clear hK K
          refine wpMix_skip (by kernel_rfl) (fun K hK => ?_)
          simp only [Act.put, List.setIfInBounds_toArray, List.set_cons_zero, List.set_cons_succ]
          refine hK _ ?_; clear hK K
          refine wpMix_skip (by kernel_rfl) (fun K hK => ?_)
          simp only [Act.put, List.setIfInBounds_toArray, List.set_cons_zero, List.set_cons_succ]
          refine hK _ ?_; clear hK K
          refine wpMix_skip (by kernel_rfl) (fun K hK => ?_)
          simp only [Act.put, List.setIfInBounds_toArray, List.set_cons_zero, List.set_cons_succ]
          refine hK _ ?_; clear hK K
          refine wpMix_skip (by kernel_rfl) (fun K hK => ?_)
          simp only [Act.put, List.setIfInBounds_toArray, List.set_cons_zero, List.set_cons_succ]
          refine hK _ ?_; clear hK K
          refine wpMix_skip (by kernel_rfl) (fun K hK => ?_)
          simp only [Act.put, List.setIfInBounds_toArray, List.set_cons_zero, List.set_cons_succ]
          refine hK _ ?_; clear hK K
          refine wpMix_pure (by kernel_rfl) (fun K hK => ?_); go_big_quiet_op; refine hK _ ?_; clear hK K
          refine wpMix_nil ?_
          have hS9 : Below w7.heap.size w7 w7.drew := hS0
          have hG9 := hG7.below hS9
          have hb9 := hB7.trans (hS9.mono hB7.size)
          have hBw9 : Bq ≤ w7.drew.heap.size := Nat.le_trans hBw7 hS9.size
          have hrb9 : w7.drew.cell? ⟨bR, 1, none⟩ = some (.int .i64 xs[x0].level) := (hS9.cell (p := ⟨bR, 1, none⟩) hrl7).trans hrb7
          have hrl9 : bR < w7.drew.heap.size := Nat.lt_of_lt_of_le hrl7 hS9.size
          have hnear9 := hnear7.below' hS9
          go_wp2
          go_roundw
          case rel => exact ⟨q2, m + 1, by omega, by go_num, hq2, hat2, HQX, HAL2, hG9, hrb9, hrq, hrl9, hnear9, hb9, hBw9⟩
          case measure => simp [intOf]; omega
        · rw [hf] at s0
          replace hf := Lib.hid hf
          go_wp2
          have gs0 := cell_regrown s0
          have gr1 := cell_regrown r1
          have ghrb7 := cell_regrown hrb7
          refine wp_region_mix (C := fun w' => ∃ p : Regrown, w' = Go.Sort.grow (redrawn w7 p.d) p.os) [true, true, true, true, true, true, true, true, true, true, true, true, true, true, true] (by kernel_rfl) (by kernel_rfl) (by kernel_rfl) (fun _ _ d _ _ h => by cases d <;> exact h) (regrown_of_below (Below.drew (Below.refl _ _))) ?_
          have hS0 : Below (w7.heap.size) w7 w7.drew := Below.drew (Below.refl _ _)
          refine wpMix_pure (by kernel_rfl) (fun K hK => ?_); go_big_quiet_op; refine hK _ ?_; clear hK K
          refine wpMix_pure (by kernel_rfl) (fun K hK => ?_); go_big_quiet_op; refine hK _ ?_; clear hK K
          refine wpMix_pure (by kernel_rfl) (fun K hK => ?_); go_big_quiet_op; refine hK _ ?_; clear hK K
          refine wpMix_pure (by kernel_rfl) (fun K hK => ?_); go_big_quiet_op; refine hK _ ?_; clear hK K
          refine wpMix_pure (by kernel_rfl) (fun K hK => ?_); go_big_quiet_op; refine hK _ ?_; clear hK K
          refine wpMix_pure (by kernel_rfl) (fun K hK => ?_); go_big_quiet_op; refine hK _ ?_; clear hK K
          refine wpMix_pure (by kernel_rfl) (fun K hK => ?_); go_big_quiet_op; refine hK _ ?_; clear hK K
          refine wpMix_pure (by kernel_rfl) (fun K hK => ?_); go_big_quiet_op; refine hK _ ?_; clear hK K
          refine wpMix_pure (by kernel_rfl) (fun K hK => ?_); go_big_quiet_op; refine hK _ ?_; clear hK K
          refine wpMix_pure (by kernel_rfl) (fun K hK => ?_); go_big_quiet_op; refine hK _ ?_; clear hK K
          refine wpMix_pure (by kernel_rfl) (fun K hK => ?_); go_big_quiet_op; refine hK _ ?_; clear hK K
          refine wpMix_pure (by kernel_rfl) (fun K hK => ?_); go_big_quiet_op; refine hK _ ?_; clear hK K
          refine wpMix_pure (by kernel_rfl) (fun K hK => ?_); go_big_quiet_op; refine hK _ ?_; clear hK K
          by_cases hq13 : lk = xs[x0].level
          · skip
            have e13 : (lk == xs[x0].level) = true := by rw [beq_iff_eq]; exact hq13
            replace hq13 := Lib.hid hq13
            refine wpMix_pure (by kernel_rfl) (fun K hK => ?_); go_big_quiet_op; refine hK _ ?_; clear hK K
            refine wpMix_pure (by kernel_rfl) (fun K hK => ?_); go_big_quiet_op; refine hK _ ?_; clear hK K
            refine wpMix_nil ?_
            have hS9 : Below w7.heap.size w7 w7.drew := hS0
            have hG9 := hG7.below hS9
            have hb9 := hB7.trans (hS9.mono hB7.size)
            have hBw9 : Bq ≤ w7.drew.heap.size := Nat.le_trans hBw7 hS9.size
            have hrb9 : w7.drew.cell? ⟨bR, 1, none⟩ = some (.int .i64 xs[x0].level) := (hS9.cell (p := ⟨bR, 1, none⟩) hrl7).trans hrb7
            have hrl9 : bR < w7.drew.heap.size := Nat.lt_of_lt_of_le hrl7 hS9.size
            have hnear9 := hnear7.below' hS9
            have hadj : adjR xs x0 k = true := by rw [HADJ.out, decide_eq_true hq13.out]
            have hqx : q2[at_] = x0 := by have := HQX.out; rw [List.getElem?_eq_getElem hat2] at this; exact Option.some.inj this
            have hni : k ∉ q2 := fun h => by
              have h1 := hf.out
              rw [Bool.or_eq_false_iff] at h1
              have h2 := memN_true.2 h
              rw [h1.2] at h2; cases h2
            have HQ3 := Lib.hid (hq2.add hg hat2 (by rw [hqx]; exact hadj) hni)
            have HAL2 : Hid (∀ y (hy : y < xs.length), adjR xs x0 y = true → xs[y].id ∈ xs[x0].near.take (m + 1) → y ∈ q2 ++ [k]) := fun y hy ha h => by
              rcases HTK.out y hy h with h | rfl
              · exact List.mem_append_left _ (HAL.out y hy ha h)
              · exact List.mem_append_right _ (List.mem_singleton.2 rfl)
            have HQX2 : Hid ((q2 ++ [k])[at_]? = some x0) := by show _ = _; rw [List.getElem?_append_left hat2]; exact HQX.out
            clear hadj hqx hni HADJ HNX HAL HTK HQX hf hq13 hG7 hS9 hS0 gs0 gr1 ghrb7 s0 r1 hrb7 hnear7
            generalize w7.drew = V9 at *
            have s9 := hG9.cellS hk
            have z9 := hG9.frozenS k
            have hGa := (hG9.mark k).below ((Below.refl _ _).alloc (Nat.le_refl _) (.cells #[.int .i64 k] 2))
            have hgsl9 := hG9.gslt
            have hbA : Below w.heap.size w ((V9.setCell ⟨w.heap.size, k, none⟩ (.bool true)).alloc (.cells #[.int .i64 k] 2)) := by
              have h1 : Below w.heap.size w (V9.setCell ⟨w.heap.size, k, none⟩ (.bool true)) := hb9.setCell (p := ⟨w.heap.size, k, none⟩) hgsl9.1 _
              exact h1.alloc h1.size _
            have hszW : (((V9.setCell ⟨w.heap.size, k, none⟩ (.bool true)).alloc (.cells #[.int .i64 k] 2))).heap.size = V9.heap.size + 1 := by simp
            have hown0 : (((V9.setCell ⟨w.heap.size, k, none⟩ (.bool true)).alloc (.cells #[.int .i64 k] 2))).ownsRow Bq 2 1 (.slice (some ⟨gq2, 0, none⟩) q2.length cq2) q2.length ((ints q2).flatMap fInt.enc) := by
              have h : (((V9.setCell ⟨w.heap.size, k, none⟩ (.bool true)).alloc (.cells #[.int .i64 k] 2))).ownsRow Bq 2 1 (.slice (some ⟨gq2, 0, none⟩) q2.length cq2) (ints q2).length ((ints q2).flatMap fInt.enc) := hGa.qo
              rw [ints_len] at h; exact h
            have hnw : ∀ (j : Nat) (u : Value), [(.int .i64 k : Value)][j]? = some u → (((V9.setCell ⟨w.heap.size, k, none⟩ (.bool true)).alloc (.cells #[.int .i64 k] 2))).cell? ((⟨V9.heap.size, 0, none⟩ : Addr).add j) = some u := fun j u hj => by
              have e0 : ((⟨V9.heap.size, 0, none⟩ : Addr).add 0) = ⟨(V9.setCell ⟨w.heap.size, k, none⟩ (.bool true)).heap.size, 0, none⟩ := by simp [Addr.add]
              match j, hj with
              | 0, hj => injection hj with hj; subst hj; rw [e0]; exact (World.cell?_alloc_at _ _ _ _ rfl).trans rfl
              | j + 1, hj => simp at hj
            obtain ⟨LV, hLV⟩ : ∃ LV : List Value, LV = (ints q2).flatMap fInt.enc := ⟨_, rfl⟩
            rw [← hLV] at hown0
            have HLV := Lib.hid hLV
            clear hLV
            go_wp2_with (at_builtin; refine wpList_append_lies _ rfl _ _ 46 rfl Bq 2 j0 (.int .i64 0) 1 8 Tryz.underlying46 hj hy0 hy1 hy2 rfl (by decide) (.slice (some ⟨gq2, 0, none⟩) q2.length cq2) q2.length _ rfl hown0 _ 1 1 [.int .i64 k] rfl rfl hnw (by intro u hu; rw [List.mem_singleton] at hu; subst hu; rfl) (by decide) (by unfold maxLen; omega) (by omega) (by simp; omega) (V9.heap.size + 1) (by simp) ?_)
            intro g5 c6 w5 hown5 hgr5 hat5 hlt5
            rw [HLV.out] at hown5
            have hw5 : Own fInt w5 Bq 2 (.slice (some ⟨g5, 0, none⟩) (q2.length + 1) c6) (ints (q2 ++ [k])) := by rw [ints_snoc]; exact Own.push _ (by rw [ints_len]) hown5
            have hG5 := (hGa.add hw5 hgr5 (by
              rcases hat5 with e | e
              · exact .inl e.symm
              · exact .inr ⟨g5, rfl, by rw [hszW, e]; exact Nat.le_refl _⟩)).congr (f' := fun j => seenB (adjR xs) i j || memN j (q2 ++ [k])) (fun j _ => by rw [memN_snoc, Bool.or_assoc])
            have hb5 : Below w.heap.size w w5 := hbA.grown hgr5 (by have := hb9.size; simp; omega) (fun b hb => by have := (own_at hGa.qo hb).1; have := hbs; omega)
            have hb5' : Below w.heap.size V9 w5 := (((Below.refl w.heap.size V9).setCell (p := ⟨w.heap.size, k, none⟩) hgsl9.1 _).alloc (by rw [World.size_setCell]; exact hb9.size) _).grown hgr5 (by have := hb9.size; simp; omega) (fun b hb => by have := (own_at hGa.qo hb).1; have := hbs; omega)
            have hBw5 : Bq ≤ w5.heap.size := by have := hgr5.size; rw [hszW] at this; omega
            have hl2 : at_ < (q2 ++ [k]).length := by rw [List.length_append]; omega
            have hrb5 : w5.cell? ⟨bR, 1, none⟩ = some (.int .i64 xs[x0].level) := by
              have h1 : ((V9.setCell ⟨w.heap.size, k, none⟩ (.bool true)).alloc (.cells #[.int .i64 k] 2)).cell? ⟨bR, 1, none⟩ = some (.int .i64 xs[x0].level) := by
                have h2 : (V9.setCell ⟨w.heap.size, k, none⟩ (.bool true)).cell? ⟨bR, 1, none⟩ = some (.int .i64 xs[x0].level) := (World.cell?_setCell_far V9 ⟨w.heap.size, k, none⟩ ⟨bR, 1, none⟩ _ (show w.heap.size ≠ bR by omega)).trans hrb9
                exact (Below.cell (B := V9.heap.size) ((Below.refl _ _).alloc (by rw [World.size_setCell]; exact Nat.le_refl _) _) (p := ⟨bR, 1, none⟩) hrl9).trans h2
              exact (hgr5.cell_far ⟨bR, 1, none⟩ (by rw [hszW]; show bR < _; omega) (fun e => hrq gq2 rfl (by injection e with e; exact e.symm))).trans h1
            have hrq5 : ∀ b, (Value.slice (some ⟨g5, 0, none⟩) (q2.length + 1) c6).ownBlock = some b → b ≠ bR := fun b hb => by
              have hb : g5 = b := by injection hb
              rcases hat5 with e | e
              · exact hb ▸ hrq _ e
              · omega
            have hrl5 : bR < w5.heap.size := by have := hgr5.size; rw [hszW] at this; omega
            have hnear5 := hnear9.below hb5' hfkl
            clear hown0 HLV hnw hown5 hgr5 hat5 hlt5 hw5 hGa hG9 hbA hszW s9 z9 hrb9 hrl9 hnear9
            go_wp2
            go_roundw
            case rel => exact ⟨q2 ++ [k], m + 1, by omega, by go_num, HQ3.out, hl2, HQX2, HAL2, hG5, hrb5, hrq5, hrl5, hnear5, hb5, hBw5⟩
            case measure => simp [intOf]; omega
          · skip
            have e13 : (lk == xs[x0].level) = false := by rw [beq_eq_false_iff_ne]; exact hq13
            refine wpMix_pure (by kernel_rfl) (fun K hK => ?_); go_big_quiet_op; refine hK _ ?_; clear hK K
            refine wpMix_pure (by kernel_rfl) (fun K hK => ?_); go_big_quiet_op; refine hK _ ?_; clear hK K
            refine wpMix_nil ?_
            have hS9 : Below w7.heap.size w7 w7.drew := hS0
            have hG9 := hG7.below hS9
            have hb9 := hB7.trans (hS9.mono hB7.size)
            have hBw9 : Bq ≤ w7.drew.heap.size := Nat.le_trans hBw7 hS9.size
            have hrb9 : w7.drew.cell? ⟨bR, 1, none⟩ = some (.int .i64 xs[x0].level) := (hS9.cell (p := ⟨bR, 1, none⟩) hrl7).trans hrb7
            have hrl9 : bR < w7.drew.heap.size := Nat.lt_of_lt_of_le hrl7 hS9.size
            have hnear9 := hnear7.below' hS9
            have HAL2 : Hid (∀ y (hy : y < xs.length), adjR xs x0 y = true → xs[y].id ∈ xs[x0].near.take (m + 1) → y ∈ q2) := fun y hy ha h => by
              rcases HTK.out y hy h with h | rfl
              · exact HAL.out y hy ha h
              · rw [HADJ.out, decide_eq_false hq13] at ha; cases ha
            clear HADJ HNX HAL HTK hf
            go_wp2
            go_roundw
            case rel => exact ⟨q2, m + 1, by omega, by go_num, hq2, hat2, HQX, HAL2, hG9, hrb9, hrq, hrl9, hnear9, hb9, hBw9⟩
            case measure => simp [intOf]; omega

end Go.Proofs.YtgnbhcgagdfaiaaGreatDoor

namespace Go.Proofs.YtgnbhcgagdfaiaaGreatDoor
open Go.RowKit
set_option linter.unusedVariables false
section
variable {w w' u : World} {B n : Nat} {v v' : Value} {V : Nat → Value} {X : Nat → List ByteArray} {G : Nat → Nat}
theorem PgV.growAt {g cap m : Nat} (hm : m < n) {r : List ByteArray} {y : Value} {gy : Nat} (h : PgV w B (.slice (some ⟨g, 0, none⟩) n cap) n V X G) (hy : Own fStr u B 9 y r) (hgy : y.ownBlock = some gy)
    (hg : w.grownBy u (V m).ownBlock) (hl : y.ownBlock = (V m).ownBlock ∨ y.ownBlock = some w.heap.size) :
    PgV (u.setCell ⟨g, m, none⟩ y) B (.slice (some ⟨g, 0, none⟩) n cap) n (fun i => if i = m then y else V i) (fun i => if i = m then r else X i) (fun i => if i = m then gy else G i) := by
  obtain ⟨g', cap', hv, hgB, hgl⟩ := h.addr (by omega)
  injection hv with hv1 _ hv2
  injection hv1 with hv1
  injection hv1 with hv1
  subst hv1 hv2
  have hbn := h.blk m (by omega)
  have hgn : g ≠ G m := fun e => h.ap m (by omega) (by rw [← e]; rfl)
  have hgu : u.heap[g]? = w.heap[g]? := hg.block g hgl (by rw [hbn]; intro e; injection e with e; exact hgn e)
  have hgGi : ∀ i, i < n → g ≠ G i := fun i hi e => h.ap i hi (by rw [← e]; rfl)
  have hgy' : gy = G m ∨ gy = w.heap.size := by
    rcases hl with e | e
    · rw [hgy, hbn] at e; injection e with e; exact .inl e
    · rw [hgy] at e; injection e with e; exact .inr e
  have hne : g ≠ gy := by
    rcases hgy' with e | e
    · rw [e]; exact hgn
    · omega
  have hset : ∀ k, k < u.heap.size → k ≠ g → (u.setCell ⟨g, m, none⟩ y).heap[k]? = u.heap[k]? := fun k hkl hk => ((Only.refl [g] u).set m y).block k hkl (by rw [List.mem_singleton]; exact hk)
  refine ⟨?_, fun i hi => ?_, fun i hi => ?_, fun i j hi hj e => ?_, fun i hi => ?_⟩
  · have hu : u.ownsRow B 24 1 (.slice (some ⟨g, 0, none⟩) n cap) n ((List.range n).map V) := by
      obtain ⟨h1, h2⟩ := h.own
      refine ⟨h1, ?_⟩
      rcases h2 with ⟨hv, _⟩ | ⟨g2, c2, cur, hv, q1, q2, q3⟩
      · cases hv
      · injection hv with e1 _ e2
        injection e1 with e1
        injection e1 with e1
        subst e1 e2
        exact .inr ⟨g, cap, cur, rfl, q1, by rw [hgu]; exact q2, q3⟩
    have h2 := (hu.stored m y).1
    have em : ((List.range n).map V).set m y = (List.range n).map (fun i => if i = m then y else V i) := by
      refine List.ext_getElem (by simp) (fun i h1 h2 => ?_)
      rw [List.getElem_set]
      simp only [List.length_map, List.length_range] at h2
      by_cases e : m = i
      · subst e; simp
      · rw [if_neg e]; simp [Ne.symm e]
    rw [em] at h2
    exact h2
  · by_cases e : i = m
    · rw [if_pos e, if_pos e]
      exact own_stays hy (fun k hk hkl => hset k hkl (fun e2 => by rw [hgy] at hk; injection hk with hk; exact hne (by rw [← e2, ← hk])))
    · rw [if_neg e, if_neg e]
      have hGi : G i ≠ G m := fun e2 => e (h.inj i m (by omega) (by omega) e2)
      have h1 : Own fStr u B 9 (V i) (X i) := own_stays (h.row i (by omega)) (fun k hk hkl => hg.block k hkl (by
        rw [h.blk i (by omega)] at hk; injection hk with hk
        rw [hbn, ← hk]; intro e2; injection e2 with e2; exact hGi e2))
      exact own_stays h1 (fun k hk hkl => hset k hkl (fun e2 => by
        rw [h.blk i (by omega)] at hk; injection hk with hk
        exact hgGi i (by omega) (by rw [← e2, ← hk])))
  · by_cases e : i = m
    · rw [if_pos e, if_pos e]; exact hgy
    · rw [if_neg e, if_neg e]; exact h.blk i (by omega)
  · have hlt : ∀ k, k < n → k ≠ m → G k ≠ gy := fun k hk hkm e => by
      rcases hgy' with e2 | e2
      · exact hkm (h.inj k m hk hm (e.trans e2))
      · have := (h.gl (i := k) hk).2; omega
    by_cases e1 : i = m <;> by_cases e2 : j = m
    · omega
    · rw [if_pos e1, if_neg e2] at e; exact absurd e.symm (hlt j hj e2)
    · rw [if_neg e1, if_pos e2] at e; exact absurd e (hlt i hi e1)
    · rw [if_neg e1, if_neg e2] at e; exact h.inj i j hi hj e
  · show some g ≠ _
    by_cases e : i = m
    · rw [if_pos e]; intro e3; injection e3 with e3; exact hne e3
    · rw [if_neg e]; intro e3; injection e3 with e3; exact hgGi i (by omega) e3
end
end Go.Proofs.YtgnbhcgagdfaiaaGreatDoor

namespace Go.Proofs.YtgnbhcgagdfaiaaGreatDoor
open Go.RowKit
set_option linter.unusedVariables false

theorem Sl.elem2 {α : Type} {E : Cod α} {w : World} {A : Option Addr} {len cap : Nat} {xss : List (List α)} {fp : List Nat} {k : Nat} (h : Sl E.slice w (.slice A len cap) xss fp) (hk : k < xss.length) :
    ∃ b off vk fk, A = some ⟨b, off, none⟩ ∧ w.cell? ⟨b, off + k, none⟩ = some vk ∧ Sl E w vk xss[k] fk ∧ b ∈ fp ∧ ∀ c ∈ fk, c ∈ fp := by
  obtain ⟨b, off, V, F, hA, hb, hfp, hr⟩ := h.rows (by omega)
  have := hr.rd k hk
  simp [List.getD_eq_getElem?_getD, hk] at this
  exact ⟨b, off, V k, F k, hA, hr.cell k hk, this, by rw [hfp]; simp, fun c hc => by rw [hfp]; exact List.mem_cons_of_mem _ (List.mem_flatMap.2 ⟨k, List.mem_range.2 hk, hc⟩)⟩
structure CeC (w : World) (b o : Nat) (v : Value) : Prop where
  c : w.cell? ⟨b, o, none⟩ = some v
theorem CeC.below' {w w' : World} {b o : Nat} {v : Value} (h : CeC w b o v) (hb : Below w.heap.size w w') : CeC w' b o v := ⟨(hb.cell (p := ⟨b, o, none⟩) (block_lt_of_cell h.c)).trans h.c⟩
theorem CeC.lt {w : World} {b o : Nat} {v : Value} (h : CeC w b o v) : b < w.heap.size := block_lt_of_cell h.c
theorem only_of_grown {w u : World} {g : Nat} (h : w.grownBy u (some g)) : Only [g] w u := ⟨h.os, h.tape, h.output, h.size, fun k hk hn => h.block k hk (fun e => hn (by injection e with e; rw [List.mem_singleton]; exact e))⟩
theorem infoStrV : (Tryz.prog.info? 9).map (fun i => (i.zero, i.size, i.bytes)) = some (some (.string ⟨#[]⟩), 1, 16) := by kernel_rfl
noncomputable def rowA (xs : List DRegion) (j : Nat) : List ByteArray := if j = 0 then hdR else [(xs.getD (j - 1) rg0).id, decS (xs.getD (j - 1) rg0).level]
/-- The rows when the groups before t are told, and the first m of group t. -/
noncomputable def toldB (xs : List DRegion) (t m i : Nat) : Bool := decide (grpF (grL xs) i < t) || (decide (grpF (grL xs) i = t) && memN i (((grL xs).getD t []).take m))
noncomputable def rowB (xs : List DRegion) (t m j : Nat) : List ByteArray := if j = 0 then hdR else if toldB xs t m (j - 1) then rowR xs (j - 1) else rowA xs j
theorem rowB_zero {xs : List DRegion} (j : Nat) : rowB xs 0 0 j = rowA xs j := by
  unfold rowB toldB
  by_cases h : j = 0
  · rw [if_pos h]; unfold rowA; rw [if_pos h]
  · rw [if_neg h, if_neg (by simp [memN])]
theorem rowB_next {xs : List DRegion} (hv : regionsB xs = true) {t : Nat} (ht : t < (grL xs).length) {j : Nat} (hj : j < xs.length + 1) : rowB xs t (grL xs)[t].length j = rowB xs (t + 1) 0 j := by
  unfold rowB
  by_cases h : j = 0
  · rw [if_pos h, if_pos h]
  · rw [if_neg h, if_neg h]
    have hi : j - 1 < xs.length := by omega
    have e : toldB xs t (grL xs)[t].length (j - 1) = toldB xs (t + 1) 0 (j - 1) := by
      unfold toldB
      rw [getD_of_lt ht, List.take_length, List.take_zero, Bool.eq_iff_iff]
      have hm : grpF (grL xs) (j - 1) = t ↔ (j - 1) ∈ (grL xs)[t] := ⟨fun e => by have := grpF_has hi; simp only [e] at this; exact this, fun e => grpF_is hv ht e hi⟩
      simp only [Bool.or_eq_true, Bool.and_eq_true, decide_eq_true_eq, memN_true]
      constructor
      · rintro (h1 | ⟨h1, _⟩)
        · exact .inl (by omega)
        · exact .inl (by omega)
      · rintro (h1 | ⟨_, h2⟩)
        · rcases Nat.lt_or_eq_of_le (Nat.le_of_lt_succ h1) with h2 | h2
          · exact .inl h2
          · exact .inr ⟨h2, hm.1 h2⟩
        · cases h2
    rw [e]
/-- One member more. -/
theorem rowB_step {xs : List DRegion} (hv : regionsB xs = true) {t m : Nat} (ht : t < (grL xs).length) (hm : m < (grL xs)[t].length) {j : Nat} (hj : j < xs.length + 1) :
    (if j = 1 + (grL xs)[t][m] then [xs[(grL xs)[t][m]]'(grL_lt ht _ (List.getElem_mem hm)) |>.id, decS (xs[(grL xs)[t][m]]'(grL_lt ht _ (List.getElem_mem hm))).level] ++ [decS (t : Int)] else rowB xs t m j) = rowB xs t (m + 1) j := by
  have hil := grL_lt ht _ (List.getElem_mem hm)
  have hgi : grpF (grL xs) (grL xs)[t][m] = t := grpF_is hv ht (List.getElem_mem hm) hil
  have htk : ((grL xs).getD t []).take (m + 1) = ((grL xs).getD t []).take m ++ [(grL xs)[t][m]] := by rw [getD_of_lt ht]; exact List.take_succ_eq_append_getElem hm
  by_cases h : j = 1 + (grL xs)[t][m]
  · rw [if_pos h]
    subst h
    unfold rowB
    rw [if_neg (by omega), Nat.add_sub_cancel_left, if_pos]
    · unfold rowR
      rw [getD_of_lt hil, hgi]; rfl
    · unfold toldB
      rw [hgi, htk, memN_true.2 (List.mem_append_right _ (List.mem_singleton.2 rfl))]; simp
  · rw [if_neg h]
    unfold rowB
    by_cases h0 : j = 0
    · rw [if_pos h0, if_pos h0]
    · rw [if_neg h0, if_neg h0]
      have e : toldB xs t m (j - 1) = toldB xs t (m + 1) (j - 1) := by
        unfold toldB
        rw [htk]
        congr 1
        congr 1
        rw [Bool.eq_iff_iff, memN_true, memN_true, List.mem_append, List.mem_singleton]
        constructor
        · exact .inl
        · rintro (h1 | h1)
          · exact h1
          · omega
      rw [e]
theorem rowB_new {xs : List DRegion} {t m : Nat} (hv : regionsB xs = true) (ht : t < (grL xs).length) (hm : m < (grL xs)[t].length) : rowB xs t m (1 + (grL xs)[t][m]) = [xs[(grL xs)[t][m]]'(grL_lt ht _ (List.getElem_mem hm)) |>.id, decS (xs[(grL xs)[t][m]]'(grL_lt ht _ (List.getElem_mem hm))).level] := by
  have hil := grL_lt ht _ (List.getElem_mem hm)
  have hgi : grpF (grL xs) (grL xs)[t][m] = t := grpF_is hv ht (List.getElem_mem hm) hil
  have hnd : (grL xs)[t].Nodup := by
    have hmm := List.getElem_mem ht
    unfold grL groupsL at hmm
    obtain ⟨r, _, e⟩ := List.mem_map.1 hmm
    have e2 : (grL xs)[t] = compL xs.length (adjR xs) r := e.symm
    rw [e2, List.nodup_iff_pairwise_ne]
    exact compL_sorted.imp (fun h => by omega)
  have hni : (grL xs)[t][m] ∉ (grL xs)[t].take m := fun h => by
    obtain ⟨p, hp, e⟩ := List.getElem_of_mem h
    rw [List.length_take] at hp
    rw [List.getElem_take] at e
    have := (List.nodup_iff_pairwise_ne.1 hnd)
    rw [List.pairwise_iff_getElem] at this
    exact this p m (by omega) hm (by omega) e
  unfold rowB
  rw [if_neg (by omega), Nat.add_sub_cancel_left, if_neg]
  · unfold rowA
    rw [if_neg (by omega), Nat.add_sub_cancel_left, getD_of_lt hil]
  · unfold toldB
    rw [hgi, getD_of_lt ht]
    simp only [Bool.or_eq_true, Bool.and_eq_true, decide_eq_true_eq, memN_true]
    rintro (h | ⟨_, h⟩)
    · omega
    · exact hni h
theorem rowB_all {xs : List DRegion} : (List.range (xs.length + 1)).map (rowB xs (grL xs).length 0) = rowsR xs xs.length := by
  unfold rowsR
  rw [List.range_succ_eq_map, List.map_cons, List.map_map]
  congr 1
  refine List.map_congr_left (fun i hi => ?_)
  have hi := List.mem_range.1 hi
  show rowB xs (grL xs).length 0 (i + 1) = rowR xs i
  unfold rowB
  rw [if_neg (by omega), Nat.add_sub_cancel, if_pos]
  unfold toldB
  rw [decide_eq_true (grpF_lt hi)]; rfl
set_option maxRecDepth 100000 in
set_option maxHeartbeats 8000000 in
theorem implRegionReport_any (v : Value) (xs : List DRegion) (fp : List Nat) (w : World) (hx : Sl cRegion w v xs fp) (ht : Tab10 w) :
    Calls Tryz.prog 8 #[v] w fun e w' => NewR2 fStr.cod w (rgnF xs) (rgnC xs) e w' := by
  obtain ⟨A, cap, rfl, hle, hca⟩ := hx.form
  obtain ⟨i0, hi, hz0, hz1, hz2⟩ := info_parts infoSliceR
  obtain ⟨j0, hj, hy0, hy1, hy2⟩ := info_parts infoStrV
  have hlt0 := hx.lt
  go_enter Tryz.func8, Tryz.ntmps8
  go_wp2_with fail
  refine (ValidRegions_any _ xs fp _ hx).mono ?_
  rintro e w1 ⟨rfl, hb1⟩
  cases h0 : regionsB xs
  · go_wp2
    go_ret2
    exact ⟨_, by rw [rgnC, h0]; rfl, by rw [rgnF, h0]; exact New.nil hb1⟩
  have HC := Lib.hid (show rgnC xs = doneC (tabF (rowsR xs xs.length)) from by rw [rgnC, h0]; rfl)
  have HF := Lib.hid (show rgnF xs = doneF (tabF (rowsR xs xs.length)) from by rw [rgnF, h0]; rfl)
  have hn8 := regs_len h0
  have H0 := Lib.hid h0
  have hszw := hb1.size
  clear h0
  have hBa : Below w.heap.size w (w1.alloc (.cells #[.string ⟨#[114, 101, 103, 105, 111, 110]⟩, .string ⟨#[108, 101, 118, 101, 108]⟩, .string ⟨#[103, 114, 111, 117, 112]⟩] 9)) := hb1.alloc hb1.size _
  have hB0 : Below w.heap.size w ((w1.alloc (.cells #[.string ⟨#[114, 101, 103, 105, 111, 110]⟩, .string ⟨#[108, 101, 118, 101, 108]⟩, .string ⟨#[103, 114, 111, 117, 112]⟩] 9)).alloc (.cells #[.slice (some ⟨w1.heap.size, 0, none⟩) 3 3] 24)) := hBa.alloc hBa.size _
  have hoh : Own fStr ((w1.alloc (.cells #[.string ⟨#[114, 101, 103, 105, 111, 110]⟩, .string ⟨#[108, 101, 118, 101, 108]⟩, .string ⟨#[103, 114, 111, 117, 112]⟩] 9)).alloc (.cells #[.slice (some ⟨w1.heap.size, 0, none⟩) 3 3] 24)) w1.heap.size 9 (.slice (some ⟨w1.heap.size, 0, none⟩) 3 3) hdR :=
    World.ownsRow.alloc (World.ownsRow_lit (e := 9) (size := 1) w1 #[.string ⟨#[114, 101, 103, 105, 111, 110]⟩, .string ⟨#[108, 101, 118, 101, 108]⟩, .string ⟨#[103, 114, 111, 117, 112]⟩] 3 (Nat.le_refl _) (by decide) rfl) _
  have hro : ((w1.alloc (.cells #[.string ⟨#[114, 101, 103, 105, 111, 110]⟩, .string ⟨#[108, 101, 118, 101, 108]⟩, .string ⟨#[103, 114, 111, 117, 112]⟩] 9)).alloc (.cells #[.slice (some ⟨w1.heap.size, 0, none⟩) 3 3] 24)).ownsRow w1.heap.size 24 1 (.slice (some ⟨w1.heap.size + 1, 0, none⟩) 1 1) 1 [.slice (some ⟨w1.heap.size, 0, none⟩) 3 3] := by
    have h := World.ownsRow_lit (e := 24) (size := 1) (base := w1.heap.size) (w1.alloc (.cells #[.string ⟨#[114, 101, 103, 105, 111, 110]⟩, .string ⟨#[108, 101, 118, 101, 108]⟩, .string ⟨#[103, 114, 111, 117, 112]⟩] 9)) #[.slice (some ⟨w1.heap.size, 0, none⟩) 3 3] 1 (by simp) (by decide) rfl
    rw [World.size_alloc] at h; exact h
  have hpg0 : PgV ((w1.alloc (.cells #[.string ⟨#[114, 101, 103, 105, 111, 110]⟩, .string ⟨#[108, 101, 118, 101, 108]⟩, .string ⟨#[103, 114, 111, 117, 112]⟩] 9)).alloc (.cells #[.slice (some ⟨w1.heap.size, 0, none⟩) 3 3] 24)) w1.heap.size (.slice (some ⟨w1.heap.size + 1, 0, none⟩) 1 1) 1 (fun _ => .slice (some ⟨w1.heap.size, 0, none⟩) 3 3) (rowA xs) (fun _ => w1.heap.size) :=
    ⟨hro, fun i hi => by obtain rfl : i = 0 := by omega
                         exact hoh, fun i hi => rfl, fun i j hi hj _ => by omega, fun i hi e => by
      have e : w1.heap.size + 1 = w1.heap.size := by injection e
      omega⟩
  clear hoh hro hBa
  go_wp2
  go_loopw [4, 18] (fun v c wr => ∃ (k : Nat) (V : Nat → Value) (G : Nat → Nat), k ≤ xs.length ∧ c = .int .i64 k ∧ PgV wr w1.heap.size v (k + 1) V (rowA xs) G ∧ Below w.heap.size w wr) (fun _ c _ => xs.length - (intOf c).toNat)
  case atStart => exact ⟨0, _, _, Nat.zero_le _, rfl, hpg0, hB0⟩
  case round => as_aux_lemma =>
    clear hpg0 hB0
    obtain ⟨k, V, G, hk, rfl, hpg, hb⟩ := hrel
    by_cases hlt : k < xs.length
    · have hki : (k : Int) < (xs.length : Int) := by omega
      obtain ⟨b, off, vk, fk, rfl, r0, r1, r2, hnr, _⟩ := (hx.below' hb).reg hlt
      obtain ⟨An, cn, rfl, _, _⟩ := hnr.form
      have hlv := regs_level H0.out hlt
      have HRA : Hid (rowA xs (k + 1) = [xs[k].id, decS xs[k].level]) := by show _ = _; unfold rowA; rw [if_neg (by omega), Nat.add_sub_cancel, getD_of_lt hlt]
      have hrow : u4.ownBlock ≠ some wr.heap.size := fun e => by have := (World.ownsRow.lt hpg.own _ e).2; omega
      have hbl : w1.heap.size ≤ wr.heap.size := by
        obtain ⟨g, c, _, h1, h2⟩ := hpg.addr (by omega)
        omega
      go_wp2
      refine at_world (fun W => Below w.heap.size w W ∧ RgC W wr.heap.size 0 xs[k] ∧ PgV W w1.heap.size u4 (k + 1) V (rowA xs) G ∧ wr.heap.size ≤ W.heap.size) ⟨hb.alloc hb.size _, ⟨by simp, by simp⟩, hpg.below ((Below.refl _ _).alloc (Nat.le_refl _) _), by simp⟩ ?_
      clear r0 r1 r2 hnr hpg hb
      generalize wr.heap.size = wq at *
      rintro W ⟨hBW, hpW, hrW, hWq⟩
      have hbW : w1.heap.size ≤ W.heap.size := by omega
      have hrowne : some wq = u4.ownBlock → False := fun e => hrow e.symm
      have gk0 : ∀ p : KeptW (w1.heap.size) W (fun N => RgC N wq 0 xs[k]), p.v.cell? ⟨wq, 0, none⟩ = some (.string xs[k].id) := fun p => p.x.c0
      have gk1 : ∀ p : KeptW (w1.heap.size) W (fun N => RgC N wq 0 xs[k]), p.v.cell? ⟨wq, 1, none⟩ = some (.int .i64 xs[k].level) := fun p => p.x.c1
      haveI hKne : Nonempty (KeptW (w1.heap.size) W (fun N => RgC N wq 0 xs[k])) := ⟨⟨_, Below.drew (Below.refl _ _), (hpW.below' (Below.drew (Below.refl _ _)))⟩⟩
      refine wp_region_mix (C := fun w' => ∃ p : KeptW (w1.heap.size) W (fun N => RgC N wq 0 xs[k]), w' = p.v) [true, true, true, true, true, false, false, false, false, true] (by kernel_rfl) (by kernel_rfl) (by kernel_rfl) (fun _ _ d _ _ h => by cases d <;> exact h) ⟨⟨_, Below.drew (Below.refl _ _), (hpW.below' (Below.drew (Below.refl _ _)))⟩, rfl⟩ ?_
      have hS0 : Below (w1.heap.size) W W.drew := Below.drew (Below.refl _ _)
      refine wpMix_pure (by kernel_rfl) (fun K hK => ?_); go_big_quiet_op; refine hK _ ?_; clear hK K
      refine wpMix_pure (by kernel_rfl) (fun K hK => ?_); go_big_quiet_op; refine hK _ ?_; clear hK K
      refine wpMix_pure (by kernel_rfl) (fun K hK => ?_); go_big_quiet_op; refine hK _ ?_; clear hK K
      refine wpMix_pure (by kernel_rfl) (fun K hK => ?_); go_big_quiet_op; refine hK _ ?_; clear hK K
      refine wpMix_pure (by kernel_rfl) (fun K hK => ?_); go_big_quiet_op; refine hK _ ?_; clear hK K
      refine wpMix_act (by kernel_rfl) (fun K hK => ?_)
      go_big_op
      refine (Decimal_any xs[k].level _ (by omega) (by omega) (ht.below (hBW.trans (hS0.mono hszw)))).mono ?_
      rintro e wr1 ⟨rfl, hbr1⟩
      have hbr1S : Below (w1.heap.size) W wr1 := hS0.trans (hbr1.mono (Nat.le_trans hbW hS0.size))
      refine hK _ _ ⟨⟨_, hbr1S, (((hpW.below' (Below.drew (Below.refl _ _)))).below' hbr1)⟩, rfl⟩ ?_
      clear hK K
      refine wpMix_act (by kernel_rfl) (fun K hK => ?_)
      go_big_op
      refine hK _ _ ⟨⟨_, (hbr1S.alloc (Nat.le_trans hbW hbr1S.size) _), (((((hpW.below' (Below.drew (Below.refl _ _)))).below' hbr1)).below' ((Below.refl _ _).alloc (Nat.le_refl _) _))⟩, rfl⟩ ?_
      clear hK K
      refine mix_world (fun N => Below (w1.heap.size) W N ∧ RgC N wq 0 xs[k] ∧ PgV N w1.heap.size u4 (k + 1) V (rowA xs) G ∧ Own fStr N w1.heap.size 9 (.slice (some ⟨wr1.heap.size, 0, none⟩) 2 2) [xs[k].id, decS xs[k].level] ∧ wr1.heap.size < N.heap.size) ⟨hbr1S.alloc (Nat.le_trans hbW hbr1S.size) _, ⟨((hpW.below' (Below.drew (Below.refl _ _))).below' hbr1).below' ((Below.refl _ _).alloc (Nat.le_refl _) _), ((hrW.below (Below.drew (Below.refl _ _))).below hbr1).below ((Below.refl _ _).alloc (Nat.le_refl _) _), World.ownsRow_lit (e := 9) (size := 1) wr1 #[.string xs[k].id, .string (decS xs[k].level)] 2 (Nat.le_trans hbW hbr1S.size) (by decide) rfl, by simp⟩⟩ ?_
      rintro wr2 ⟨hbr2S, hbr2F⟩
      refine wpMix_act (by kernel_rfl) (fun K hK => ?_)
      go_big_op
      refine hK _ _ ⟨⟨_, (hbr2S.alloc (Nat.le_trans hbW hbr2S.size) _), ((hbr2F.1).below' ((Below.refl _ _).alloc (Nat.le_refl _) _))⟩, rfl⟩ ?_
      clear hK K
      refine mix_world (fun N => Below (w1.heap.size) W N ∧ RgC N wq 0 xs[k] ∧ PgV N w1.heap.size u4 (k + 1) V (rowA xs) G ∧ Own fStr N w1.heap.size 9 (.slice (some ⟨wr1.heap.size, 0, none⟩) 2 2) [xs[k].id, decS xs[k].level] ∧ wr1.heap.size < N.heap.size ∧ N.cell? ⟨wr2.heap.size, 0, none⟩ = some (.slice (some ⟨wr1.heap.size, 0, none⟩) 2 2)) ⟨hbr2S.alloc (Nat.le_trans hbW hbr2S.size) _, ⟨hbr2F.1.below' ((Below.refl _ _).alloc (Nat.le_refl _) _), hbr2F.2.1.below ((Below.refl _ _).alloc (Nat.le_refl _) _), hbr2F.2.2.1.below ((Below.refl _ _).alloc (Nat.le_refl _) _), by have := hbr2F.2.2.2; simp; omega, by simp⟩⟩ ?_
      rintro wr3 ⟨hbr3S, hbr3F⟩
      refine wpMix_act (by kernel_rfl) (fun K hK => ?_)
      obtain ⟨hp6, hr6, hy6, hlt6, hc6⟩ := hbr3F
      refine wp_append_at2 _ _ _ 61 rfl w1.heap.size 24 i0 (.slice none 0 0) 1 24 Tryz.underlying61 hi hz0 hz1 hz2 rfl (by decide) u4 (k + 1) _ rfl hr6.own [.slice (some ⟨wr1.heap.size, 0, none⟩) 2 2] rfl (by intro u hu; rw [List.mem_singleton] at hu; subst hu; rfl) wr2.heap.size rfl (by intro j u hj; match j, hj with | 0, hj => (injection hj with hj; subst hj; exact hc6) | j + 1, hj => (simp at hj)) (by omega) (by decide) (Nat.le_trans hbW hbr3S.size) ?_
      intro v' u hown hbu hgr5 hli
      have hr7 := hr6.push hy6 (gy := wr1.heap.size) rfl (fun i hi e => by have := (hrW.gl hi).2; have := W_le hbr1S; omega) (fun e => by have := (World.ownsRow.lt hrW.own _ e).2; have := W_le hbr1S; omega) hown hgr5 hli
      replace hr7 := hr7.congr (X' := rowA xs) (fun i hi => if h : i = k + 1 then (by rw [if_pos h, h, HRA.out]) else (by rw [if_neg h]))
      clear hown
      have hpu : RgC u wq 0 xs[k] := hp6.keptI (fun j => World.cell?_of_block (a := ⟨wq, j, none⟩) (hgr5.block wq hp6.lt (fun e => hrowne e)))
      have hbuS : Below (w1.heap.size) W u := hbr3S.trans hbu
      try simp only [Act.put, List.setIfInBounds_toArray, List.set_cons_zero, List.set_cons_succ]
      refine hK _ _ ⟨⟨_, hbuS, hpu⟩, rfl⟩ ?_
      clear hK K
      refine wpMix_pure (by kernel_rfl) (fun K hK => ?_); go_big_quiet_op; refine hK _ ?_; clear hK K
      refine wpMix_nil ?_
      have hb9 := hBW.trans (hbuS.mono hszw)
      go_wp2
      go_roundw
      case rel => exact ⟨k + 1, _, _, by omega, by go_num, hr7, hb9⟩
      case measure => simp [intOf]; omega
    · rename World => wo
      obtain rfl : k = xs.length := by omega
      have hki : ¬ (xs.length : Int) < (xs.length : Int) := by omega
      have hbl : w1.heap.size ≤ wo.heap.size := by
        obtain ⟨g, c, _, h1, h2⟩ := hpg.addr (by omega)
        omega
      go_wp2_with fail
      refine (joined_any _ xs fp _ (hx.below' hb) H0.out).mono ?_
      rintro e w2 ⟨vg, fq, rfl, hgr, hlo, hb2⟩
      rw [show groupsL xs.length (adjR xs) xs.length = grL xs from rfl] at hgr
      have hpg2 := hpg.below hb2
      have hB2 := hb.trans (hb2.mono hb.size)
      have hgq := hgr.lt
      have hgl0 : ∀ j, j < xs.length + 1 → G j < wo.heap.size ∨ w2.heap.size ≤ G j := fun j hj => .inl (hpg.gl hj).2
      have hap0 : ∀ b, u4.ownBlock = some b → b < wo.heap.size := fun b e => (World.ownsRow.lt hpg.own _ e).2
      have hsz2 := hb2.size
      have hap1 : ∀ j, j < xs.length + 1 → (rowB xs 0 0) j = rowA xs j := fun j _ => rowB_zero j
      obtain ⟨gR, cR, rfl, _, _⟩ := hpg.addr (by omega)
      have hgR : gR < wo.heap.size := hap0 gR rfl
      obtain ⟨Ag, cg, rfl, _, _⟩ := hgr.form
      have hgl : ((grL xs).map ints).length = (grL xs).length := List.length_map _
      rw [hgl] at hgr ⊢
      have hgn := grL_len (xs := xs)
      have hpg3 := hpg2.congr (X' := rowB xs 0 0) (fun j hj => (hap1 j hj).symm)
      clear hpg hpg2 hb hb2 hap0 hap1 hgl
      go_wp2
      go_loopw [35] (fun c wr => ∃ (t : Nat) (V : Nat → Value) (G : Nat → Nat), t ≤ (grL xs).length ∧ c = .int .i64 t ∧ PgV wr w1.heap.size (.slice (some ⟨gR, 0, none⟩) (xs.length + 1) cR) (xs.length + 1) V (rowB xs t 0) G ∧ (∀ j, j < xs.length + 1 → G j < wo.heap.size ∨ w2.heap.size ≤ G j) ∧ Sl fInt.cod.slice wr (.slice Ag (grL xs).length cg) ((grL xs).map ints) fq ∧ Below w.heap.size w wr ∧ w2.heap.size ≤ wr.heap.size) (fun c _ => (grL xs).length - (intOf c).toNat)
      case atStart => exact ⟨0, _, _, Nat.zero_le _, rfl, hpg3, hgl0, hgr, hB2, Nat.le_refl _⟩
      case round => as_aux_lemma =>
        clear hpg3 hgl0 hgr hB2
        obtain ⟨t, V, G, ht', rfl, hpg, hgG, hgr, hb, hsz⟩ := hrel
        by_cases hltt : t < (grL xs).length
        rotate_left
        · obtain rfl : t = (grL xs).length := by omega
          have hti : ¬ ((grL xs).length : Int) < ((grL xs).length : Int) := by omega
          obtain ⟨fpr, hsl, _⟩ := hpg.sl (xss := rowsR xs xs.length) rowB_all.symm (fun i hi x hx => by
            have : rowB xs (grL xs).length 0 i ∈ rowsR xs xs.length := by rw [← rowB_all]; exact List.mem_map.2 ⟨i, List.mem_range.2 hi, rfl⟩
            have h := rowsR_size H0.out _ this x hx
            show _ ≤ _; omega)
          have hrs := rowsR_size H0.out
          have hrk := rowsR_ok H0.out
          have hlen7 : (rowsR xs xs.length).length ≤ 1048577 := by rw [rowsR_len]; omega
          have HTC := Lib.hid (show tlC (rowsR xs xs.length) = doneC (tabF (rowsR xs xs.length)) from by rw [tlC, hrk]; rfl)
          have HTF := Lib.hid (show tlF (rowsR xs xs.length) = doneF (tabF (rowsR xs xs.length)) from by rw [tlF, hrk]; rfl)
          have HRL := Lib.hid (rowsR_len xs xs.length)
          clear hrk hpg hgG hgr
          go_wp2_with fail
          refine (implTableLines_any _ (rowsR xs xs.length) fpr _ hsl hlen7 hrs).mono ?_
          rintro e w3 ⟨v3, rfl, hn⟩
          have hn2 := hn.later hb
          rw [HTF.out] at hn2
          go_wp2
          go_ret2
          exact ⟨_, by rw [HC.out, ← HTC.out]; rfl, by rw [HF.out]; exact hn2⟩
        have hti : (t : Int) < ((grL xs).length : Int) := by omega
        obtain ⟨bP, oP, vP, fP, rfl, hcP, hrP, _, hfP⟩ := hgr.elem2 (k := t) (by rw [List.length_map]; exact hltt)
        rw [List.getElem_map] at hrP
        obtain ⟨AK, cK, rfl, _, _⟩ := hrP.form
        rw [ints_len] at hrP hcP
        have hmlt := grL_lt hltt
        have hfPq : ∀ c ∈ fP, c ∈ fq := hfP
        go_wp2
        go_loopw [42] (fun c wr => ∃ (m : Nat) (V : Nat → Value) (G : Nat → Nat), m ≤ (grL xs)[t].length ∧ c = .int .i64 m ∧ PgV wr w1.heap.size (.slice (some ⟨gR, 0, none⟩) (xs.length + 1) cR) (xs.length + 1) V (rowB xs t m) G ∧ (∀ j, j < xs.length + 1 → G j < wo.heap.size ∨ w2.heap.size ≤ G j) ∧ Sl fInt.cod.slice wr (.slice (some ⟨bP, oP, none⟩) (grL xs).length cg) ((grL xs).map ints) fq ∧ Sl fInt.cod wr (.slice AK (grL xs)[t].length cK) (ints (grL xs)[t]) fP ∧ Below w.heap.size w wr ∧ w2.heap.size ≤ wr.heap.size) (fun c _ => (grL xs)[t].length - (intOf c).toNat)
        case atStart => exact ⟨0, V, G, Nat.zero_le _, rfl, hpg, hgG, hgr, hrP, hb, hsz⟩
        case round => as_aux_lemma =>
          clear hpg hgG hgr hrP hb hsz hcP V G
          obtain ⟨m, V, G, hm, rfl, hpg, hgG, hgr, hrP, hb, hsz⟩ := hrel
          by_cases hltm : m < (grL xs)[t].length
          rotate_left
          · obtain rfl : m = (grL xs)[t].length := by omega
            have hmi : ¬ (((grL xs)[t].length : Nat) : Int) < (((grL xs)[t].length : Nat) : Int) := by omega
            have hpg3 := hpg.congr (X' := rowB xs (t + 1) 0) (fun j hj => rowB_next H0.out hltt hj)
            clear hpg
            go_wp2
            go_roundw
            case rel => exact ⟨t + 1, V, G, by omega, by go_num, hpg3, hgG, hgr, hb, hsz⟩
            case measure => simp [intOf]; omega
          have hmi : (m : Int) < ((grL xs)[t].length : Int) := by omega
          obtain ⟨b1, o1, rfl, _, _, n0, _⟩ := hrP.cell1 rfl (k := m) (by rw [ints_len]; exact hltm) rfl
          have HN : Hid (rowB xs t m (1 + (grL xs)[t][m]) = _) := rowB_new H0.out hltt hltm
          have HB : Hid (∀ j, j < xs.length + 1 → _ = rowB xs t (m + 1) j) := fun j hj => rowB_step H0.out hltt hltm hj
          have hm1 : Hid (m + 1 ≤ (grL xs)[t].length) := hltm
          have hil := hmlt _ (List.getElem_mem hltm)
          have hlv := regs_level H0.out hil
          replace n0 : wr.cell? ⟨b1, o1 + m, none⟩ = some (.int .i64 (((grL xs)[t][m] : Nat) : Int)) := by
            have e : (ints (grL xs)[t])[m]'(by rw [ints_len]; exact hltm) = (((grL xs)[t][m] : Nat) : Int) := by
              have := ints_get hltm
              rw [List.getElem?_eq_getElem (by rw [ints_len]; exact hltm)] at this
              exact Option.some.inj this
            rw [← e]; simpa using n0
          generalize (xs[(grL xs)[t][m]]'hil).id = sid at *
          generalize (xs[(grL xs)[t][m]]'hil).level = slv at *
          generalize hii : (grL xs)[t][m] = ii at *
          have hIl : ii < xs.length + 1 := by omega
          have hii1 : 1 + ii < xs.length + 1 := by omega
          have hiii : 1 + (ii : Int) < ((xs.length + 1 : Nat) : Int) := by omega
          have hgi : (t : Int) ≤ 8 := by omega
          obtain ⟨cV, hVc⟩ := hpg.last hii1 (by rw [HN.out]; exact Nat.succ_pos _)
          rw [HN.out] at hVc
          have hcell : wr.cell? ⟨gR, 1 + ii, none⟩ = some (V (1 + ii)) := by rw [hpg.own.cellAt (1 + ii) (by omega), List.getElem?_map, List.getElem?_range hii1]; rfl
          have hgRl : gR < wr.heap.size := by omega
          have hGI := hgG (1 + ii) hii1
          have hBI := hpg.blk (1 + ii) hii1
          rw [hVc] at hcell
          replace hcell : wr.cell? ⟨gR, 1 + ii, none⟩ = some (.slice (some ⟨G (1 + ii), 0, none⟩) 2 cV) := hcell
          have hVc2 : V (1 + ii) = .slice (some ⟨G (1 + ii), 0, none⟩) 2 cV := hVc
          have hpW : CeC wr gR (1 + ii) (.slice (some ⟨G (1 + ii), 0, none⟩) 2 cV) := ⟨hcell⟩
          have hbW : w1.heap.size ≤ wr.heap.size := by have := hpg.gl hii1; omega
          have hgRb : w1.heap.size ≤ gR := (World.ownsRow.lt hpg.own gR rfl).1
          have hGne : gR ≠ G (1 + ii) := fun e => hpg.ap (1 + ii) hii1 (by rw [← e]; rfl)
          have hdt := (show (0 : Int) ≤ (t : Int) from Int.natCast_nonneg t)
          clear hVc hcell hBI
          go_wp2
          have gk0 : ∀ p : KeptW (w1.heap.size) wr (fun N => CeC N gR (1 + ii) (.slice (some ⟨G (1 + ii), 0, none⟩) 2 cV)), p.v.cell? ⟨gR, 1 + ii, none⟩ = some (.slice (some ⟨G (1 + ii), 0, none⟩) 2 cV) := fun p => p.x.c
          haveI hKne : Nonempty (KeptW (w1.heap.size) wr (fun N => CeC N gR (1 + ii) (.slice (some ⟨G (1 + ii), 0, none⟩) 2 cV))) := ⟨⟨_, Below.drew (Below.refl _ _), (hpW.below' (Below.drew (Below.refl _ _)))⟩⟩
          refine wp_region_sink (C := fun w' => ∃ p : KeptW (w1.heap.size) wr (fun N => CeC N gR (1 + ii) (.slice (some ⟨G (1 + ii), 0, none⟩) 2 cV)), w' = p.v) [0, 1, 2, 3, 4, 5, 6, 7, 8, 9, 10, 11, 12, 13] [true, true, true, true, true, true, true, true, true, false, false, false, true, false] 13 (by kernel_rfl) (by kernel_rfl) (by kernel_rfl) (fun _ _ d _ _ h => by cases d <;> exact h) ⟨⟨_, Below.drew (Below.refl _ _), (hpW.below' (Below.drew (Below.refl _ _)))⟩, rfl⟩ ?_
          simp only [List.map_cons, List.map_nil, List.getD_cons_zero, List.getD_cons_succ]
          have hS0 : Below (w1.heap.size) wr wr.drew := Below.drew (Below.refl _ _)
          refine wpMixS_pure (by kernel_rfl) (fun K hK => ?_)
          go_big_quiet_op
          refine hK _ ?_; clear hK K
          refine wpMixS_pure (by kernel_rfl) (fun K hK => ?_)
          go_big_quiet_op
          refine hK _ ?_; clear hK K
          refine wpMixS_pure (by kernel_rfl) (fun K hK => ?_)
          go_big_quiet_op
          refine hK _ ?_; clear hK K
          refine wpMixS_pure (by kernel_rfl) (fun K hK => ?_)
          go_big_quiet_op
          refine hK _ ?_; clear hK K
          refine wpMixS_pure (by kernel_rfl) (fun K hK => ?_)
          go_big_quiet_op
          refine hK _ ?_; clear hK K
          refine wpMixS_pure (by kernel_rfl) (fun K hK => ?_)
          go_big_quiet_op
          refine hK _ ?_; clear hK K
          refine wpMixS_pure (by kernel_rfl) (fun K hK => ?_)
          go_big_quiet_op
          refine hK _ ?_; clear hK K
          refine wpMixS_pure (by kernel_rfl) (fun K hK => ?_)
          go_big_quiet_op
          refine hK _ ?_; clear hK K
          refine wpMixS_pure (by kernel_rfl) (fun K hK => ?_)
          go_big_quiet_op
          refine hK _ ?_; clear hK K
          refine wpMixS_act (by kernel_rfl) (fun K hK => ?_)
          go_big_op
          refine (Decimal_any (t : Int) _ (by omega) (by omega) (ht.below (hb.trans (hS0.mono hszw)))).mono ?_
          rintro e wr1 ⟨rfl, hbr1⟩
          have hbr1S : Below (w1.heap.size) wr wr1 := hS0.trans (hbr1.mono (Nat.le_trans hbW hS0.size))
          refine hK _ _ ⟨⟨_, hbr1S, (((hpW.below' (Below.drew (Below.refl _ _)))).below' hbr1)⟩, rfl⟩ ?_
          clear hK K
          refine wpMixS_act (by kernel_rfl) (fun K hK => ?_)
          go_big_op
          refine hK _ _ ⟨⟨_, (hbr1S.alloc (Nat.le_trans hbW hbr1S.size) _), (((((hpW.below' (Below.drew (Below.refl _ _)))).below' hbr1)).below' ((Below.refl _ _).alloc (Nat.le_refl _) _))⟩, rfl⟩ ?_
          clear hK K
          refine mixS_world (fun N => Below (w1.heap.size) wr N ∧ CeC N gR (1 + ii) (.slice (some ⟨G (1 + ii), 0, none⟩) 2 cV) ∧ PgV N w1.heap.size (.slice (some ⟨gR, 0, none⟩) (xs.length + 1) cR) (xs.length + 1) V (rowB xs t m) G ∧ (Sl fInt.cod.slice N (.slice (some ⟨bP, oP, none⟩) (grL xs).length cg) ((grL xs).map ints) fq ∧ Sl fInt.cod N (.slice (some ⟨b1, o1, none⟩) (grL xs)[t].length cK) (ints (grL xs)[t]) fP) ∧ wr1.heap.size < N.heap.size ∧ N.cell? ⟨wr1.heap.size, 0, none⟩ = some (.string (decS (t : Int)))) ⟨hbr1S.alloc (Nat.le_trans hbW hbr1S.size) _, ⟨((hpW.below' (Below.drew (Below.refl _ _))).below' hbr1).below' ((Below.refl _ _).alloc (Nat.le_refl _) _), ((hpg.below (Below.drew (Below.refl _ _))).below hbr1).below ((Below.refl _ _).alloc (Nat.le_refl _) _), ⟨((hgr.below' (Below.drew (Below.refl _ _))).below' hbr1).below' ((Below.refl _ _).alloc (Nat.le_refl _) _), ((hrP.below' (Below.drew (Below.refl _ _))).below' hbr1).below' ((Below.refl _ _).alloc (Nat.le_refl _) _)⟩, by simp, by simp⟩⟩ ?_
          rintro wr2 ⟨hbr2S, hbr2F⟩
          refine wpMixS_act (by kernel_rfl) (fun K hK => ?_)
          obtain ⟨hp6, hr6, ⟨hgr6, hrP6⟩, hlt6, hc6⟩ := hbr2F
          have hown6 : wr2.ownsRow w1.heap.size 9 1 (.slice (some ⟨G (1 + ii), 0, none⟩) 2 cV) 2 ([sid, decS slv].flatMap fStr.enc) := by have h := hr6.row (1 + ii) hii1; rw [hVc2, HN.out] at h; exact h
          refine wp_append_at2 _ _ _ 24 rfl w1.heap.size 9 j0 (.string ⟨#[]⟩) 1 16 Tryz.underlying24 hj hy0 hy1 hy2 rfl (by decide) (.slice (some ⟨G (1 + ii), 0, none⟩) 2 cV) 2 _ rfl hown6 [.string (decS (t : Int))] rfl (by intro u hu; rw [List.mem_singleton] at hu; subst hu; rfl) wr1.heap.size rfl (by intro j u hj; match j, hj with | 0, hj => (injection hj with hj; subst hj; exact hc6) | j + 1, hj => (simp at hj)) (by omega) (by decide) (Nat.le_trans hbW hbr2S.size) ?_
          intro v' u hown hbu hgr5 hli
          obtain ⟨A9, c9, hv9⟩ : ∃ A c, v' = .slice A 3 c := by
            rcases hown.2 with ⟨_, e2⟩ | ⟨g9, cap9, cur9, e, _⟩
            · exact absurd e2 (by simp)
            · exact ⟨_, _, e⟩
          subst hv9
          have hrow7 : Own fStr u w1.heap.size 9 (.slice A9 3 c9) ([sid, decS slv] ++ [decS (t : Int)]) := hown
          have hgu := hgr5.size
          have hpu : CeC u gR (1 + ii) (.slice (some ⟨G (1 + ii), 0, none⟩) 2 cV) := ⟨(World.cell?_of_block (a := ⟨gR, 1 + ii, none⟩) (hgr5.block gR hp6.lt (fun e => hGne (by injection e)))).trans hp6.c⟩
          have hW6 := (World.ownsRow.lt hown6 _ rfl).2
          obtain ⟨gy, hgy, hgyc⟩ : ∃ gy, (Value.slice A9 3 c9).ownBlock = some gy ∧ (gy = G (1 + ii) ∨ gy = wr2.heap.size) := by
            rcases hli with e | e
            · exact ⟨G (1 + ii), e, .inl rfl⟩
            · exact ⟨_, e, .inr rfl⟩
          have hp7 := PgV.growAt hii1 hr6 hrow7 hgy (by rw [hVc2]; exact hgr5) (by rw [hVc2]; exact hli)
          have hgr7 := hgr6.only (only_of_grown hgr5) (fun b hb h => by have h1 := hlo b hb; have h2 := hgq b hb; have h3 : b = G (1 + ii) := List.mem_singleton.1 h; omega)
          have hrP7 := hrP6.only (only_of_grown hgr5) (fun b hb h => by have h1 := hlo b (hfPq b hb); have h2 := hgq b (hfPq b hb); have h3 : b = G (1 + ii) := List.mem_singleton.1 h; omega)
          have HP9 := Lib.hid (hp7.congr (fun j hj => HB.out j hj))
          have HGR9 := Lib.hid (hgr7.only ((Only.refl [gR] u).set (1 + ii) (.slice A9 3 c9)) (fun b hb => by have h1 := hlo b hb; rw [List.mem_singleton]; omega))
          have HRP9 := Lib.hid (hrP7.only ((Only.refl [gR] u).set (1 + ii) (.slice A9 3 c9)) (fun b hb => by have h1 := hlo b (hfPq b hb); rw [List.mem_singleton]; omega))
          have HG9 : Hid (∀ j, j < xs.length + 1 → (if j = 1 + ii then gy else G j) < wo.heap.size ∨ w2.heap.size ≤ (if j = 1 + ii then gy else G j)) := fun j hj => by
            by_cases e : j = 1 + ii
            · rw [if_pos e]; have := W_le hbr2S; omega
            · rw [if_neg e]; exact hgG j hj
          have HB9 := Lib.hid ((hb.trans ((hbr2S.trans hbu).mono hszw)).setCell (p := ⟨gR, 1 + ii, none⟩) (Nat.le_trans hszw hgRb) (.slice A9 3 c9))
          have HS9 : Hid (w2.heap.size ≤ (u.setCell ⟨gR, 1 + ii, none⟩ (.slice A9 3 c9)).heap.size) := by show _ ≤ _; rw [World.size_setCell]; have := W_le hbr2S; omega
          have hzu : u.frozen? ⟨gR, 1 + ii, none⟩ = false := (World.frozen?_of_block (a := ⟨gR, 1 + ii, none⟩) (hgr5.block gR hp6.lt (fun e => hGne (by injection e)))).trans (hr6.own.frozenAt _)
          have hcu : u.cell? ⟨gR, 1 + ii, none⟩ = some (.slice (some ⟨G (1 + ii), 0, none⟩) 2 cV) := hpu.c
          clear hown hrow7 hp7 hgr7 hrP7 hgy hli hown6 hgr6 hrP6
          have hbuS : Below (w1.heap.size) wr u := hbr2S.trans hbu
          try simp only [Act.put, List.setIfInBounds_toArray, List.set_cons_zero, List.set_cons_succ]
          refine hK _ _ ⟨⟨_, hbuS, hpu⟩, rfl⟩ ?_
          clear hK K
          refine wpMixS_pure (by kernel_rfl) (fun K hK => ?_)
          go_big_quiet_op
          refine hK _ ?_; clear hK K
          refine wpMixS_last (by kernel_rfl) (fun K hK => ?_)
          go_big_op
          try simp only [Act.put, List.setIfInBounds_toArray, List.set_cons_zero, List.set_cons_succ]
          refine hK _ _ ?_
          clear hK K
          have hmm := hm1.out
          have hml : (grL xs)[t].length ≤ cK := by rw [← ints_len]; omega
          go_wp2
          go_roundw
          case rel => exact ⟨m + 1, _, _, hm1.out, by go_num, HP9.out, HG9.out, HGR9.out, HRP9.out, HB9.out, HS9.out⟩
          case measure => simp [intOf]; omega

end Go.Proofs.YtgnbhcgagdfaiaaGreatDoor

namespace Go.Proofs.YtgnbhcgagdfaiaaGreatDoor
open Go.RowKit
set_option linter.unusedVariables false

def strOf0 (v : Value) : Nat := match v with | .string t => t.size | _ => 0
theorem infoStrD : (Tryz.prog.info? 9).map (fun i => (i.zero, i.size, i.bytes)) = some (some (.string ⟨#[]⟩), 1, 16) := by kernel_rfl
theorem made1 {α : Type} (E : Flat α) (z : α) (u : Value) (hz : E.enc z = [u]) (n : Nat) : madeCells #[u] n = ((List.replicate n z).flatMap E.enc).toArray := by
  have h : (List.replicate n z).flatMap E.enc = List.replicate n u := by
    induction n with
    | zero => rfl
    | succ n ih => rw [List.replicate_succ, List.flatMap_cons, ih, hz]; rfl
  rw [h]
  unfold madeCells
  apply Array.ext
  · simp
  · intro i h1 h2
    simp [Nat.mod_one]
theorem sl_madeS (w : World) (T : TypeId) (n : Nat) (h0 : 0 < n) (hn : n ≤ 1000) : Sl fStr.cod (w.alloc (.cells (madeCells #[.string ⟨#[]⟩] n) T)) (.slice (some ⟨w.heap.size, 0, none⟩) n n) (List.replicate n ⟨#[]⟩) [w.heap.size] := by
  have h := Sl.lit2 (E := fStr) w (List.replicate n (⟨#[]⟩ : ByteArray)) T _ (made1 fStr ⟨#[]⟩ _ rfl n) (fun x hx => by rw [List.eq_of_mem_replicate hx]; show _ ≤ _; decide) (by rw [List.length_replicate]; exact h0) (by rw [List.length_replicate]; omega)
  rw [List.length_replicate] at h
  exact h
theorem sl_madeI (w : World) (T : TypeId) (n : Nat) (h0 : 0 < n) (hn : n ≤ 1000) : Sl fInt.cod (w.alloc (.cells (madeCells #[.int .i64 0] n) T)) (.slice (some ⟨w.heap.size, 0, none⟩) n n) (List.replicate n 0) [w.heap.size] := by
  have h := Sl.lit2 (E := fInt) w (List.replicate n (0 : Int)) T _ (made1 fInt 0 _ rfl n) (fun x hx => by rw [List.eq_of_mem_replicate hx]; show _ ∧ _; decide) (by rw [List.length_replicate]; exact h0) (by rw [List.length_replicate]; omega)
  rw [List.length_replicate] at h
  exact h
def wordL : List ByteArray := [⟨#[97]⟩, ⟨#[99, 99, 99]⟩, ⟨#[49, 50]⟩, ⟨#[45, 53]⟩, ⟨#[115, 110, 111, 119]⟩, ⟨#[]⟩, ⟨#[120, 44, 121]⟩, ⟨#[126]⟩]
def spaceL : List ByteArray := [⟨#[]⟩, ⟨#[32]⟩, ⟨#[32, 32]⟩]
def badL : List ByteArray := [⟨#[10]⟩, ⟨#[97, 127]⟩, ⟨#[9]⟩]
theorem wordL_size {k : ByteArray} (h : k ∈ wordL) : k.size ≤ 4 := by
  have h1 : ∀ x ∈ wordL, x.size ≤ 4 := by decide
  exact h1 _ h
theorem spaceL_size {k : ByteArray} (h : k ∈ spaceL) : k.size ≤ 2 := by
  have h1 : ∀ x ∈ spaceL, x.size ≤ 2 := by decide
  exact h1 _ h
theorem badL_size {k : ByteArray} (h : k ∈ badL) : k.size ≤ 2 := by
  have h1 : ∀ x ∈ badL, x.size ≤ 2 := by decide
  exact h1 _ h
set_option maxRecDepth 100000 in
set_option maxHeartbeats 2000000 in
theorem l30DrawWord_any (n g : Nat) (w : World) (hs : SrcD n g w) (hn : n ≤ 999999990000) :
    Calls Tryz.prog 90 #[.pointer (some ⟨g, 0, none⟩)] w fun e w' => ∃ t : ByteArray, e = .returned (.string t) ∧ t.size ≤ 4 ∧ SrcD (n + 2) g w' ∧ Only [g] w w' := by
  have hg := hs.lt
  have hB : Below w.heap.size w (w.alloc (.cells #[.string ⟨#[97]⟩, .string ⟨#[99, 99, 99]⟩, .string ⟨#[49, 50]⟩, .string ⟨#[45, 53]⟩, .string ⟨#[115, 110, 111, 119]⟩, .string ⟨#[]⟩, .string ⟨#[120, 44, 121]⟩, .string ⟨#[126]⟩] 9)) := (Below.refl _ _).alloc (Nat.le_refl _) _
  go_enter Tryz.func90, Tryz.ntmps90
  go_wp2_with fail
  refine (text_any n g _ wordL [w.heap.size] _ (hs.below hB) (by omega) (slLit w 9 wordL _ rfl (by decide) (by decide) (by decide) _ _ rfl rfl) (by simp; omega) (by decide) (by decide)).mono ?_
  rintro e w1 ⟨t, ht, rfl, hs1, ho1⟩
  go_wp2
  go_ret
  exact ⟨t, rfl, wordL_size ht, hs1, Only.later hB ho1⟩
/-- What l30Draw returns: lines of the call's own, few and short. -/
def DrawnL (n g : Nat) (w : World) (e : Ending) (w' : World) : Prop := ∃ (v : Value) (xs : List ByteArray) (fp : List Nat), e = .returned v ∧ Sl fStr.cod w' v xs fp ∧ (∀ b ∈ fp, w.heap.size ≤ b) ∧ fp.Nodup ∧ xs.length ≤ 201 ∧ (∀ x ∈ xs, x.size ≤ 101) ∧ SrcD (n + 200) g w' ∧ Only [g] w w'
theorem DrawnL.own {n m g : Nat} {w u : World} {v : Value} {L : List ByteArray} {T : TypeId} (ho : Own fStr u w.heap.size T v L) (hl : L.length ≤ 201) (hsz : ∀ x ∈ L, x.size ≤ 101) (hs : SrcD m g u) (hm : m ≤ n + 200) (hor : Only [g] w u) : DrawnL n g w (.returned v) u := by
  obtain ⟨fp, hsl, hlo, hnd, _⟩ := own_fp ho (fun x hx => by have := hsz x hx; show _ ≤ _; omega)
  exact ⟨v, L, fp, rfl, hsl, hlo, hnd, hl, hsz, hs.mono hm, hor⟩
set_option maxRecDepth 100000 in
set_option maxHeartbeats 8000000 in
theorem l30Draw_any (n g : Nat) (w : World) (hs : SrcD n g w) (hn : n ≤ 999999970000) :
    Calls Tryz.prog 49 #[.pointer (some ⟨g, 0, none⟩)] w fun e w' => DrawnL n g w e w' := by
  have hg := hs.lt
  obtain ⟨i0, hi, hz0, hz1, hz2⟩ := info_parts infoStrD
  have hmk : ∀ (W : World) (k : Nat), k ≤ 1000 → (Instr.makeSlice 24 (.int .i64 (k : Int)) (.int .i64 (k : Int))).run Tryz.prog W = .ok (.slice (some ⟨W.heap.size, 0, none⟩) k k) (W.alloc (.cells (madeCells #[.string ⟨#[]⟩] k) 9)) := fun W k hk => by
    have h := run_make_rowN (P := Tryz.prog) 24 9 i0 _ Tryz.underlying24 hi hz0 .i64 .i64 k k (Nat.le_refl _) (by rw [hz2]; omega) (by omega) W
    rw [hz1, Nat.mul_one] at h
    exact h
  have hB0 : Below w.heap.size w (w.alloc (.cells #[] 9)) := (Below.refl _ _).alloc (Nat.le_refl _) _
  go_enter Tryz.func49, Tryz.ntmps49
  go_wp2_with fail
  refine (pick_any n g 8 _ (hs.below hB0) (by omega) (by omega)).mono ?_
  rintro e w1 ⟨q, rfl, ⟨hq0, hq1, _⟩, hs1, ho1⟩
  have hq2 := hq1 (by omega)
  obtain ⟨m, rfl⟩ : ∃ m : Nat, q = m := ⟨q.toNat, by omega⟩
  have hO1 : Only [g] w w1 := Only.later hB0 ho1
  have hown0 : Own fStr w1 w.heap.size 9 (.slice (some ⟨w.heap.size, 0, none⟩) 0 0) [] := Own.only (Own.lit0 fStr w _) ho1 (fun b hb => by simp at hb; subst hb; exact hg)
  go_wp2
  go_loopw [3, 4] (fun v k wr => ∃ (j : Nat) (L : List ByteArray), k = .int .i64 j ∧ j + L.length ≤ 7 ∧ Own fStr wr w.heap.size 9 v L ∧ (∀ x ∈ L, x.size ≤ 101) ∧ SrcD (n + 2 + 6 * L.length) g wr ∧ Only [g] w wr) (fun _ k _ => (intOf k).toNat)
  case atStart => exact ⟨m, [], rfl, by rw [List.length_nil]; omega, hown0, by simp, hs1, hO1⟩
  case round =>
    obtain ⟨j, L, rfl, hj, ho, hsz, hsr, hor⟩ := hrel
    have hgw := hsr.lt
    cases j with
    | zero =>
      go_wp2_with fail
      refine (pick_any _ g 20 _ hsr (by omega) (by omega)).mono ?_
      rintro e w2 ⟨q2, rfl, ⟨hq20, hq21, _⟩, hs2, ho2⟩
      have hq22 := hq21 (by omega)
      have hor2 := hor.trans ho2
      have hsz2 := hor2.size
      have hoW : w2.ownsRow w.heap.size 9 1 u3 L.length (L.flatMap fStr.enc) := Own.only ho ho2 (fun b hb => by simp at hb; subst hb; exact hg)
      by_cases h0 : q2 = 0
      · subst h0
        have hBL : Below w2.heap.size w2 (w2.alloc (.cells #[.string ⟨#[10]⟩, .string ⟨#[97, 127]⟩, .string ⟨#[9]⟩] 9)) := (Below.refl _ _).alloc (Nat.le_refl _) _
        go_wp2_with fail
        refine (text_any _ g _ badL [w2.heap.size] _ (hs2.below hBL) (by omega) (slLit w2 9 badL _ rfl (by decide) (by decide) (by decide) _ _ rfl rfl) (by have := hs2.lt; simp; omega) (by decide) (by decide)).mono ?_
        rintro e w3 ⟨t, ht, rfl, hs3, ho3⟩
        have hor3 := hor2.trans (Only.later hBL ho3)
        have hoW3 : w3.ownsRow w.heap.size 9 1 u3 L.length (L.flatMap fStr.enc) := Own.only (Own.only ho ho2 (fun b hb => by simp at hb; subst hb; exact hg)) (Only.later hBL ho3) (fun b hb => by simp at hb; subst hb; exact hg)
        have hsz3 := hor3.size
        have htz := badL_size ht
        clear hoW ho
        go_wp2_with (at_builtin; refine wpList_append_one rfl _ _ 24 rfl w.heap.size 9 i0 (.string ⟨#[]⟩) 1 16 Tryz.underlying24 hi hz0 hz1 hz2 rfl (by decide) u3 L.length _ rfl hoW3 [.string t] rfl (by intro u hu; rw [List.mem_singleton] at hu; subst hu; rfl) rfl (by omega) (by decide) hsz3 ?_)
        intro v' u hown hbu _ _
        have hoD : Own fStr u w.heap.size 9 v' (L ++ [t]) := Own.push t rfl hown
        clear hown
        have hor4 : Only [g] w u := hor3.then hbu
        have hs4 := hs3.belowB hbu hg
        go_wp2
        go_ret
        exact DrawnL.own hoD (by rw [List.length_append, List.length_singleton]; omega) (fun x hx => by
          rcases List.mem_append.1 hx with hx | hx
          · exact hsz x hx
          · rw [List.mem_singleton] at hx; subst hx; omega) hs4 (by omega) hor4
      · by_cases h1 : q2 = 1
        · subst h1
          have hBL : Below w2.heap.size w2 (w2.alloc (.cells #[.int .i64 200, .int .i64 201] 2)) := (Below.refl _ _).alloc (Nat.le_refl _) _
          clear hoW
          go_wp2_with fail
          refine (among_any _ g _ [200, 201] [w2.heap.size] _ (hs2.below hBL) (by omega) (slLitI w2 2 [200, 201] _ rfl (by decide) (by decide) (by decide) _ _ rfl rfl) (by have := hs2.lt; simp; omega) (by decide) (by decide)).mono ?_
          rintro e w3 ⟨t, ht, rfl, hs3, ho3⟩
          have hor3 := hor2.trans (Only.later hBL ho3)
          obtain ⟨k, rfl⟩ : ∃ k : Nat, t = k := ⟨t.toNat, by simp at ht; omega⟩
          have hk : 200 ≤ k ∧ k ≤ 201 := by simp at ht; omega
          clear ht
          have hmk1 := hmk w3 k (by omega)
          have hBm : Below w3.heap.size w3 (w3.alloc (.cells (madeCells #[.string ⟨#[]⟩] k) 9)) := (Below.refl _ _).alloc (Nat.le_refl _) _
          have hsl := sl_madeS w3 9 k (by omega) (by omega)
          go_wp2
          go_ret
          exact ⟨_, _, _, rfl, hsl, by simp; exact hor3.size, by simp, by rw [List.length_replicate]; omega, fun x hx => by rw [List.eq_of_mem_replicate hx]; decide, (hs3.below hBm).mono (by omega), hor3.then (hBm.mono hor3.size)⟩
        · by_cases h2 : q2 = 2
          · subst h2
            have hBL : Below w2.heap.size w2 (w2.alloc (.cells #[.int .i64 100, .int .i64 101] 2)) := (Below.refl _ _).alloc (Nat.le_refl _) _
            go_wp2_with fail
            refine (among_any _ g _ [100, 101] [w2.heap.size] _ (hs2.below hBL) (by omega) (slLitI w2 2 [100, 101] _ rfl (by decide) (by decide) (by decide) _ _ rfl rfl) (by have := hs2.lt; simp; omega) (by decide) (by decide)).mono ?_
            rintro e w3 ⟨t, ht, rfl, hs3, ho3⟩
            have hor3 := hor2.trans (Only.later hBL ho3)
            have hoW3 : w3.ownsRow w.heap.size 9 1 u3 L.length (L.flatMap fStr.enc) := Own.only (Own.only ho ho2 (fun b hb => by simp at hb; subst hb; exact hg)) (Only.later hBL ho3) (fun b hb => by simp at hb; subst hb; exact hg)
            obtain ⟨k, rfl⟩ : ∃ k : Nat, t = k := ⟨t.toNat, by simp at ht; omega⟩
            have hk : k ≤ 101 := by simp at ht; omega
            clear ht hoW ho
            go_wp2
            go_loopw [7] (fun s wr => ∃ t : ByteArray, s = .string t ∧ t.size ≤ k ∧ wr = w3) (fun s _ => k - strOf0 s)
            case atStart => exact ⟨⟨#[]⟩, rfl, Nat.zero_le _, rfl⟩
            case round =>
              obtain ⟨t, rfl, htk, rfl⟩ := hrel
              by_cases hlt : t.size < k
              · go_wp2
                go_roundw
                case rel => exact ⟨t ++ ⟨#[121]⟩, rfl, by rw [ByteArray.size_append]; show _ + 1 ≤ _; omega, trivial⟩
                case measure =>
                  show k - (t ++ ⟨#[121]⟩).size < k - t.size
                  rw [ByteArray.size_append]
                  show k - (t.size + 1) < _
                  omega
              · have htz : t.size ≤ 101 := by omega
                have hsz3 := hor3.size
                go_wp2_with (at_builtin; refine wpList_append_one rfl _ _ 24 rfl w.heap.size 9 i0 (.string ⟨#[]⟩) 1 16 Tryz.underlying24 hi hz0 hz1 hz2 rfl (by decide) u3 L.length _ rfl hoW3 [.string t] rfl (by intro u hu; rw [List.mem_singleton] at hu; subst hu; rfl) rfl (by omega) (by decide) hsz3 ?_)
                intro v' u hown hbu _ _
                have hoD : Own fStr u w.heap.size 9 v' (L ++ [t]) := Own.push t rfl hown
                clear hown
                have hor4 : Only [g] w u := hor3.then hbu
                have hs4 := hs3.belowB hbu hg
                go_wp2
                go_ret
                exact DrawnL.own hoD (by rw [List.length_append, List.length_singleton]; omega) (fun x hx => by
                  rcases List.mem_append.1 hx with hx | hx
                  · exact hsz x hx
                  · rw [List.mem_singleton] at hx; subst hx; omega) hs4 (by omega) hor4
          · have e0 : (q2 == 0) = false := by rw [beq_eq_false_iff_ne]; exact h0
            have e1 : (q2 == 1) = false := by rw [beq_eq_false_iff_ne]; exact h1
            have e2 : (q2 == 2) = false := by rw [beq_eq_false_iff_ne]; exact h2
            have ho2' := Own.only ho ho2 (fun b hb => by simp at hb; subst hb; exact hg)
            clear h0 h1 h2
            go_wp2
            go_ret
            exact DrawnL.own ho2' (by omega) hsz hs2 (by omega) hor2
    | succ j =>
      go_wp2_with fail
      refine (l30DrawWord_any _ g _ hsr (by omega)).mono ?_
      rintro e w2 ⟨t1, rfl, ht1, hs2, ho2⟩
      have hBL : Below w2.heap.size w2 (w2.alloc (.cells #[.string ⟨#[]⟩, .string ⟨#[32]⟩, .string ⟨#[32, 32]⟩] 9)) := (Below.refl _ _).alloc (Nat.le_refl _) _
      go_wp2_with fail
      refine (text_any _ g _ spaceL [w2.heap.size] _ (hs2.below hBL) (by omega) (slLit w2 9 spaceL _ rfl (by decide) (by decide) (by decide) _ _ rfl rfl) (by have := hs2.lt; simp; omega) (by decide) (by decide)).mono ?_
      rintro e w3 ⟨t2, ht2, rfl, hs3, ho3⟩
      have ht2z := spaceL_size ht2
      have ht12 : (t1 ++ t2).size ≤ 6 := by rw [ByteArray.size_append]; omega
      go_wp2_with fail
      refine (l30DrawWord_any _ g _ hs3 (by omega)).mono ?_
      rintro e w4 ⟨t3, rfl, ht3, hs4, ho4⟩
      have ht123 : (t1 ++ t2 ++ t3).size ≤ 101 := by rw [ByteArray.size_append]; omega
      have hor4 := ((hor.trans ho2).trans (Only.later hBL ho3)).trans ho4
      have hoW : w4.ownsRow w.heap.size 9 1 u3 L.length (L.flatMap fStr.enc) := Own.only (Own.only (Own.only ho ho2 (fun b hb => by simp at hb; subst hb; exact hg)) (Only.later hBL ho3) (fun b hb => by simp at hb; subst hb; exact hg)) ho4 (fun b hb => by simp at hb; subst hb; exact hg)
      have hsz2 := hor4.size
      clear ho
      go_wp2_with (at_builtin; refine wpList_append_one rfl _ _ 24 rfl w.heap.size 9 i0 (.string ⟨#[]⟩) 1 16 Tryz.underlying24 hi hz0 hz1 hz2 rfl (by decide) u3 L.length _ rfl hoW [.string (t1 ++ t2 ++ t3)] rfl (by intro u hu; rw [List.mem_singleton] at hu; subst hu; rfl) rfl (by omega) (by decide) hsz2 ?_)
      intro v' u hown hbu _ _
      have hoD : Own fStr u w.heap.size 9 v' (L ++ [(t1 ++ t2 ++ t3)]) := Own.push (t1 ++ t2 ++ t3) rfl hown
      clear hown
      have hor5 : Only [g] w u := hor4.then hbu
      have hs5 := hs4.belowB hbu hg
      go_wp2
      go_roundw
      case rel => exact ⟨j, L ++ [t1 ++ t2 ++ t3], by go_num, by rw [List.length_append, List.length_singleton]; omega, hoD, fun x hx => by
          rcases List.mem_append.1 hx with hx | hx
          · exact hsz x hx
          · rw [List.mem_singleton] at hx; subst hx; exact ht123, hs5.mono (by rw [List.length_append, List.length_singleton]; omega), hor5⟩
      case measure => simp [intOf]
def headL : List ByteArray := [⟨#[104, 101, 97, 100]⟩, ⟨#[]⟩, ⟨#[10]⟩, ⟨#[80, 97, 103, 101]⟩]
def findL : List ByteArray := [⟨#[97]⟩, ⟨#[99]⟩, ⟨#[49, 50]⟩, ⟨#[99, 99]⟩, ⟨#[]⟩, ⟨#[32]⟩, ⟨#[115, 110, 111, 119]⟩, ⟨#[113]⟩]
theorem headL_size {k : ByteArray} (h : k ∈ headL) : k.size ≤ 4 := by
  have h1 : ∀ x ∈ headL, x.size ≤ 4 := by decide
  exact h1 _ h
theorem findL_size {k : ByteArray} (h : k ∈ findL) : k.size ≤ 4 := by
  have h1 : ∀ x ∈ findL, x.size ≤ 4 := by decide
  exact h1 _ h
/-- Lines that are drawn: the call's own, few and short. -/
def LinesD (w w' : World) (v : Value) (xs : List ByteArray) : Prop := ∃ fp, Sl fStr.cod w' v xs fp ∧ (∀ b ∈ fp, w.heap.size ≤ b) ∧ fp.Nodup ∧ xs.length ≤ 201 ∧ (∀ x ∈ xs, x.size ≤ 101) ∧ Below w.heap.size w w'
set_option maxRecDepth 100000 in
set_option maxHeartbeats 2000000 in
theorem DrawSortLines_any (v : Value) (xs : List UInt8) (fp : List Nat) (w : World) (hx : Sl fByte.cod w v xs fp) :
    Calls Tryz.prog 20 #[v] w fun e w' => ∃ (y : Value) (ys : List ByteArray), e = .returned y ∧ LinesD w w' y ys := by
  go_enter Tryz.func20, Tryz.ntmps20
  go_wp2_with fail
  refine (l00From_any _ _ _ _ hx).mono ?_
  rintro e w1 ⟨rfl, hs1, hb1⟩
  have hsz := hb1.size
  go_wp2_with fail
  refine (l30Draw_any _ _ _ hs1 (by omega)).mono ?_
  rintro e w2 ⟨y, ys, fq, rfl, hsl, hlo, hnd, hl, hz, hs2, ho2⟩
  have hg : ∀ b ∈ fq, b ∉ [w.heap.size] := fun b hb => by have := hlo b hb; have := hs1.lt; simp; omega
  have hsz2 := ho2.size
  obtain ⟨g, hG⟩ : ∃ g, g = w.heap.size := ⟨_, rfl⟩
  have hof : ∀ b ∈ [g], w.heap.size ≤ b := by simp [hG]
  simp only [← hG] at hs1 hs2 ho2 hg ⊢
  clear hG
  obtain ⟨A, cap, rfl, _, _⟩ := hsl.form
  go_wp2
  go_ret
  exact ⟨_, ys, rfl, fq, hsl, fun b hb => Nat.le_trans hsz (hlo b hb), hnd, hl, hz, hb1.trans (ho2.below hsz hof)⟩

end Go.Proofs.YtgnbhcgagdfaiaaGreatDoor

namespace Go.Proofs.YtgnbhcgagdfaiaaGreatDoor
open Go.RowKit
set_option linter.unusedVariables false

set_option maxRecDepth 100000 in
set_option maxHeartbeats 400000 in
theorem b10Long_any (v : Value) (xs : List UInt8) (fp : List Nat) (w : World) (hx : Sl fByte.cod w v xs fp) :
    Calls Tryz.prog 14 #[v] w fun e w' => e = .returned (.bool (decide (1048576 < xs.length))) ∧ w = w' := by
  obtain ⟨A, cap, rfl, hlen, hcap⟩ := hx.form
  go_enter Tryz.func14, Tryz.ntmps14
  go_wp2
  go_ret
  refine ⟨?_, rfl⟩
  show Ending.returned (.bool _) = _
  congr 2
  rw [Bool.eq_iff_iff]
  simp <;> omega
/-- The number at index i lies in 0 .. n-1, and is greater than the one before it. -/
def riseAt (xs : List Int) (n : Int) (i : Nat) : Bool := inB (xs.getD i 0) 0 (n - 1) && (i == 0 || decide (xs.getD (i - 1) 0 < xs.getD i 0))
def risesB (xs : List Int) (n : Int) : Bool := allIdx (riseAt xs n) xs.length
theorem riseAt_in {xs : List Int} {n : Int} {k : Nat} (h : k < xs.length) : riseAt xs n k = (inB xs[k] 0 (n - 1) && (k == 0 || decide (xs.getD (k - 1) 0 < xs[k]))) := by
  unfold riseAt; rw [getD_of_lt h]
theorem riseAt_neg {xs : List Int} {n : Int} {k : Nat} (h : k < xs.length) (h1 : xs[k] < 0) : riseAt xs n k = false := by
  rw [riseAt_in h]; unfold inB; rw [decide_eq_false (by omega)]; rfl
theorem riseAt_far {xs : List Int} {n : Int} {k : Nat} (h : k < xs.length) (h1 : n ≤ xs[k]) : riseAt xs n k = false := by
  rw [riseAt_in h]; unfold inB; rw [decide_eq_false (by omega : ¬ xs[k] ≤ n - 1)]; simp
theorem riseAt_low {xs : List Int} {n : Int} {m : Nat} (h : m + 1 < xs.length) (h1 : xs[m + 1] ≤ xs[m]) : riseAt xs n (m + 1) = false := by
  rw [riseAt_in h, show m + 1 - 1 = m from rfl, getD_of_lt (by omega : m < xs.length), decide_eq_false (by omega)]
  simp
theorem riseAt_zero {xs : List Int} {n : Int} (h : 0 < xs.length) (h0 : (0 : Int) ≤ xs[0]) (h1 : xs[0] < n) : riseAt xs n 0 = true := by
  rw [riseAt_in h]; unfold inB; rw [decide_eq_true h0, decide_eq_true (by omega)]; rfl
theorem riseAt_ok {xs : List Int} {n : Int} {m : Nat} (h : m + 1 < xs.length) (h0 : (0 : Int) ≤ xs[m + 1]) (h1 : xs[m + 1] < n) (h2 : xs[m] < xs[m + 1]) : riseAt xs n (m + 1) = true := by
  rw [riseAt_in h, show m + 1 - 1 = m from rfl, getD_of_lt (by omega : m < xs.length), decide_eq_true h2]
  unfold inB; rw [decide_eq_true h0, decide_eq_true (by omega)]; simp
end Go.Proofs.YtgnbhcgagdfaiaaGreatDoor

namespace Go.Proofs.YtgnbhcgagdfaiaaGreatDoor
open Go.RowKit Go.WideShapes Go.ChangeShapes Go.ChangeAt

theorem Tryz.own : ownKnob Tryz.prog.godebug = none := by kernel_rfl
theorem Tryz.laidOut : laidOutB Tryz.prog = true := by kernel_rfl

section
variable {H : Type} {enc : TypeId × Value → H} {P : Program}
theorem post_of_below {f : Func} {s : ChangeSpec} {apart fresh handsOn again : Bool} {W W' : World} {args : Array Value} {v : Value} {ds gs : List (DataW H)} {before pa pv : List MemPlace}
    (hW : DataW.Whole enc P f.params.toList s.vars apart W args.toList ds gs before)
    (hres : ∀ (b : Nat) (sp : Nat → Bool) (hd : Bool), DataW.TrodAll enc P W' b sp hd f.resultTypes.toList (v.resultList f.resultTypes.size) (s.fn H (ds ++ gs)).results [])
    (hargs : ∀ sp : Nat → Bool, (∀ p ∈ before, sp p.block = true) → DataW.TrodAll enc P W' 0 sp true f.params.toList args.toList (s.fn H (ds ++ gs)).args pa)
    (hvars : ∀ sp : Nat → Bool, (∀ p ∈ before, sp p.block = true) → DataW.TrodVars enc P W' sp s.vars (s.fn H (ds ++ gs)).vars pv)
    (hps : before = pa ++ pv) (hb : Below W.heap.size W W')
    (hok : ∀ (j : Nat) (t : TypeId) (r : Value), f.resultTypes[j]? = some t → (v.resultList f.resultTypes.size)[j]? = some r → Value.okWide P W' .any 0 t r) :
    s.post enc P f apart fresh handsOn again W args v W' := by
  have hlt : ∀ p ∈ before, p.block < W.heap.size := fun p hp => hW.lt p hp
  have hold : ∀ p ∈ before, (fun b => decide (b < W.heap.size)) p.block = true := fun p hp => by simpa using hlt p hp
  refine ⟨ds, gs, before, [], pa, pv, hW, hres _ _ _, hargs _ hold, hvars _ hold, World.keptBut_mono (fun p hp => ⟨hp, ?_⟩) (hb.frame (· ∈ before)), fun _ => ?_⟩
  · rw [hps, List.mem_append] at hp
    exact Or.inr hp
  · obtain ⟨_, _, _, _, _, hz, hn⟩ := hW
    refine ⟨hok, _, _, ([] ++ pa) ++ pv, ⟨[] ++ pa, pv, trodAll_append (hargs _ (fun _ _ => rfl)) (hres _ _ _), hvars _ (fun _ _ => rfl), rfl, ?_, ?_⟩, ?_⟩
    · intro b off hp
      have hin : MemPlace.cell b off ∈ before := by rw [hps]; simpa using hp
      rw [hb.frozen (hlt _ hin)]
      exact hz b off hin
    · intro ha
      have := hn ha
      rw [hps] at this
      simpa using this
    · intro p hp _
      rw [hps]
      simpa using hp
end

theorem trodAll_below {H : Type} {enc : TypeId × Value → H} {P : Program} (hl : laidOutB P = true) {W W' : World} (hb : Below W.heap.size W W') {sp : Nat → Bool} :
    ∀ (ts : List TypeId) (vs : List Value) (ds : List (DataW H)) (ps : List MemPlace), (∀ t ∈ ts, P.readableRec t = true ∧ t < P.types.size) → DataW.TrodAll enc P W 0 (fun _ => true) true ts vs ds ps → (∀ x ∈ ps, x.block < W.heap.size) → (∀ x ∈ ps, sp x.block = true) → DataW.TrodAll enc P W' 0 sp true ts vs ds ps
  | [], [], [], ps, _, h, _, _ => h
  | t :: ts, v :: vs, d :: ds, ps, hr, h, hlt, hsp => by
    obtain ⟨p, q, h1, h2, rfl⟩ := h
    obtain ⟨r1, r2⟩ := hr t (by simp)
    exact ⟨p, q, WideElems.Trod_stays hl r1 r2 h1 (fun x hx => hb.same (hlt x (by simp [hx]))) (fun x hx => hsp x (by simp [hx])), trodAll_below hl hb ts vs ds q (fun t ht => hr t (by simp [ht])) h2 (fun x hx => hlt x (by simp [hx])) (fun x hx => hsp x (by simp [hx])), rfl⟩
  | [], _ :: _, _, _, _, h, _, _ => by cases h
  | [], [], _ :: _, _, _, h, _, _ => by cases h
  | _ :: _, [], _, _, _, h, _, _ => by cases h
  | _ :: _, _ :: _, [], _, _, h, _, _ => by cases h

theorem trodAll_len {H : Type} {enc : TypeId × Value → H} {P : Program} {W : World} {b : Nat} {sp : Nat → Bool} {hd : Bool} : ∀ (ts : List TypeId) (vs : List Value) (ds : List (DataW H)) (ps : List MemPlace), DataW.TrodAll enc P W b sp hd ts vs ds ps → ds.length = ts.length
  | [], [], [], _, _ => rfl
  | _ :: ts, _ :: vs, _ :: ds, _, h => by obtain ⟨p, q, h1, h2, rfl⟩ := h; simp [trodAll_len ts vs ds q h2]
  | [], _ :: _, _, _, h => by cases h
  | [], [], _ :: _, _, h => by cases h
  | _ :: _, [], _, _, h => by cases h
  | _ :: _, _ :: _, [], _, h => by cases h

set_option maxRecDepth 100000 in
theorem law_lifted {F : FuncId} {fn : Func} {s : ChangeSpec} (os : Os) (started : os.Started) (H : Type) (enc : TypeId × Value → H)
    (hfn : Tryz.checked.prog.funcs[F]? = some fn) (noInit : Tryz.checked.prog.inits.idxOf? F = none)
    (witness : ∃ (w : World) (tape : Tape) (i : Input), w.os = os ∧ (w.forCall tape i).Shaped Tryz.checked.prog ∧ i.vars = [] ∧ Input.okWide Tryz.checked.prog (w.forCall tape i) .any w.heap.size F i ∧
      s.pre6 enc Tryz.checked.prog fn [] false (w.forCall tape i).memory i.args ∧ ({} : Assume).holds Tryz.checked.prog (lone (Frame.enter Tryz.checked.prog F i.args .normal) [] (w.forCall tape i)))
    (hs : s.vars = []) (hres : fn.resultTypes = #[4]) (hread : ∀ t ∈ fn.params.toList, Tryz.prog.readableRec t = true ∧ t < Tryz.prog.types.size)
    (hspec : ∀ ds : List (DataW H), ds.length = fn.params.toList.length → s.fn H ds = { results := [.lit (.bool true)], args := ds })
    (walk : ∀ (W : World) (args : Array Value) (ds : List (DataW H)) (p : List MemPlace), (∀ (j : Nat) t v, fn.params[j]? = some t → args[j]? = some v → ∃ base, Value.okWide Tryz.prog W .any base t v) →
      DataW.TrodAll enc Tryz.prog W 0 (fun _ => true) true fn.params.toList args.toList ds p → W.noneFrozen p → Calls Tryz.prog F args W fun e W' => e = .returned (.bool true) ∧ Below W.heap.size W W') :
    ReturnsInHanded {} Tryz.checked os F .any (s.pre6 enc Tryz.checked.prog fn [] false) (s.post enc Tryz.checked.prog fn false true false false) := by
  refine returnsInHanded_of_change (C := Tryz.checked) Tryz.own started noInit hfn witness ?_
  intro W base args ds gs before hval hW hcnd _
  have hW' := hW
  obtain ⟨p, q, hA, hV, hpq, hfz, hnd⟩ := hW
  rw [hs] at hV
  obtain ⟨rfl, rfl⟩ := trodVars_none hV
  rw [List.append_nil] at hpq
  subst hpq
  refine (walk W args ds _ (fun j t v h1 h2 => ⟨base, hval j t v h1 h2⟩) hA hfz).mono fun e W' ⟨he, hb⟩ => ?_
  subst he
  have hsp : s.fn H (ds ++ []) = { results := [.lit (.bool true)], args := ds } := by
    rw [List.append_nil]; exact hspec ds (trodAll_len _ _ _ _ hA)
  have hlt := fun x hx => hW'.lt x hx
  refine ⟨_, rfl, post_of_below (pa := before) (pv := []) hW' (fun b sp hd => ?_) (fun sp h => ?_) (fun sp h => ?_) (by simp) hb ?_⟩
  · rw [hsp, hres]; exact trodAll_mk1 (shut_bool Tryz.underlying4 _)
  · rw [hsp]; exact trodAll_below Tryz.laidOut hb _ _ _ _ hread hA hlt h
  · rw [hsp, hs]; rfl
  · rw [hres]; exact fun j t r h1 h2 => ok_one (f := fn) hres rfl (okWide_bool_mk Tryz.underlying4 _) j t r (by rw [hres]; exact h1) (by rw [hres]; exact h2)

end Go.Proofs.YtgnbhcgagdfaiaaGreatDoor

namespace Go.Proofs.YtgnbhcgagdfaiaaGreatDoor
open Go.RowKit Go.WideShapes Go.ChangeShapes Go.ChangeAt

set_option maxRecDepth 100000 in
theorem law_liftedS {F : FuncId} {fn : Func} {s : ChangeSpec} (os : Os) (started : os.Started) (H : Type) (enc : TypeId × Value → H)
    (hfn : Tryz.checked.prog.funcs[F]? = some fn) (noInit : Tryz.checked.prog.inits.idxOf? F = none)
    (witness : ∃ (w : World) (tape : Tape) (i : Input), w.os = os ∧ (w.forCall tape i).Shaped Tryz.checked.prog ∧ i.vars = [] ∧ Input.okWide Tryz.checked.prog (w.forCall tape i) .any w.heap.size F i ∧
      s.pre6 enc Tryz.checked.prog fn [] false (w.forCall tape i).memory i.args ∧ ({} : Assume).holds Tryz.checked.prog (lone (Frame.enter Tryz.checked.prog F i.args .normal) [] (w.forCall tape i)))
    (hs : s.vars = []) (hres : fn.resultTypes = #[4]) (hread : ∀ t ∈ fn.params.toList, Tryz.prog.readableRec t = true ∧ t < Tryz.prog.types.size)
    (hspec : ∀ ds : List (DataW H), ds.length = fn.params.toList.length → s.fn H ds = { results := [.lit (.bool true)], args := ds })
    (walk : ∀ (W : World) (args : Array Value) (ds : List (DataW H)) (p : List MemPlace), W.ShapedOpen Tryz.prog → (∀ (j : Nat) t v, fn.params[j]? = some t → args[j]? = some v → ∃ base, Value.okWide Tryz.prog W .any base t v) →
      DataW.TrodAll enc Tryz.prog W 0 (fun _ => true) true fn.params.toList args.toList ds p → W.noneFrozen p → Calls Tryz.prog F args W fun e W' => e = .returned (.bool true) ∧ Below W.heap.size W W') :
    ReturnsInHanded {} Tryz.checked os F .any (s.pre6 enc Tryz.checked.prog fn [] false) (s.post enc Tryz.checked.prog fn false true false false) := by
  refine returnsInHanded_of_change_shaped (C := Tryz.checked) Tryz.own started noInit hfn witness ?_
  intro W base args ds gs before hval hW hcnd _ hsh _
  have hW' := hW
  obtain ⟨p, q, hA, hV, hpq, hfz, hnd⟩ := hW
  rw [hs] at hV
  obtain ⟨rfl, rfl⟩ := trodVars_none hV
  rw [List.append_nil] at hpq
  subst hpq
  refine (walk W args ds _ hsh (fun j t v h1 h2 => ⟨base, hval j t v h1 h2⟩) hA hfz).mono fun e W' ⟨he, hb⟩ => ?_
  subst he
  have hsp : s.fn H (ds ++ []) = { results := [.lit (.bool true)], args := ds } := by
    rw [List.append_nil]; exact hspec ds (trodAll_len _ _ _ _ hA)
  have hlt := fun x hx => hW'.lt x hx
  refine ⟨_, rfl, post_of_below (pa := before) (pv := []) hW' (fun b sp hd => ?_) (fun sp h => ?_) (fun sp h => ?_) (by simp) hb ?_⟩
  · rw [hsp, hres]; exact trodAll_mk1 (shut_bool Tryz.underlying4 _)
  · rw [hsp]; exact trodAll_below Tryz.laidOut hb _ _ _ _ hread hA hlt h
  · rw [hsp, hs]; rfl
  · rw [hres]; exact fun j t r h1 h2 => ok_one (f := fn) hres rfl (okWide_bool_mk Tryz.underlying4 _) j t r (by rw [hres]; exact h1) (by rw [hres]; exact h2)

/-- A variable of the library's own holds some number. -/
theorem maxLen_cell {w : World} (h : w.ShapedOpen Tryz.prog) : ∃ m, w.cell? ⟨1, 0, none⟩ = some (.int .i64 m) :=
  Go.Proofs.cell_of_shapedOpen_int (zero := #[.int .i64 0]) (t := 3) h (of_decide_eq_true (by kernel_rfl)) (by kernel_rfl) rfl (by kernel_rfl) (by kernel_rfl) Tryz.underlying3
theorem cell_below {w w' : World} {a : Addr} {v : Value} (h : Below w.heap.size w w') (c : w.cell? a = some v) : w'.cell? a = some v := (h.cell (block_lt_of_cell c)).trans c
end Go.Proofs.YtgnbhcgagdfaiaaGreatDoor
