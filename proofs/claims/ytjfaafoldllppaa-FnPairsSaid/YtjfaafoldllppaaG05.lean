/- Parts of the proof: Ru, Cq, Cv, Cw. -/
import Derived.Test.YtjfaafoldllppaaG04
import Derived.Test.YtjfaafoldllppaaG03
import Derived.Test.YtjfaafoldllppaaG01
import Derived.Deep.CutRange
import Derived.Deep.MidRow
import Derived.Deep.AppendLies
import Derived.Test.YtjfaafoldllppaaG02
namespace Go.Proofs.Ytjfaafoldllppaa
open Go.RowKit
set_option linter.unusedVariables false

def gpD : DGroup := ⟨⟨#[]⟩, 0, 0, 0, 0, 0, 0⟩
def wOne (xs : List DGroup) (lvl : Int) (i : Nat) : Int := if goesB (xs.getD i gpD) lvl then (xs.getD i gpD).people else 0
def wTwo (xs : List DGroup) (lvl : Int) (i k : Nat) : Int := if groupB (sumG (xs.getD i gpD) (xs.getD k gpD) (xs.getD i gpD).id) && goesB (sumG (xs.getD i gpD) (xs.getD k gpD) (xs.getD i gpD).id) lvl then (sumG (xs.getD i gpD) (xs.getD k gpD) (xs.getD i gpD).id).people else 0
def SmallN (n : Nat) (P : List (Nat × Nat)) : Prop := P.length ≤ n ∧ ∀ q ∈ P, q.1 < n ∧ q.2 < n
theorem SmallN.small {n : Nat} {P : List (Nat × Nat)} (h : SmallN n P) (hn : n ≤ 8) : Small P := ⟨Nat.le_trans h.1 (by omega), fun q hq => by have := h.2 q hq; omega⟩
/-- What a round of the copy reads. -/
structure Row3 (w : World) (g gp k : Nat) (a b c : Value) : Prop where
  c4 : w.cell? ⟨g, 4, none⟩ = some a
  c3 : w.cell? ⟨g, 3, none⟩ = some b
  cp : w.cell? ⟨gp, k, none⟩ = some c
theorem Row3.ltg {w : World} {g gp k : Nat} {a b c : Value} (h : Row3 w g gp k a b c) : g < w.heap.size := block_lt_of_cell h.c4
theorem Row3.ltp {w : World} {g gp k : Nat} {a b c : Value} (h : Row3 w g gp k a b c) : gp < w.heap.size := block_lt_of_cell h.cp
theorem Row3.keep {w w' : World} {g gp k : Nat} {a b c : Value} (h : Row3 w g gp k a b c) (h1 : w'.heap[g]? = w.heap[g]?) (h2 : w'.heap[gp]? = w.heap[gp]?) : Row3 w' g gp k a b c :=
  ⟨(World.cell?_of_block (a := ⟨g, 4, none⟩) h1).trans h.c4, (World.cell?_of_block (a := ⟨g, 3, none⟩) h1).trans h.c3, (World.cell?_of_block (a := ⟨gp, k, none⟩) h2).trans h.cp⟩
theorem Row3.below {w w' : World} {g gp k : Nat} {a b c : Value} (h : Row3 w g gp k a b c) (hb : Below w.heap.size w w') : Row3 w' g gp k a b c := h.keep (hb.block g h.ltg) (hb.block gp h.ltp)
theorem own_low {α : Type} {E : Flat α} {w : World} {b B : Nat} {e : TypeId} {v : Value} {L : List α} (h : Own E w b e v L) (hb : B ≤ b) : Own E w B e v L := by
  obtain ⟨h1, h2⟩ := h
  refine ⟨h1, ?_⟩
  rcases h2 with h2 | ⟨g, cap, cur, hv, hg, r⟩
  · exact .inl h2
  · exact .inr ⟨g, cap, cur, hv, Nat.le_trans hb hg, r⟩
def updB (P : List (Nat × Nat)) (people : Int) (S : Sr) : Bool := decide (S.most < people) || (decide (people = S.most) && ltP P S.best)
theorem leafF_upd {P : List (Nat × Nat)} {people : Int} {S : Sr} : leafF P people S = if updB P people S = true then ⟨P, people, S.c⟩ else S := by
  unfold leafF updB
  simp only [Bool.or_eq_true, Bool.and_eq_true, decide_eq_true_eq]
/-- The searcher's memory, its rows wherever they lie. -/
def SM (w : World) (B g gu : Nat) (lv : Value) (lvl bud : Int) (U : List Bool) (P : List (Nat × Nat)) (S : Sr) : Prop :=
  ∃ vp vb Vp Gp Vb Gb, SMem w B g gu (boxS lv lvl gu U.length bud S.c S.most) U P S.best vp vb Vp Gp Vb Gb
/-- What every state of the search keeps. -/
def SrOk (n : Nat) (bud : Int) (S : Sr) : Prop := SmallN n S.best ∧ (-1 ≤ S.c ∧ S.c ≤ bud) ∧ (-1 ≤ S.most ∧ S.most ≤ 100000)
theorem belowSetCells {B g : Nat} (hg : B ≤ g) : ∀ (vs : List Value) (o : Nat) (w : World), Below B w (w.setCells g o vs)
  | [], _, w => Below.refl B w
  | v :: r, o, w => ((Below.refl B w).setCell (p := ⟨g, o, none⟩) hg v).trans (belowSetCells hg r (o + 1) _)
theorem isSome_of {o : Option Value} {v : Value} (h : o = some v) : o.isSome = true := by rw [h]; rfl
theorem BxG.there {w : World} {g : Nat} (h : BxG w g) : w.there g 0 7 := fun j hj => by
  have hc : j = 0 ∨ j = 1 ∨ j = 2 ∨ j = 3 ∨ j = 4 ∨ j = 5 ∨ j = 6 := by omega
  rcases hc with rfl | rfl | rfl | rfl | rfl | rfl | rfl
  · exact ⟨isSome_of h.d0, h.z0⟩
  · exact ⟨isSome_of h.d1, h.z1⟩
  · exact ⟨isSome_of h.d2, h.z2⟩
  · exact ⟨isSome_of h.d3, h.z3⟩
  · exact ⟨isSome_of h.d4, h.z4⟩
  · exact ⟨isSome_of h.d5, h.z5⟩
  · exact ⟨isSome_of h.d6, h.z6⟩
theorem PGroup.stored {w : World} {g : Nat} (h : BxG w g) (x : DGroup) :
    PGroup (w.setCells g 0 [.string x.id, .int .i64 x.people, .int .i64 x.guides, .int .i64 x.beacons, .int .i64 x.shovels, .int .i64 x.probes, .int .i64 x.skill]) g 0 x := by
  have hr := World.rangeAt_setCells_same w g 0 [.string x.id, .int .i64 x.people, .int .i64 x.guides, .int .i64 x.beacons, .int .i64 x.shovels, .int .i64 x.probes, .int .i64 x.skill] h.there
  exact ⟨hr 0 _ rfl, hr 1 _ rfl, hr 2 _ rfl, hr 3 _ rfl, hr 4 _ rfl, hr 5 _ rfl, hr 6 _ rfl⟩
theorem set_back {U : List Bool} {k : Nat} (hk : k < U.length) (h : U.getD k false = false) : (U.set k true).set k false = U := by
  rw [List.set_set]
  have e : U[k] = false := by rw [getD_of_lt hk] at h; exact h
  exact (congrArg (U.set k) e.symm).trans (List.set_getElem_self hk)
theorem SmallN.push {n i k : Nat} {P : List (Nat × Nat)} (h : SmallN n P) (hl : P.length + 1 ≤ n) (hi : i < n) (hk : k < n) : SmallN n (P ++ [(i, k)]) :=
  ⟨by rw [List.length_append]; exact hl, fun q hq => by
    rcases List.mem_append.1 hq with hq | hq
    · exact h.2 q hq
    · rw [List.mem_singleton] at hq; subst hq; exact ⟨hi, hk⟩⟩
theorem own_lit2 {w : World} {B : Nat} (hb : B ≤ w.heap.size) (a b : Int) (e : TypeId) : Own fInt (w.alloc (.cells #[.int .i64 a, .int .i64 b] e)) B e (.slice (some ⟨w.heap.size, 0, none⟩) 2 2) [a, b] :=
  World.ownsRow_lit (e := e) (size := fInt.n) w #[.int .i64 a, .int .i64 b] 2 hb (by decide) rfl
theorem infoRowI : (Try.prog.info? 50).map (fun i => (i.zero, i.size, i.bytes)) = some (some (.slice none 0 0), 1, 24) := by kernel_rfl
set_option maxRecDepth 100000 in
set_option maxHeartbeats 16000000 in
theorem specRun_any (xs : List DGroup) (hv : groupsB xs = true) (B g gu : Nat) (lv : Value) (fpl : List Nat) (hfl : ∀ b ∈ fpl, b < B) (lvl bud : Int) (hbud : 0 ≤ bud ∧ bud ≤ 1000000000000) (m : Nat) :
    ∀ (U : List Bool) (P : List (Nat × Nat)) (S : Sr) (people : Int) (w : World), m ≤ xs.length → U.length = xs.length → SmallN xs.length P → P.length + m ≤ xs.length → SmallN xs.length S.best → -1 ≤ S.c → S.c ≤ bud → 0 ≤ people → people + 1000 * (m : Int) ≤ 100000 → -1 ≤ S.most ∧ S.most ≤ 100000 →
      Sl fGroup.cod w lv xs fpl → SM w B g gu lv lvl bud U P S →
    Calls Try.prog 28 #[.pointer (some ⟨g, 0, none⟩), .int .i64 ((xs.length - m : Nat) : Int), .int .i64 people] w fun e w' =>
      e = .returned (.tuple #[]) ∧ SM w' B g gu lv lvl bud U P (visitF (wOne xs lvl) (wTwo xs lvl) xs.length m U P people S) ∧ SrOk xs.length bud (visitF (wOne xs lvl) (wTwo xs lvl) xs.length m U P people S) ∧ Below B w w' := by
  have hn8 := groupsB_len hv
  obtain ⟨i1, hi1, hy0, hy1, hy2⟩ := info_parts infoRowI
  induction m using Nat.strongRecOn with | _ m ih => ?_
  intro U Pp S people w hm hU hP hPm hQ hc0 hcb hp0 hp1 hmo hlist hM
  obtain ⟨vp, vb, Vp, Gp, Vb, Gb, hS⟩ := hM
  have hgl := hS.bx.lt
  have c0 : w.cell? ⟨g, 0, none⟩ = some lv := hS.bx.cell 0 _ rfl
  obtain ⟨A, cap, rfl, hle, hca⟩ := hlist.form
  have c2 : w.cell? ⟨g, 2, none⟩ = some (.slice (some ⟨gu, 0, none⟩) U.length U.length) := hS.bx.cell 2 _ rfl
  go_enter Try.func28, Try.ntmps28
  go_wp2
  go_loop [1] (fun a => ∃ m' : Nat, m' ≤ m ∧ a = .int .i64 ((xs.length - m' : Nat) : Int) ∧ Hid (visitF (wOne xs lvl) (wTwo xs lvl) xs.length m U Pp people S = visitF (wOne xs lvl) (wTwo xs lvl) xs.length m' U Pp people S)) (fun a => xs.length - (intOf a).toNat)
  case atStart => exact ⟨m, Nat.le_refl _, rfl, rfl⟩
  case round =>
    obtain ⟨m', hm', rfl, HV⟩ := hrel
    cases m' with
    | zero =>
      simp only [Nat.sub_zero]
      have hsP := hP.small hn8
      have hsQ := hQ.small hn8
      have c5 : w.cell? ⟨g, 5, none⟩ = some (.int .i64 S.most) := hS.bx.cell 5 _ rfl
      have HVz : Hid (visitF (wOne xs lvl) (wTwo xs lvl) xs.length m U Pp people S = leafF Pp people S) := HV
      clear HV
      go_upto_region 4 with fail
      go_cut [51] from 12 (fun s51 wx => s51 = .bool (updB Pp people S) ∧ Below w.heap.size w wx)
      case first =>
        by_cases h1 : S.most < people
        · have e : updB Pp people S = true := by unfold updB; rw [decide_eq_true h1]; rfl
          go_wp2_with fail
          go_meet
          case rel => exact ⟨by rw [e], Below.refl _ _⟩
        · by_cases h2 : people = S.most
          · have e : updB Pp people S = ltP Pp S.best := by unfold updB; rw [decide_eq_false h1, decide_eq_true h2]; simp
            have h3 : ¬ S.most < people := h1
            have HE := Lib.hid e
            clear e
            have hq : (people == S.most) = true := beq_iff_eq.2 h2
            have HP := Lib.hid h2
            clear h2 h1
            go_wp2_with fail
            refine (specBetter_any w hS hsP hsQ).mono ?_
            rintro e w1 ⟨rfl, hb1⟩
            go_wp2_with fail
            go_meet
            case rel => exact ⟨by rw [HE.out], hb1⟩
          · have e : updB Pp people S = false := by unfold updB; rw [decide_eq_false h1, decide_eq_false h2]; rfl
            go_wp2_with fail
            go_meet
            case rel => exact ⟨by rw [e], Below.refl _ _⟩
      case rest =>
        obtain ⟨rfl, hb⟩ := hcut
        have hS1 := hS.below hb
        have hBw : B ≤ w.heap.size := Nat.le_trans hS.gB (Nat.le_of_lt hgl)
        cases hup : updB Pp people S
        · have hlf : leafF Pp people S = S := by rw [leafF_upd, hup]; rfl
          go_wp2
          refine bodyPost_ret (results_none rfl _ _ _) rfl ?_
          exact ⟨rfl, by rw [HVz.out, hlf]; exact ⟨vp, vb, Vp, Gp, Vb, Gb, hS1⟩, by rw [HVz.out, hlf]; exact ⟨hQ, ⟨hc0, hcb⟩, hmo⟩, hb.mono hBw⟩
        · have hlf : leafF Pp people S = ⟨Pp, people, S.c⟩ := by rw [leafF_upd, hup]; rfl
          have c5' : wc.cell? ⟨g, 5, none⟩ = some (.int .i64 S.most) := hS1.bx.cell 5 _ rfl
          have z5 := hS1.bx.frz 5 (by show 5 < 9; decide)
          have hBc : B ≤ wc.heap.size := Nat.le_trans hBw hb.size
          have hgw : g < wc.heap.size := hS1.bx.lt
          have huw : gu < wc.heap.size := hS1.us.lt
          have hS2 := hS1.field (box' := boxS (.slice A xs.length cap) lvl gu U.length bud S.c people) 5 (.int .i64 people) rfl
          have hs5 : (wc.setCell ⟨g, 5, none⟩ (.int .i64 people)).heap.size = wc.heap.size := World.size_setCell ..
          have hal : Below (wc.setCell ⟨g, 5, none⟩ (.int .i64 people)).heap.size (wc.setCell ⟨g, 5, none⟩ (.int .i64 people)) ((wc.setCell ⟨g, 5, none⟩ (.int .i64 people)).alloc (.cells #[] 50)) := (Below.refl _ _).alloc (Nat.le_refl _) _
          have hrow := Own.lit0m fInt (w := wc.setCell ⟨g, 5, none⟩ (.int .i64 people)) (base := B) (by rw [hs5]; omega) (e := 50)
          rw [hs5] at hrow
          have hS3 := (hS2.below hal).clear (v' := .slice (some ⟨wc.heap.size, 0, none⟩) 0 0) 4 hrow (fun b hb => by
            have e : wc.heap.size = b := by injection hb
            subst e
            exact ⟨fun e => by omega, fun e => by omega, fun e => by have := (hS1.pr.lt e).2; omega⟩) rfl
          have c4' : (wc.setCell ⟨g, 5, none⟩ (.int .i64 people)).cell? ⟨g, 4, none⟩ = some vb := hS2.bx.cell 4 _ rfl
          have z4 := hS2.bx.frz 4 (by show 4 < 9; decide)
          have c4'' := (hS2.below hal).bx.cell 4 _ rfl
          have z4'' := (hS2.below hal).bx.frz 4 (by show 4 < 9; decide)
          have hbW : Below B wc (((wc.setCell ⟨g, 5, none⟩ (.int .i64 people)).alloc (.cells #[] 50)).setCell ⟨g, 4, none⟩ (.slice (some ⟨wc.heap.size, 0, none⟩) 0 0)) := (((Below.refl B wc).setCell (p := ⟨g, 5, none⟩) hS.gB _).alloc (by rw [hs5]; omega) _).setCell (p := ⟨g, 4, none⟩) hS.gB _
          have hHV : Hid (visitF (wOne xs lvl) (wTwo xs lvl) xs.length m U Pp people S = ⟨Pp, people, S.c⟩) := Lib.hid (HVz.out.trans hlf)
          clear HVz hlf hup hS1 hS2 hrow
          have hpast := World.setCell_alloc_past (w := wc.setCell ⟨g, 5, none⟩ (.int .i64 people)) (.cells #[] 50) g 4 (.slice (some ⟨wc.heap.size, 0, none⟩) 0 0) (by rw [hs5]; exact hgw)
          rw [hpast] at hS3 hbW
          clear hpast
          go_wp2
          generalize ((wc.setCell ⟨g, 5, none⟩ (.int .i64 people)).setCell ⟨g, 4, none⟩ (.slice (some ⟨wc.heap.size, 0, none⟩) 0 0)).alloc (.cells #[] 50) = W7 at *
          go_loopw [7] (fun i wr => ∃ k : Nat, k ≤ Pp.length ∧ i = .int .i64 k ∧ (∃ vb' Vb' Gb', SMem wr B g gu (boxS (.slice A xs.length cap) lvl gu U.length bud S.c people) U Pp (Pp.take k) vp vb' Vp Gp Vb' Gb') ∧ Below B wc wr) (fun i _ => Pp.length - (intOf i).toNat)
          case atStart => exact ⟨0, Nat.zero_le _, rfl, ⟨_, _, _, hS3⟩, hbW⟩
          case round =>
            obtain ⟨k, hk, rfl, ⟨vb', Vb', Gb', hm⟩, hbr⟩ := hrel
            obtain ⟨A3, k3, hvp⟩ := hm.pr.form
            subst hvp
            have c3 : wr.cell? ⟨g, 3, none⟩ = some (.slice A3 Pp.length k3) := hm.bx.cell 3 _ rfl
            by_cases hlt : k < Pp.length
            · obtain ⟨gp, capp, cc, hvq, p0, hVk, p1, p2⟩ := PgW.pair hm.pr hsP hlt
              injection hvq with hvq _ hvc
              subst hvq hvc
              obtain ⟨fpk, hslk, _⟩ := PgW.at_ hm.pr hlt (rowX_ok hsP.2 k)
              rw [hVk] at hslk
              have hr3 : Row3 wr g gp k vb' (.slice (some ⟨gp, 0, none⟩) Pp.length k3) (.slice (some ⟨Gp k, 0, none⟩) 2 cc) := ⟨hm.bx.cell 4 _ rfl, c3, p0⟩
              have hBr : B ≤ wr.heap.size := Nat.le_trans hm.gB (Nat.le_of_lt hm.bx.lt)
              have z4r := hm.bx.frz 4 (by show 4 < 9; decide)
              go_wp2
              have gk4 : ∀ p : KeptW (B) wr (fun N => Row3 N g gp k vb' (.slice (some ⟨gp, 0, none⟩) Pp.length k3) (.slice (some ⟨Gp k, 0, none⟩) 2 cc)), p.v.cell? ⟨g, 4, none⟩ = some (vb') := fun p => p.x.c4
              have gk3 : ∀ p : KeptW (B) wr (fun N => Row3 N g gp k vb' (.slice (some ⟨gp, 0, none⟩) Pp.length k3) (.slice (some ⟨Gp k, 0, none⟩) 2 cc)), p.v.cell? ⟨g, 3, none⟩ = some (.slice (some ⟨gp, 0, none⟩) Pp.length k3) := fun p => p.x.c3
              have gkp : ∀ p : KeptW (B) wr (fun N => Row3 N g gp k vb' (.slice (some ⟨gp, 0, none⟩) Pp.length k3) (.slice (some ⟨Gp k, 0, none⟩) 2 cc)), p.v.cell? ⟨gp, k, none⟩ = some (.slice (some ⟨Gp k, 0, none⟩) 2 cc) := fun p => p.x.cp
              haveI hKne : Nonempty (KeptW (B) wr (fun N => Row3 N g gp k vb' (.slice (some ⟨gp, 0, none⟩) Pp.length k3) (.slice (some ⟨Gp k, 0, none⟩) 2 cc))) := ⟨⟨_, Below.drew (Below.refl _ _), (hr3.below (Below.drew (Below.refl _ _)))⟩⟩
              refine wp_region_sink (C := fun w' => ∃ p : KeptW (B) wr (fun N => Row3 N g gp k vb' (.slice (some ⟨gp, 0, none⟩) Pp.length k3) (.slice (some ⟨Gp k, 0, none⟩) 2 cc)), w' = p.v) [0, 1, 2, 3, 4, 5, 6, 7, 8, 9, 10, 11, 12, 13, 14, 15, 16, 17] [true, true, true, true, true, true, true, true, true, true, true, true, false, false, false, true, true, false] 17 (by kernel_rfl) (by kernel_rfl) (by kernel_rfl) (fun _ _ d _ _ h => by cases d <;> exact h) ⟨⟨_, Below.drew (Below.refl _ _), (hr3.below (Below.drew (Below.refl _ _)))⟩, rfl⟩ ?_
              simp only [List.map_cons, List.map_nil, List.getD_cons_zero, List.getD_cons_succ]
              have hS0 : Below (B) wr wr.drew := Below.drew (Below.refl _ _)
              refine wpMixS_pure (by kernel_rfl) (fun K hK => ?_)
              go_big_quiet_op
              refine hK _ ?_; clear hK K
              refine wpMixS_pure (by kernel_rfl) (fun K hK => ?_)
              go_big_quiet_op
              refine hK _ ?_; clear hK K
              refine wpMixS_pure (by kernel_rfl) (fun K hK => ?_)
              go_big_quiet_op
              refine hK _ ?_; clear hK K
              refine wpMixS_pure (by kernel_rfl) (fun K hK => ?_)
              go_big_quiet_op
              refine hK _ ?_; clear hK K
              refine wpMixS_pure (by kernel_rfl) (fun K hK => ?_)
              go_big_quiet_op
              refine hK _ ?_; clear hK K
              refine wpMixS_pure (by kernel_rfl) (fun K hK => ?_)
              go_big_quiet_op
              refine hK _ ?_; clear hK K
              refine wpMixS_pure (by kernel_rfl) (fun K hK => ?_)
              go_big_quiet_op
              refine hK _ ?_; clear hK K
              refine wpMixS_pure (by kernel_rfl) (fun K hK => ?_)
              go_big_quiet_op
              refine hK _ ?_; clear hK K
              refine wpMixS_pure (by kernel_rfl) (fun K hK => ?_)
              go_big_quiet_op
              refine hK _ ?_; clear hK K
              refine wpMixS_pure (by kernel_rfl) (fun K hK => ?_)
              go_big_quiet_op
              refine hK _ ?_; clear hK K
              refine wpMixS_pure (by kernel_rfl) (fun K hK => ?_)
              go_big_quiet_op
              refine hK _ ?_; clear hK K
              refine wpMixS_pure (by kernel_rfl) (fun K hK => ?_)
              go_big_quiet_op
              refine hK _ ?_; clear hK K
              refine wpMixS_act (by kernel_rfl) (fun K hK => ?_)
              go_big_op
              refine (l00Own_any _ (rowX Pp k) fpk wr.drew (hslk.below' (Below.drew (Below.refl _ _))) (by unfold rowX; simp)).mono ?_
              rintro e wr1 ⟨y, rfl, hyo, hbr1⟩
              have hbr1S : Below (B) wr wr1 := hS0.trans (hbr1.mono (Nat.le_trans hBr hS0.size))
              refine hK _ _ ⟨⟨_, hbr1S, (((hr3.below (Below.drew (Below.refl _ _)))).below hbr1)⟩, rfl⟩ ?_
              clear hK K
              obtain ⟨gy, cy, hyf⟩ : ∃ gy cy, y = .slice (some ⟨gy, 0, none⟩) 2 cy := by
                rcases hyo.2 with ⟨_, e⟩ | ⟨gy, cy, cur, e, _⟩
                · unfold rowX at e; simp at e
                · exact ⟨gy, cy, e⟩
              subst hyf
              refine wpMixS_act (by kernel_rfl) (fun K hK => ?_)
              go_big_op
              refine hK _ _ ⟨⟨_, (hbr1S.alloc (Nat.le_trans hBr hbr1S.size) _), (((((hr3.below (Below.drew (Below.refl _ _)))).below hbr1)).below ((Below.refl _ _).alloc (Nat.le_refl _) _))⟩, rfl⟩ ?_
              clear hK K
              refine mixS_world (fun N => Below (B) wr N ∧ Row3 N g gp k vb' (.slice (some ⟨gp, 0, none⟩) Pp.length k3) (.slice (some ⟨Gp k, 0, none⟩) 2 cc) ∧ SMem N B g gu (boxS (.slice A xs.length cap) lvl gu U.length bud S.c people) U Pp (Pp.take k) (.slice (some ⟨gp, 0, none⟩) Pp.length k3) vb' Vp Gp Vb' Gb' ∧ Own fInt N wr.drew.heap.size 2 (.slice (some ⟨gy, 0, none⟩) 2 cy) (rowX Pp k) ∧ N.cell? ⟨wr1.heap.size, 0, none⟩ = some (.slice (some ⟨gy, 0, none⟩) 2 cy) ∧ wr1.heap.size < N.heap.size) ⟨hbr1S.alloc (Nat.le_trans hBr hbr1S.size) _, ⟨((hr3.below (Below.drew (Below.refl _ _))).below hbr1).below ((Below.refl _ _).alloc (Nat.le_refl _) _), ((hm.below (Below.drew (Below.refl _ _))).below hbr1).below ((Below.refl _ _).alloc (Nat.le_refl _) _), ((hyo.below ((Below.refl _ _).alloc (Nat.le_refl _) _))), by simp, by simp⟩⟩ ?_
              rintro wr2 ⟨hbr2S, hbr2F⟩
              refine wpMixS_act (by kernel_rfl) (fun K hK => ?_)
              obtain ⟨hr6, hm6, hy6, hc6, hl6⟩ := hbr2F
              have hkl : (Pp.take k).length = k := by rw [List.length_take]; omega
              have hown6 := hm6.bs.own
              rw [hkl] at hown6
              refine wp_append_at2 _ _ _ 24 rfl B 50 i1 (.slice none 0 0) 1 24 Try.underlying24 hi1 hy0 hy1 hy2 rfl (by decide) vb' k _ rfl hown6 [.slice (some ⟨gy, 0, none⟩) 2 cy] rfl (by intro u hu; rw [List.mem_singleton] at hu; subst hu; rfl) wr1.heap.size rfl (by intro j u hj; match j, hj with | 0, hj => (injection hj with hj; subst hj; exact hc6) | j + 1, hj => (simp at hj)) (by omega) (by decide) (Nat.le_trans hBr hbr2S.size) ?_
              intro v' u hown hbu hgr hli
              have hru : Row3 u g gp k vb' (.slice (some ⟨gp, 0, none⟩) Pp.length k3) (.slice (some ⟨Gp k, 0, none⟩) 2 cc) := hr6.keep (hgr.block g hr6.ltg (fun e => (hm6.nb g (.inl e.symm)).1 rfl)) (hgr.block gp hr6.ltp (fun e => (hm6.np gp (.inl rfl)).2.2 (.inl e.symm)))
              have hbuS : Below (B) wr u := hbr2S.trans hbu
              try simp only [Act.put, List.setIfInBounds_toArray, List.set_cons_zero, List.set_cons_succ]
              refine hK _ _ ⟨⟨_, hbuS, hru⟩, rfl⟩ ?_
              clear hK K
              refine wpMixS_pure (by kernel_rfl) (fun K hK => ?_)
              go_big_quiet_op
              refine hK _ ?_; clear hK K
              refine wpMixS_pure (by kernel_rfl) (fun K hK => ?_)
              go_big_quiet_op
              refine hK _ ?_; clear hK K
              refine wpMixS_last (by kernel_rfl) (fun K hK => ?_)
              have x4u : u.cell? ⟨g, 4, none⟩ = some vb' := hru.c4
              have z4u := (hm6.bx.keep (hgr.block g hr6.ltg (fun e => (hm6.nb g (.inl e.symm)).1 rfl)) hgr.size).frz 4 (by show 4 < 9; decide)
              obtain ⟨A9, c9, hv9⟩ : ∃ A c, v' = .slice A (k + 1) c := by
                rcases hown.2 with ⟨_, e2⟩ | ⟨g9, cap9, cur9, e, _⟩
                · exact absurd e2 (by omega)
                · exact ⟨_, _, e⟩
              subst hv9
              go_big_op
              try simp only [Act.put, List.setIfInBounds_toArray, List.set_cons_zero, List.set_cons_succ]
              refine hK _ _ ?_
              clear hK K
              have hyl := own_at hy6 (g := gy) rfl
              have hwd : wr.drew.heap.size = wr.heap.size := rfl
              rw [hwd] at hyl
              have hownQ := hown
              rw [← hkl] at hownQ
              have hg3 := hm.bx.lt
              have hu3 := hm.us.lt
              have hm9 := hm6.pushB (u := u) (a := gy) (m := (Pp.getD k (0, 0)).1) (k := (Pp.getD k (0, 0)).2) 4 (y := .slice (some ⟨gy, 0, none⟩) 2 cy) (own_low hy6 (by rw [hwd]; exact hBr)) rfl (by omega) (by omega) (fun e => by have := (hm.pr.lt e).2; omega) (fun e => by have := (hm.bs.lt e).2; omega) hownQ hgr (by rw [hkl]; exact hli) rfl
              rw [hkl] at hm9
              have htk : Pp.take k ++ [((Pp.getD k (0, 0)).1, (Pp.getD k (0, 0)).2)] = Pp.take (k + 1) := by rw [getD_of_lt hlt, List.take_succ_eq_append_getElem hlt]
              rw [htk] at hm9
              have hb9 := fun x => (hbr.trans hbuS).setCell (p := ⟨g, 4, none⟩) hm.gB x
              go_wp2
              go_roundw
              case rel => exact ⟨k + 1, by omega, by go_num, ⟨_, _, _, hm9⟩, hb9 _⟩
              case measure => simp [intOf]; omega
            · obtain rfl : k = Pp.length := by omega
              rw [List.take_length] at hm
              go_wp2
              refine bodyPost_ret (results_none rfl _ _ _) rfl ?_
              exact ⟨rfl, by rw [hHV.out]; exact ⟨_, _, _, _, _, _, hm⟩, by rw [hHV.out]; exact ⟨hP, ⟨hc0, hcb⟩, by show -1 ≤ people ∧ people ≤ 100000; omega⟩, (hb.mono hBw).trans hbr⟩
    | succ m' =>
      have hi : xs.length - (m' + 1) < U.length := by omega
      have cu : w.cell? ⟨gu, xs.length - (m' + 1), none⟩ = some (.bool (U[xs.length - (m' + 1)]'hi)) := hS.us.cell _ _ (by rw [List.getElem?_map, List.getElem?_eq_getElem hi]; rfl)
      cases hu : U[xs.length - (m' + 1)]'hi
      · have hb0 : U.getD (xs.length - (m' + 1)) false = false := by rw [getD_of_lt hi]; exact hu
        have HN := Lib.hid (HV.out.trans (visitF_node hb0))
        have e8 : ((xs.length - (m' + 1) : Nat) : Int) + 1 = ((xs.length - (m' + 1) + 1 : Nat) : Int) := by omega
        have e7 := Lib.hid (show xs.length - (m' + 1) + 1 = xs.length - m' by omega)
        have hin : xs.length - (m' + 1) < xs.length := by omega
        have ihm := Lib.hid (ih m' (by omega))
        rw [hu] at cu
        clear HV hu hb0 ih
        generalize xs.length - (m' + 1) = i at *
        have hlt : (i : Int) < (xs.length : Int) := by omega
        have hni : ((i : Int) == (xs.length : Int)) = false := by rw [beq_eq_false_iff_ne]; omega
        have E8 := Lib.hid e8
        clear e8
        go_wp2
        go_loopw [8] (fun kv wr => ∃ k : Nat, i + 1 ≤ k ∧ k ≤ xs.length ∧ kv = .int .i64 k ∧ ∃ T, Hid (foldK (wTwo xs lvl) (visitF (wOne xs lvl) (wTwo xs lvl) xs.length m') U Pp i people S k = T) ∧ SrOk xs.length bud T ∧ SM wr B g gu (.slice A xs.length cap) lvl bud U Pp T ∧ Below B w wr) (fun kv _ => xs.length - (intOf kv).toNat)
        case atStart => exact ⟨i + 1, Nat.le_refl _, by omega, by go_num, S, foldK_low (Nat.le_refl _), ⟨hQ, ⟨hc0, hcb⟩, hmo⟩, ⟨vp, vb, Vp, Gp, Vb, Gb, hS⟩, Below.refl _ _⟩
        case round =>
          obtain ⟨k, hk1, hk, rfl, T, HT, hT, ⟨vp9, vb9, Vp9, Gp9, Vb9, Gb9, hm⟩, hbr⟩ := hrel
          have hBw : B ≤ w.heap.size := Nat.le_trans hS.gB (Nat.le_of_lt hgl)
          have hlw : Sl fGroup.cod wr (.slice A xs.length cap) xs fpl := hlist.keep (fun b hb => hbr.block b (hfl b hb)) hbr.size
          clear cu c0 c2 hS
          by_cases hkn : k < xs.length
          · have hkU : k < U.length := by omega
            have cu : wr.cell? ⟨gu, k, none⟩ = some (.bool (U[k]'hkU)) := hm.us.cell _ _ (by rw [List.getElem?_map, List.getElem?_eq_getElem hkU]; rfl)
            have c2 : wr.cell? ⟨g, 2, none⟩ = some (.slice (some ⟨gu, 0, none⟩) U.length U.length) := hm.bx.cell 2 _ rfl
            have hkn9 : (k : Int) < (xs.length : Int) := by omega
            cases huk : U[k]'hkU
            · have hgf : U.getD k false = false := by rw [getD_of_lt hkU]; exact huk
              have HCh := Lib.hid ((foldK_child (w2 := wTwo xs lvl) (g := visitF (wOne xs lvl) (wTwo xs lvl) xs.length m') (used := U) (pairs := Pp) (i := i) (people := people) (S := S) (by omega) hgf).trans (by rw [HT.out]))
              rw [huk] at cu
              clear huk HT
              go_wp2_with fail
              refine (specNode_any _ hm hT.2.1.1 hT.2.1.2 hbud).mono ?_
              rintro e w2 ⟨rfl, hm2, hb2⟩
              have hb02 := hbr.trans hb2
              by_cases hc : 0 < T.c
              rotate_left
              · have e1 : decide (0 < T.c) = false := decide_eq_false hc
                have hnc : nodeC T.c = -1 := by unfold nodeC; rw [if_pos (by omega)]
                have hdead : foldK (wTwo xs lvl) (visitF (wOne xs lvl) (wTwo xs lvl) xs.length m') U Pp i people S (k + 1) = ⟨T.best, T.most, -1⟩ := HCh.out.trans (childF_dead (by omega))
                have hst := (foldK_stays (b := xs.length) (show k + 1 ≤ xs.length by omega) (by rw [hdead])).trans hdead
                have HV := Lib.hid (HN.out.trans (by rw [hst, childF_stays rfl]))
                rw [hnc] at hm2
                rw [e1]
                clear HN HCh e1 hc hnc ihm hdead hst
                go_wp2
                refine bodyPost_ret (results_none rfl _ _ _) rfl ?_
                exact ⟨rfl, by rw [HV.out]; exact ⟨_, _, _, _, _, _, hm2⟩, by rw [HV.out]; exact ⟨hT.1, ⟨by show (-1 : Int) ≤ -1; omega, by show (-1 : Int) ≤ bud; omega⟩, hT.2.2⟩, hb02⟩
              have e1 : decide (0 < T.c) = true := decide_eq_true hc
              have hnc : nodeC T.c = T.c - 1 := by unfold nodeC; rw [if_neg (by omega)]
              have hchild := childF_live (f := visitF (wOne xs lvl) (wTwo xs lvl) xs.length m' (U.set k true) (Pp ++ [(i, k)])) (p := people + wTwo xs lvl i k) (S := T) hc
              have HC := Lib.hid (HCh.out.trans hchild)
              have hTc := hT.2.1
              rw [hnc] at hm2
              rw [e1]
              clear HCh e1 hnc hchild hm hbr hb2 cu c2
              have hl2 := hlist.below hb02 hfl
              obtain ⟨bb, off, rfl, _, _, hpx⟩ := PGroup.elem hl2 hin
              obtain ⟨bb2, off2, hbb, _, _, hpz⟩ := PGroup.elem hl2 hkn
              obtain ⟨rfl, rfl⟩ : bb2 = bb ∧ off2 = off := by
                cases hbb; exact ⟨rfl, rfl⟩
              have hgx := GrpIn.of (groupsB_one hv hin)
              have hgz := GrpIn.of (groupsB_one hv hkn)
              have hwx : wTwo xs lvl i k = if groupB (sumG xs[i] xs[k] xs[i].id) && goesB (sumG xs[i] xs[k] xs[i].id) lvl then (sumG xs[i] xs[k] xs[i].id).people else 0 := by unfold wTwo; rw [getD_of_lt hin, getD_of_lt hkn]
              rw [hwx] at HC
              generalize xs[i] = x at *
              generalize xs[k] = z at *
              have x0 : w2.cell? ⟨g, 0, none⟩ = some (.slice (some ⟨bb2, off2, none⟩) xs.length cap) := hm2.bx.cell 0 _ rfl
              have xi : w2.cell? ⟨bb2, off2 + i * 7, none⟩ = some (.string x.id) := hpx.c0
              have hplt := hpx.lt
              have hBw2 : B ≤ w2.heap.size := Nat.le_trans hBw hb02.size
              clear hwx
              go_upto_region 16 with fail
              have gx0 := cell_regrown x0
              have gxi := cell_regrown xi
              refine wp_region_fork (C := fun w' => ∃ p : Regrown, w' = Go.Sort.grow (redrawn w2 p.d) p.os) [0, 1, 2, 3, 4, 5, 6, 7, 8, 9, 10, 11, 12, 13, 14, 15, 16, 17, 18, 19] 20 [21, 22] [false, false] 21 [20, 22] [false, false] (by kernel_rfl) (by kernel_rfl) (by kernel_rfl) (fun _ _ d _ _ h => by cases d <;> exact h) (regrown_of_below (Below.drew (Below.refl _ _))) ?_
              simp only [List.map_cons, List.map_nil, List.getD_cons_zero, List.getD_cons_succ]
              have hS0 : Below (w2.heap.size) w2 w2.drew := Below.drew (Below.refl _ _)
              refine wpFork_pure (by kernel_rfl) (fun K hK => ?_)
              go_big_quiet_op
              refine hK _ ?_; clear hK K
              refine wpFork_pure (by kernel_rfl) (fun K hK => ?_)
              go_big_quiet_op
              refine hK _ ?_; clear hK K
              refine wpFork_pure (by kernel_rfl) (fun K hK => ?_)
              go_big_quiet_op
              refine hK _ ?_; clear hK K
              refine wpFork_pure (by kernel_rfl) (fun K hK => ?_)
              go_big_quiet_op
              refine hK _ ?_; clear hK K
              refine wpFork_pure (by kernel_rfl) (fun K hK => ?_)
              go_big_quiet_op
              refine hK _ ?_; clear hK K
              refine wpFork_pure (by kernel_rfl) (fun K hK => ?_)
              go_big_quiet_op
              refine hK _ ?_; clear hK K
              refine wpFork_pure (by kernel_rfl) (fun K hK => ?_)
              go_big_quiet_op
              refine hK _ ?_; clear hK K
              refine wpFork_pure (by kernel_rfl) (fun K hK => ?_)
              go_big_quiet_op
              refine hK _ ?_; clear hK K
              refine wpFork_pure (by kernel_rfl) (fun K hK => ?_)
              go_big_quiet_op
              refine hK _ ?_; clear hK K
              refine wpFork_pure (by kernel_rfl) (fun K hK => ?_)
              go_big_quiet_op
              refine hK _ ?_; clear hK K
              refine wpFork_pure (by kernel_rfl) (fun K hK => ?_)
              go_big_quiet_op
              refine hK _ ?_; clear hK K
              refine wpFork_pure (by kernel_rfl) (fun K hK => ?_)
              go_big_quiet_op
              refine hK _ ?_; clear hK K
              refine wpFork_pure (by kernel_rfl) (fun K hK => ?_)
              go_big_quiet_op
              refine hK _ ?_; clear hK K
              refine wpFork_pure (by kernel_rfl) (fun K hK => ?_)
              go_big_quiet_op
              refine hK _ ?_; clear hK K
              refine wpFork_pure (by kernel_rfl) (fun K hK => ?_)
              go_big_quiet_op
              refine hK _ ?_; clear hK K
              refine wpFork_pure (by kernel_rfl) (fun K hK => ?_)
              go_big_quiet_op
              refine hK _ ?_; clear hK K
              refine wpFork_pure (by kernel_rfl) (fun K hK => ?_)
              go_big_quiet_op
              refine hK _ ?_; clear hK K
              refine wpFork_pure (by kernel_rfl) (fun K hK => ?_)
              go_big_quiet_op
              refine hK _ ?_; clear hK K
              refine wpFork_pure (by kernel_rfl) (fun K hK => ?_)
              go_big_quiet_op
              refine hK _ ?_; clear hK K
              refine wpFork_pure (by kernel_rfl) (fun K hK => ?_)
              go_big_quiet_op
              refine hK _ ?_; clear hK K
              refine wpFork_split ?_ ?_
              · skip
                refine wpMix_act (by kernel_rfl) (fun K hK => ?_)
                go_big_op
                refine (l24Sum_any bb2 (off2 + i * 7) bb2 (off2 + k * 7) x z x.id w2.drew (hpx.below hS0 hplt) (hpz.below hS0 hplt) hgx hgz).mono ?_
                rintro e wr1 ⟨rfl, hbr1⟩
                have hbr1S : Below (w2.heap.size) w2 wr1 := hS0.trans (hbr1.mono hS0.size)
                refine hK _ _ (regrown_of_below hbr1S) ?_
                clear hK K
                refine wpMix_act (by kernel_rfl) (fun K hK => ?_)
                go_big_op
                refine hK _ _ (regrown_of_below (hbr1S.alloc hbr1S.size _)) ?_
                clear hK K
                refine mix_world (fun N => Below (w2.heap.size) w2 N ∧ BxG N wr1.heap.size ∧ wr1.heap.size < N.heap.size) ⟨hbr1S.alloc hbr1S.size _, (by first | exact ⟨BxG.new _ _, by simp⟩ | exact ⟨BxG.new w2.drew _, by simp⟩)⟩ ?_
                rintro wr2 ⟨hbr2S, hbr2F⟩
                refine wpMix_act (by kernel_rfl) (fun K hK => ?_)
                have hbb : BxG wr2 (wr1.heap.size) := hbr2F.1
                refine wp_store_mid _ _ _ rfl (wr1.heap.size) 0 #[.string x.id, .int .i64 (x.people + z.people), .int .i64 (x.guides + z.guides), .int .i64 (x.beacons + z.beacons), .int .i64 (x.shovels + z.shovels), .int .i64 (x.probes + z.probes), .int .i64 (min x.skill z.skill)] rfl rfl hbb.there (by kernel_rfl) (by simp [Value.oneCell']) ?_
                have hp5 := PGroup.stored hbb (sumG x z x.id)
                have hb5 : ∀ b, b = wr1.heap.size → Below w2.heap.size w2 (wr2.setCells b 0 [.string x.id, .int .i64 (x.people + z.people), .int .i64 (x.guides + z.guides), .int .i64 (x.beacons + z.beacons), .int .i64 (x.shovels + z.shovels), .int .i64 (x.probes + z.probes), .int .i64 (min x.skill z.skill)]) := fun b hb => by subst hb; exact hbr2S.trans (belowSetCells hbr1S.size _ _ _)
                have hbx5 : B ≤ wr1.heap.size := Nat.le_trans hBw2 hbr1S.size
                generalize hbxe : wr1.heap.size = bx at hbb hp5 hbx5 ⊢
                replace hb5 := hb5 bx hbxe.symm
                clear hbxe
                change K _ (wr2.setCells bx 0 [.string x.id, .int .i64 (x.people + z.people), .int .i64 (x.guides + z.guides), .int .i64 (x.beacons + z.beacons), .int .i64 (x.shovels + z.shovels), .int .i64 (x.probes + z.probes), .int .i64 (min x.skill z.skill)])
                change PGroup (wr2.setCells bx 0 [.string x.id, .int .i64 (x.people + z.people), .int .i64 (x.guides + z.guides), .int .i64 (x.beacons + z.beacons), .int .i64 (x.shovels + z.shovels), .int .i64 (x.probes + z.probes), .int .i64 (min x.skill z.skill)]) bx 0 _ at hp5
                generalize wr2.setCells bx 0 [.string x.id, .int .i64 (x.people + z.people), .int .i64 (x.guides + z.guides), .int .i64 (x.beacons + z.beacons), .int .i64 (x.shovels + z.shovels), .int .i64 (x.probes + z.probes), .int .i64 (min x.skill z.skill)] = w5 at *
                try simp only [Act.put, List.setIfInBounds_toArray, List.set_cons_zero, List.set_cons_succ]
                refine hK _ _ (regrown_of_below hb5) ?_
                clear hK K
                refine wpMix_nil ?_
                clear hbb x0 xi gx0 gxi hS0 hpx hpz hl2 hplt
                have hm5 := hm2.below hb5
                have hb05 := hb02.trans (hb5.mono hBw2)
                clear hm2 hb02 hb5 hBw2
                have hgY : groupB (sumG x z x.id) = true → 1 ≤ (sumG x z x.id).people ∧ (sumG x z x.id).people ≤ 1000 := groupB_people
                have hidY : (sumG x z x.id).id.size ≤ 9223372036854775807 := by have := hgx.id; show x.id.size ≤ _; omega
                generalize sumG x z x.id = y at *
                go_upto_region 18 with fail
                go_cut [131] from 88 to 178 (fun s wx => s = .bool (groupB y && goesB y lvl) ∧ Below w5.heap.size w5 wx)
                case first =>
                  cases hg1 : groupB y
                  · go_wp2_with fail
                    refine (l24One_any _ 0 y _ hp5 hidY).mono ?_
                    rintro e w6 ⟨rfl, hb6⟩
                    rw [hg1]
                    go_wp2_with fail
                    go_meet
                    case rel => exact ⟨by rw [hg1]; rfl, hb6⟩
                  · have hgp := hgY hg1
                    go_wp2_with fail
                    refine (l24One_any _ 0 y _ hp5 hidY).mono ?_
                    rintro e w6 ⟨rfl, hb6⟩
                    rw [hg1]
                    have y1 : w6.cell? ⟨g, 1, none⟩ = some (.int .i64 lvl) := (hm5.below hb6).bx.cell 1 _ rfl
                    have hp6 := hp5.below' hb6
                    have HG := Lib.hid hg1
                    clear hgY hg1
                    go_wp2_with fail
                    refine (l24Goes_any _ 0 y lvl _ hp6 hgp).mono ?_
                    rintro e w7 ⟨rfl, hb7⟩
                    go_wp2_with fail
                    go_meet
                    case rel => exact ⟨by rw [HG.out]; rfl, hb6.trans (hb7.mono hb6.size)⟩
                case rest =>
                  obtain ⟨rfl, hb6⟩ := hcut
                  rename World => w6
                  have hm6 := hm5.below hb6
                  have hp6 := hp5.below' hb6
                  have hBw5 : B ≤ w5.heap.size := Nat.le_trans hBw hb05.size
                  have hb06 := hb05.trans (hb6.mono hBw5)
                  clear hm5 hp5 hb6 hb05
                  go_upto_if 131 with fail
                  go_cut [10] from 88 to 178 (fun s wx => s = .int .i64 (if groupB y && goesB y lvl then y.people else 0) ∧ w6 = wx)
                  case first =>
                    cases hgo : (groupB y && goesB y lvl)
                    · go_wp2_with fail
                      go_meet
                      case rel => exact ⟨by rw [hgo]; rfl, rfl⟩
                    · have y1 : w6.cell? ⟨bx, 1, none⟩ = some (.int .i64 y.people) := hp6.c1
                      go_wp2_with fail
                      go_meet
                      case rel => exact ⟨by rw [hgo]; rfl, rfl⟩
                  case rest =>
                    obtain ⟨rfl, rfl⟩ := hcut
                    have hmo2 : 0 ≤ (if groupB y && goesB y lvl then y.people else 0) ∧ (if groupB y && goesB y lvl then y.people else 0) ≤ 1000 := by
                      cases hgo : (groupB y && goesB y lvl)
                      · simp
                      · rw [Bool.and_eq_true] at hgo
                        have := hgY hgo.1
                        simp only [if_true]; omega
                    clear hgY
                    generalize (if groupB y && goesB y lvl then y.people else 0) = mo at *
                    clear hp6
                    obtain ⟨A3, k3, rfl⟩ := hm6.pr.form
                    have c2 : w6.cell? ⟨g, 2, none⟩ = some (.slice (some ⟨gu, 0, none⟩) U.length U.length) := hm6.bx.cell 2 _ rfl
                    have ck : w6.cell? ⟨gu, k, none⟩ = some (.bool (U[k]'hkU)) := hm6.us.cell _ _ (by rw [List.getElem?_map, List.getElem?_eq_getElem hkU]; rfl)
                    have zk := hm6.us.frz k (by simpa using hkU)
                    have hm8 := hm6.mark k true
                    have hb08 := hb06.setCell (p := ⟨gu, k, none⟩) hm6.guB (.bool true)
                    go_upto_region 21 with fail
                    generalize w6.setCell ⟨gu, k, none⟩ (.bool true) = w8 at *
                    clear hm6 hb06 c2 ck zk
                    have hgl8 := hm8.bx.lt
                    have hul8 := hm8.us.lt
                    have hA2 : Below w8.heap.size w8 ((w8.alloc (.cells #[.int .i64 (i : Int), .int .i64 (k : Int)] 2)).alloc (.cells #[.slice (some ⟨w8.heap.size, 0, none⟩) 2 2] 50)) := ((Below.refl _ _).alloc (Nat.le_refl _) _).alloc (by simp) _
                    have hm9 := hm8.below hA2
                    have hown9 := hm9.pr.own
                    have hyy : Own fInt ((w8.alloc (.cells #[.int .i64 (i : Int), .int .i64 (k : Int)] 2)).alloc (.cells #[.slice (some ⟨w8.heap.size, 0, none⟩) 2 2] 50)) B 2 (.slice (some ⟨w8.heap.size, 0, none⟩) 2 2) [(i : Int), (k : Int)] := (own_lit2 (Nat.le_trans hm8.gB (Nat.le_of_lt hgl8)) (i : Int) (k : Int) 2).below ((Below.refl _ _).alloc (Nat.le_refl _) _)
                    have hszB : ((w8.alloc (.cells #[.int .i64 (i : Int), .int .i64 (k : Int)] 2)).alloc (.cells #[.slice (some ⟨w8.heap.size, 0, none⟩) 2 2] 50)).heap.size = w8.heap.size + 2 := by simp
                    have hBB : B ≤ ((w8.alloc (.cells #[.int .i64 (i : Int), .int .i64 (k : Int)] 2)).alloc (.cells #[.slice (some ⟨w8.heap.size, 0, none⟩) 2 2] 50)).heap.size := by rw [hszB]; have := hm8.gB; omega
                    have hbB : Below B w8 ((w8.alloc (.cells #[.int .i64 (i : Int), .int .i64 (k : Int)] 2)).alloc (.cells #[.slice (some ⟨w8.heap.size, 0, none⟩) 2 2] 50)) := hA2.mono (Nat.le_trans hm8.gB (Nat.le_of_lt hgl8))
                    have hcJ := cell_one_new (w8.alloc (.cells #[.int .i64 (i : Int), .int .i64 (k : Int)] 2)) (.slice (some ⟨w8.heap.size, 0, none⟩) 2 2) 50
                    rw [World.size_alloc] at hcJ
                    have c3 : w8.cell? ⟨g, 3, none⟩ = some (.slice A3 Pp.length k3) := hm8.bx.cell 3 _ rfl
                    have hPl9 : Pp.length ≤ 8 := by have := hP.1; omega
                    go_wp2_with (at_builtin; go_loud (refine wpList_append_lies _ rfl _ _ 24 rfl B 50 i1 (.slice none 0 0) 1 24 Try.underlying24 hi1 hy0 hy1 hy2 rfl (by decide) (.slice A3 Pp.length k3) Pp.length _ rfl hown9 _ 1 1 [.slice (some ⟨w8.heap.size, 0, none⟩) 2 2] rfl rfl hcJ (by intro u hu; rw [List.mem_singleton] at hu; subst hu; rfl) (by decide) (by unfold maxLen; omega) (by omega) (by (try simp); have := hm8.gB; omega) (w8.heap.size + 2) (by simp) ?_))
                    intro gq cq u hownU hgr hli hltu
                    have hl9 : (Value.slice (some ⟨gq, 0, none⟩) (Pp.length + 1) cq).ownBlock = (Value.slice A3 Pp.length k3).ownBlock ∨ (Value.slice (some ⟨gq, 0, none⟩) (Pp.length + 1) cq).ownBlock = some ((w8.alloc (.cells #[.int .i64 (i : Int), .int .i64 (k : Int)] 2)).alloc (.cells #[.slice (some ⟨w8.heap.size, 0, none⟩) 2 2] 50)).heap.size := by
                      rcases hli with h | h
                      · exact .inl h.symm
                      · exact .inr (by rw [hszB, ← h]; rfl)
                    have hbU := hbB.trans ((Below.refl B _).grown hgr hBB (fun k hk => (hown9.lt k hk).1))
                    have hm10 := hm9.push (a := w8.heap.size) 3 hyy (fun e => by omega) (fun e => by omega) (fun e => by have := (hm8.pr.lt e).2; omega) (fun e => by have := (hm8.bs.lt e).2; omega) hownU hgr hl9 rfl
                    have hgg9 : (Value.slice A3 Pp.length k3).ownBlock ≠ some g := fun e => (hm9.np g (.inl e)).1 rfl
                    have hbxu := hm9.bx.keep (hgr.block g hm9.bx.lt (fun e => hgg9 e.symm)) hgr.size
                    have c3u : u.cell? ⟨g, 3, none⟩ = some (.slice A3 Pp.length k3) := hbxu.cell 3 _ rfl
                    have z3u := hbxu.frz 3 (by show 3 < 9; decide)
                    have hbV := (hb08.trans hbU).setCell (p := ⟨g, 3, none⟩) hm8.gB (.slice (some ⟨gq, 0, none⟩) (Pp.length + 1) cq)
                    clear hownU hgr hli hl9 hbU hgg9 hbxu hm9 hm8 hcJ hbB hBB hszB hyy hown9 hA2 hb08 hul8 hgl8 hltu c3
                    go_upto_region 22 with fail
                    generalize u.setCell ⟨g, 3, none⟩ (.slice (some ⟨gq, 0, none⟩) (Pp.length + 1) cq) = w10 at *
                    clear c3u z3u
                    have hUl : (U.set k true).length = U.length := List.length_set
                    have hat := Lib.hid (E8.out.trans (congrArg Nat.cast e7.out))
                    have hl10 := hlist.below hbV hfl
                    have hPP := hP.push (i := i) (k := k) (by omega) hin hkn
                    have hsum : wrap64 (people + mo) = people + mo := by unfold wrap64; omega
                    clear hsum
                    rw [← hUl] at hm10
                    have hrun := ihm.out (U.set k true) (Pp ++ [(i, k)]) ⟨T.best, T.most, T.c - 1⟩ (people + mo) _ (by omega) (hUl.trans hU) hPP (by rw [List.length_append]; show Pp.length + 1 + m' ≤ _; omega) hT.1 (by show -1 ≤ T.c - 1; omega) (by show T.c - 1 ≤ bud; omega) (by omega) (by omega) hT.2.2 hl10 ⟨_, _, _, _, _, _, hm10⟩
                    rw [← hat.out] at hrun
                    clear hm10 hl10 hPP
                    go_wp2_with fail
                    refine hrun.mono ?_
                    rintro e w11 ⟨rfl, ⟨vp1, vb1, Vp1, Gp1, Vb1, Gb1, hm11⟩, hT11, hb11⟩
                    have HC1 := HC.out
                    generalize visitF (wOne xs lvl) (wTwo xs lvl) xs.length m' (U.set k true) (Pp ++ [(i, k)]) (people + mo) ⟨T.best, T.most, T.c - 1⟩ = T1 at hm11 hT11 HC1
                    have HC2 := Lib.hid HC1
                    have hlp : (Pp ++ [(i, k)]).length = Pp.length + 1 := by simp
                    have hb12 := hbV.trans hb11
                    clear HC HC1 hat hbV hb11 hmo2 hrun
                    obtain ⟨gp, cp, rfl, hcp1, hcp2⟩ : ∃ gp cp, vp1 = .slice (some ⟨gp, 0, none⟩) (Pp.length + 1) cp ∧ Pp.length + 1 ≤ cp ∧ cp ≤ 9223372036854775807 := by
                      rcases hm11.pr.own.2 with ⟨_, h0⟩ | ⟨g', cap', cur, hv, _, _, h1, h2, _⟩
                      · rw [hlp] at h0; omega
                      · rw [hlp] at hv h1; exact ⟨g', cap', hv, h1, h2⟩
                    rw [hUl] at hm11
                    clear hlp hUl
                    have c3 : w11.cell? ⟨g, 3, none⟩ = some (.slice (some ⟨gp, 0, none⟩) (Pp.length + 1) cp) := hm11.bx.cell 3 _ rfl
                    have z3 := hm11.bx.frz 3 (by show 3 < 9; decide)
                    have hPl8 : Pp.length ≤ 8 := by have := hP.1; omega
                    have hcp3 : Pp.length ≤ cp := by omega
                    go_wp2
                    have gc3 := cell_regrown c3
                    refine wp_region_sink (C := fun w' => ∃ p : Regrown, w' = Go.Sort.grow (redrawn w11 p.d) p.os) [0, 1, 2, 3, 4, 5, 6, 7, 8, 9, 10, 11, 12, 13, 14] [true, true, true, true, true, true, true, true, true, true, true, true, true, true, false] 14 (by kernel_rfl) (by kernel_rfl) (by kernel_rfl) (fun _ _ d _ _ h => by cases d <;> exact h) (regrown_of_below (Below.drew (Below.refl _ _))) ?_
                    simp only [List.map_cons, List.map_nil, List.getD_cons_zero, List.getD_cons_succ]
                    have hS0 : Below (w11.heap.size) w11 w11.drew := Below.drew (Below.refl _ _)
                    refine wpMixS_pure (by kernel_rfl) (fun K hK => ?_)
                    go_big_quiet_op
                    refine hK _ ?_; clear hK K
                    refine wpMixS_pure (by kernel_rfl) (fun K hK => ?_)
                    go_big_quiet_op
                    refine hK _ ?_; clear hK K
                    refine wpMixS_pure (by kernel_rfl) (fun K hK => ?_)
                    go_big_quiet_op
                    refine hK _ ?_; clear hK K
                    refine wpMixS_pure (by kernel_rfl) (fun K hK => ?_)
                    go_big_quiet_op
                    refine hK _ ?_; clear hK K
                    refine wpMixS_pure (by kernel_rfl) (fun K hK => ?_)
                    go_big_quiet_op
                    refine hK _ ?_; clear hK K
                    refine wpMixS_pure (by kernel_rfl) (fun K hK => ?_)
                    go_big_quiet_op
                    refine hK _ ?_; clear hK K
                    refine wpMixS_pure (by kernel_rfl) (fun K hK => ?_)
                    go_big_quiet_op
                    refine hK _ ?_; clear hK K
                    refine wpMixS_pure (by kernel_rfl) (fun K hK => ?_)
                    go_big_quiet_op
                    refine hK _ ?_; clear hK K
                    refine wpMixS_pure (by kernel_rfl) (fun K hK => ?_)
                    go_big_quiet_op
                    refine hK _ ?_; clear hK K
                    refine wpMixS_pure (by kernel_rfl) (fun K hK => ?_)
                    go_big_quiet_op
                    refine hK _ ?_; clear hK K
                    refine wpMixS_pure (by kernel_rfl) (fun K hK => ?_)
                    go_big_quiet_op
                    refine hK _ ?_; clear hK K
                    refine wpMixS_pure (by kernel_rfl) (fun K hK => ?_)
                    go_big_quiet_op
                    refine hK _ ?_; clear hK K
                    refine wpMixS_pure (by kernel_rfl) (fun K hK => ?_)
                    go_big_quiet_op
                    refine hK _ ?_; clear hK K
                    refine wpMixS_pure (by kernel_rfl) (fun K hK => ?_)
                    go_big_quiet_op
                    refine hK _ ?_; clear hK K
                    refine wpMixS_last (by kernel_rfl) (fun K hK => ?_)
                    go_big_op
                    try simp only [Act.put, List.setIfInBounds_toArray, List.set_cons_zero, List.set_cons_succ]
                    refine hK _ _ ?_
                    clear hK K
                    have hm12 := (hm11.below hS0).cut 3 rfl
                    have hb13 := (hb12.trans (hS0.mono (Nat.le_trans hm11.gB (Nat.le_of_lt hm11.bx.lt)))).setCell (p := ⟨g, 3, none⟩) hm11.gB (.slice (some ⟨gp, 0, none⟩) Pp.length cp)
                    clear hm11 gc3 c3 z3 hb12 hS0
                    have hq7 : w11.drew.setCell ⟨g, 3, none⟩ (.slice (some ⟨gp, 0, none⟩) Pp.length cp) = (w11.setCell ⟨g, 3, none⟩ (.slice (some ⟨gp, 0, none⟩) Pp.length cp)).drew := rfl
                    rw [hq7] at hm12 hb13
                    clear hq7
                    revert hm12 hb13
                    generalize (w11.setCell ⟨g, 3, none⟩ (.slice (some ⟨gp, 0, none⟩) Pp.length cp)).drew = w12
                    intro hm12 hb13
                    have c2 : w12.cell? ⟨g, 2, none⟩ = some (.slice (some ⟨gu, 0, none⟩) U.length U.length) := hm12.bx.cell 2 _ rfl
                    have ck : w12.cell? ⟨gu, k, none⟩ = some (.bool true) := hm12.us.cell _ _ (by rw [List.getElem?_map, List.getElem?_set_self hkU]; rfl)
                    have zk := hm12.us.frz k (by simpa using hkU)
                    have hm13 := hm12.mark k false
                    rw [set_back hkU hgf] at hm13
                    have hb14 := hb13.setCell (p := ⟨gu, k, none⟩) hm12.guB (.bool false)
                    clear hm12 hb13
                    go_wp2
                    go_roundw
                    case rel => exact ⟨k + 1, by omega, by omega, by go_num, T1, HC2, hT11, ⟨_, _, _, _, _, _, hm13⟩, hb14⟩
                    case measure => simp [intOf]; omega
              · skip
                refine wpMix_act (by kernel_rfl) (fun K hK => ?_)
                go_big_op
                refine hK _ _ (regrown_of_below (hS0.alloc hS0.size _)) ?_
                clear hK K
                refine mix_world (fun N => Below (w2.heap.size) w2 N ∧ BxG N w2.drew.heap.size ∧ w2.drew.heap.size < N.heap.size) ⟨hS0.alloc hS0.size _, (by first | exact ⟨BxG.new _ _, by simp⟩ | exact ⟨BxG.new w2.drew _, by simp⟩)⟩ ?_
                rintro wr3 ⟨hbr3S, hbr3F⟩
                refine wpMix_act (by kernel_rfl) (fun K hK => ?_)
                go_big_op
                refine (l24Sum_any bb2 (off2 + i * 7) bb2 (off2 + k * 7) x z x.id wr3 (hpx.below hbr3S hplt) (hpz.below hbr3S hplt) hgx hgz).mono ?_
                rintro e wr4 ⟨rfl, hbr4⟩
                have hbr4S : Below (w2.heap.size) w2 wr4 := hbr3S.trans (hbr4.mono hbr3S.size)
                refine hK _ _ (regrown_of_below hbr4S) ?_
                clear hK K
                refine wpMix_act (by kernel_rfl) (fun K hK => ?_)
                have hbb : BxG wr4 (w2.heap.size) := (hbr3F.1.below hbr4 hbr3F.2)
                refine wp_store_mid _ _ _ rfl (w2.heap.size) 0 #[.string x.id, .int .i64 (x.people + z.people), .int .i64 (x.guides + z.guides), .int .i64 (x.beacons + z.beacons), .int .i64 (x.shovels + z.shovels), .int .i64 (x.probes + z.probes), .int .i64 (min x.skill z.skill)] rfl rfl hbb.there (by kernel_rfl) (by simp [Value.oneCell']) ?_
                have hp5 := PGroup.stored hbb (sumG x z x.id)
                have hb5 : ∀ b, b = w2.heap.size → Below w2.heap.size w2 (wr4.setCells b 0 [.string x.id, .int .i64 (x.people + z.people), .int .i64 (x.guides + z.guides), .int .i64 (x.beacons + z.beacons), .int .i64 (x.shovels + z.shovels), .int .i64 (x.probes + z.probes), .int .i64 (min x.skill z.skill)]) := fun b hb => by subst hb; exact hbr4S.trans (belowSetCells (Nat.le_refl _) _ _ _)
                have hbx5 : B ≤ w2.heap.size := Nat.le_trans hBw2 (Nat.le_refl _)
                generalize hbxe : w2.heap.size = bx at hbb hp5 hbx5 ⊢
                replace hb5 := hb5 bx hbxe.symm
                clear hbxe
                change K _ (wr4.setCells bx 0 [.string x.id, .int .i64 (x.people + z.people), .int .i64 (x.guides + z.guides), .int .i64 (x.beacons + z.beacons), .int .i64 (x.shovels + z.shovels), .int .i64 (x.probes + z.probes), .int .i64 (min x.skill z.skill)])
                change PGroup (wr4.setCells bx 0 [.string x.id, .int .i64 (x.people + z.people), .int .i64 (x.guides + z.guides), .int .i64 (x.beacons + z.beacons), .int .i64 (x.shovels + z.shovels), .int .i64 (x.probes + z.probes), .int .i64 (min x.skill z.skill)]) bx 0 _ at hp5
                generalize wr4.setCells bx 0 [.string x.id, .int .i64 (x.people + z.people), .int .i64 (x.guides + z.guides), .int .i64 (x.beacons + z.beacons), .int .i64 (x.shovels + z.shovels), .int .i64 (x.probes + z.probes), .int .i64 (min x.skill z.skill)] = w5 at *
                try simp only [Act.put, List.setIfInBounds_toArray, List.set_cons_zero, List.set_cons_succ]
                refine hK _ _ (regrown_of_below hb5) ?_
                clear hK K
                refine wpMix_nil ?_
                clear hbb x0 xi gx0 gxi hS0 hpx hpz hl2 hplt
                have hm5 := hm2.below hb5
                have hb05 := hb02.trans (hb5.mono hBw2)
                clear hm2 hb02 hb5 hBw2
                have hgY : groupB (sumG x z x.id) = true → 1 ≤ (sumG x z x.id).people ∧ (sumG x z x.id).people ≤ 1000 := groupB_people
                have hidY : (sumG x z x.id).id.size ≤ 9223372036854775807 := by have := hgx.id; show x.id.size ≤ _; omega
                generalize sumG x z x.id = y at *
                go_upto_region 18 with fail
                go_cut [131] from 88 to 178 (fun s wx => s = .bool (groupB y && goesB y lvl) ∧ Below w5.heap.size w5 wx)
                case first =>
                  cases hg1 : groupB y
                  · go_wp2_with fail
                    refine (l24One_any _ 0 y _ hp5 hidY).mono ?_
                    rintro e w6 ⟨rfl, hb6⟩
                    rw [hg1]
                    go_wp2_with fail
                    go_meet
                    case rel => exact ⟨by rw [hg1]; rfl, hb6⟩
                  · have hgp := hgY hg1
                    go_wp2_with fail
                    refine (l24One_any _ 0 y _ hp5 hidY).mono ?_
                    rintro e w6 ⟨rfl, hb6⟩
                    rw [hg1]
                    have y1 : w6.cell? ⟨g, 1, none⟩ = some (.int .i64 lvl) := (hm5.below hb6).bx.cell 1 _ rfl
                    have hp6 := hp5.below' hb6
                    have HG := Lib.hid hg1
                    clear hgY hg1
                    go_wp2_with fail
                    refine (l24Goes_any _ 0 y lvl _ hp6 hgp).mono ?_
                    rintro e w7 ⟨rfl, hb7⟩
                    go_wp2_with fail
                    go_meet
                    case rel => exact ⟨by rw [HG.out]; rfl, hb6.trans (hb7.mono hb6.size)⟩
                case rest =>
                  obtain ⟨rfl, hb6⟩ := hcut
                  rename World => w6
                  have hm6 := hm5.below hb6
                  have hp6 := hp5.below' hb6
                  have hBw5 : B ≤ w5.heap.size := Nat.le_trans hBw hb05.size
                  have hb06 := hb05.trans (hb6.mono hBw5)
                  clear hm5 hp5 hb6 hb05
                  go_upto_if 131 with fail
                  go_cut [10] from 88 to 178 (fun s wx => s = .int .i64 (if groupB y && goesB y lvl then y.people else 0) ∧ w6 = wx)
                  case first =>
                    cases hgo : (groupB y && goesB y lvl)
                    · go_wp2_with fail
                      go_meet
                      case rel => exact ⟨by rw [hgo]; rfl, rfl⟩
                    · have y1 : w6.cell? ⟨bx, 1, none⟩ = some (.int .i64 y.people) := hp6.c1
                      go_wp2_with fail
                      go_meet
                      case rel => exact ⟨by rw [hgo]; rfl, rfl⟩
                  case rest =>
                    obtain ⟨rfl, rfl⟩ := hcut
                    have hmo2 : 0 ≤ (if groupB y && goesB y lvl then y.people else 0) ∧ (if groupB y && goesB y lvl then y.people else 0) ≤ 1000 := by
                      cases hgo : (groupB y && goesB y lvl)
                      · simp
                      · rw [Bool.and_eq_true] at hgo
                        have := hgY hgo.1
                        simp only [if_true]; omega
                    clear hgY
                    generalize (if groupB y && goesB y lvl then y.people else 0) = mo at *
                    clear hp6
                    obtain ⟨A3, k3, rfl⟩ := hm6.pr.form
                    have c2 : w6.cell? ⟨g, 2, none⟩ = some (.slice (some ⟨gu, 0, none⟩) U.length U.length) := hm6.bx.cell 2 _ rfl
                    have ck : w6.cell? ⟨gu, k, none⟩ = some (.bool (U[k]'hkU)) := hm6.us.cell _ _ (by rw [List.getElem?_map, List.getElem?_eq_getElem hkU]; rfl)
                    have zk := hm6.us.frz k (by simpa using hkU)
                    have hm8 := hm6.mark k true
                    have hb08 := hb06.setCell (p := ⟨gu, k, none⟩) hm6.guB (.bool true)
                    go_upto_region 21 with fail
                    generalize w6.setCell ⟨gu, k, none⟩ (.bool true) = w8 at *
                    clear hm6 hb06 c2 ck zk
                    have hgl8 := hm8.bx.lt
                    have hul8 := hm8.us.lt
                    have hA2 : Below w8.heap.size w8 ((w8.alloc (.cells #[.int .i64 (i : Int), .int .i64 (k : Int)] 2)).alloc (.cells #[.slice (some ⟨w8.heap.size, 0, none⟩) 2 2] 50)) := ((Below.refl _ _).alloc (Nat.le_refl _) _).alloc (by simp) _
                    have hm9 := hm8.below hA2
                    have hown9 := hm9.pr.own
                    have hyy : Own fInt ((w8.alloc (.cells #[.int .i64 (i : Int), .int .i64 (k : Int)] 2)).alloc (.cells #[.slice (some ⟨w8.heap.size, 0, none⟩) 2 2] 50)) B 2 (.slice (some ⟨w8.heap.size, 0, none⟩) 2 2) [(i : Int), (k : Int)] := (own_lit2 (Nat.le_trans hm8.gB (Nat.le_of_lt hgl8)) (i : Int) (k : Int) 2).below ((Below.refl _ _).alloc (Nat.le_refl _) _)
                    have hszB : ((w8.alloc (.cells #[.int .i64 (i : Int), .int .i64 (k : Int)] 2)).alloc (.cells #[.slice (some ⟨w8.heap.size, 0, none⟩) 2 2] 50)).heap.size = w8.heap.size + 2 := by simp
                    have hBB : B ≤ ((w8.alloc (.cells #[.int .i64 (i : Int), .int .i64 (k : Int)] 2)).alloc (.cells #[.slice (some ⟨w8.heap.size, 0, none⟩) 2 2] 50)).heap.size := by rw [hszB]; have := hm8.gB; omega
                    have hbB : Below B w8 ((w8.alloc (.cells #[.int .i64 (i : Int), .int .i64 (k : Int)] 2)).alloc (.cells #[.slice (some ⟨w8.heap.size, 0, none⟩) 2 2] 50)) := hA2.mono (Nat.le_trans hm8.gB (Nat.le_of_lt hgl8))
                    have hcJ := cell_one_new (w8.alloc (.cells #[.int .i64 (i : Int), .int .i64 (k : Int)] 2)) (.slice (some ⟨w8.heap.size, 0, none⟩) 2 2) 50
                    rw [World.size_alloc] at hcJ
                    have c3 : w8.cell? ⟨g, 3, none⟩ = some (.slice A3 Pp.length k3) := hm8.bx.cell 3 _ rfl
                    have hPl9 : Pp.length ≤ 8 := by have := hP.1; omega
                    go_wp2_with (at_builtin; go_loud (refine wpList_append_lies _ rfl _ _ 24 rfl B 50 i1 (.slice none 0 0) 1 24 Try.underlying24 hi1 hy0 hy1 hy2 rfl (by decide) (.slice A3 Pp.length k3) Pp.length _ rfl hown9 _ 1 1 [.slice (some ⟨w8.heap.size, 0, none⟩) 2 2] rfl rfl hcJ (by intro u hu; rw [List.mem_singleton] at hu; subst hu; rfl) (by decide) (by unfold maxLen; omega) (by omega) (by (try simp); have := hm8.gB; omega) (w8.heap.size + 2) (by simp) ?_))
                    intro gq cq u hownU hgr hli hltu
                    have hl9 : (Value.slice (some ⟨gq, 0, none⟩) (Pp.length + 1) cq).ownBlock = (Value.slice A3 Pp.length k3).ownBlock ∨ (Value.slice (some ⟨gq, 0, none⟩) (Pp.length + 1) cq).ownBlock = some ((w8.alloc (.cells #[.int .i64 (i : Int), .int .i64 (k : Int)] 2)).alloc (.cells #[.slice (some ⟨w8.heap.size, 0, none⟩) 2 2] 50)).heap.size := by
                      rcases hli with h | h
                      · exact .inl h.symm
                      · exact .inr (by rw [hszB, ← h]; rfl)
                    have hbU := hbB.trans ((Below.refl B _).grown hgr hBB (fun k hk => (hown9.lt k hk).1))
                    have hm10 := hm9.push (a := w8.heap.size) 3 hyy (fun e => by omega) (fun e => by omega) (fun e => by have := (hm8.pr.lt e).2; omega) (fun e => by have := (hm8.bs.lt e).2; omega) hownU hgr hl9 rfl
                    have hgg9 : (Value.slice A3 Pp.length k3).ownBlock ≠ some g := fun e => (hm9.np g (.inl e)).1 rfl
                    have hbxu := hm9.bx.keep (hgr.block g hm9.bx.lt (fun e => hgg9 e.symm)) hgr.size
                    have c3u : u.cell? ⟨g, 3, none⟩ = some (.slice A3 Pp.length k3) := hbxu.cell 3 _ rfl
                    have z3u := hbxu.frz 3 (by show 3 < 9; decide)
                    have hbV := (hb08.trans hbU).setCell (p := ⟨g, 3, none⟩) hm8.gB (.slice (some ⟨gq, 0, none⟩) (Pp.length + 1) cq)
                    clear hownU hgr hli hl9 hbU hgg9 hbxu hm9 hm8 hcJ hbB hBB hszB hyy hown9 hA2 hb08 hul8 hgl8 hltu c3
                    go_upto_region 22 with fail
                    generalize u.setCell ⟨g, 3, none⟩ (.slice (some ⟨gq, 0, none⟩) (Pp.length + 1) cq) = w10 at *
                    clear c3u z3u
                    have hUl : (U.set k true).length = U.length := List.length_set
                    have hat := Lib.hid (E8.out.trans (congrArg Nat.cast e7.out))
                    have hl10 := hlist.below hbV hfl
                    have hPP := hP.push (i := i) (k := k) (by omega) hin hkn
                    have hsum : wrap64 (people + mo) = people + mo := by unfold wrap64; omega
                    clear hsum
                    rw [← hUl] at hm10
                    have hrun := ihm.out (U.set k true) (Pp ++ [(i, k)]) ⟨T.best, T.most, T.c - 1⟩ (people + mo) _ (by omega) (hUl.trans hU) hPP (by rw [List.length_append]; show Pp.length + 1 + m' ≤ _; omega) hT.1 (by show -1 ≤ T.c - 1; omega) (by show T.c - 1 ≤ bud; omega) (by omega) (by omega) hT.2.2 hl10 ⟨_, _, _, _, _, _, hm10⟩
                    rw [← hat.out] at hrun
                    clear hm10 hl10 hPP
                    go_wp2_with fail
                    refine hrun.mono ?_
                    rintro e w11 ⟨rfl, ⟨vp1, vb1, Vp1, Gp1, Vb1, Gb1, hm11⟩, hT11, hb11⟩
                    have HC1 := HC.out
                    generalize visitF (wOne xs lvl) (wTwo xs lvl) xs.length m' (U.set k true) (Pp ++ [(i, k)]) (people + mo) ⟨T.best, T.most, T.c - 1⟩ = T1 at hm11 hT11 HC1
                    have HC2 := Lib.hid HC1
                    have hlp : (Pp ++ [(i, k)]).length = Pp.length + 1 := by simp
                    have hb12 := hbV.trans hb11
                    clear HC HC1 hat hbV hb11 hmo2 hrun
                    obtain ⟨gp, cp, rfl, hcp1, hcp2⟩ : ∃ gp cp, vp1 = .slice (some ⟨gp, 0, none⟩) (Pp.length + 1) cp ∧ Pp.length + 1 ≤ cp ∧ cp ≤ 9223372036854775807 := by
                      rcases hm11.pr.own.2 with ⟨_, h0⟩ | ⟨g', cap', cur, hv, _, _, h1, h2, _⟩
                      · rw [hlp] at h0; omega
                      · rw [hlp] at hv h1; exact ⟨g', cap', hv, h1, h2⟩
                    rw [hUl] at hm11
                    clear hlp hUl
                    have c3 : w11.cell? ⟨g, 3, none⟩ = some (.slice (some ⟨gp, 0, none⟩) (Pp.length + 1) cp) := hm11.bx.cell 3 _ rfl
                    have z3 := hm11.bx.frz 3 (by show 3 < 9; decide)
                    have hPl8 : Pp.length ≤ 8 := by have := hP.1; omega
                    have hcp3 : Pp.length ≤ cp := by omega
                    go_wp2
                    have gc3 := cell_regrown c3
                    refine wp_region_sink (C := fun w' => ∃ p : Regrown, w' = Go.Sort.grow (redrawn w11 p.d) p.os) [0, 1, 2, 3, 4, 5, 6, 7, 8, 9, 10, 11, 12, 13, 14] [true, true, true, true, true, true, true, true, true, true, true, true, true, true, false] 14 (by kernel_rfl) (by kernel_rfl) (by kernel_rfl) (fun _ _ d _ _ h => by cases d <;> exact h) (regrown_of_below (Below.drew (Below.refl _ _))) ?_
                    simp only [List.map_cons, List.map_nil, List.getD_cons_zero, List.getD_cons_succ]
                    have hS0 : Below (w11.heap.size) w11 w11.drew := Below.drew (Below.refl _ _)
                    refine wpMixS_pure (by kernel_rfl) (fun K hK => ?_)
                    go_big_quiet_op
                    refine hK _ ?_; clear hK K
                    refine wpMixS_pure (by kernel_rfl) (fun K hK => ?_)
                    go_big_quiet_op
                    refine hK _ ?_; clear hK K
                    refine wpMixS_pure (by kernel_rfl) (fun K hK => ?_)
                    go_big_quiet_op
                    refine hK _ ?_; clear hK K
                    refine wpMixS_pure (by kernel_rfl) (fun K hK => ?_)
                    go_big_quiet_op
                    refine hK _ ?_; clear hK K
                    refine wpMixS_pure (by kernel_rfl) (fun K hK => ?_)
                    go_big_quiet_op
                    refine hK _ ?_; clear hK K
                    refine wpMixS_pure (by kernel_rfl) (fun K hK => ?_)
                    go_big_quiet_op
                    refine hK _ ?_; clear hK K
                    refine wpMixS_pure (by kernel_rfl) (fun K hK => ?_)
                    go_big_quiet_op
                    refine hK _ ?_; clear hK K
                    refine wpMixS_pure (by kernel_rfl) (fun K hK => ?_)
                    go_big_quiet_op
                    refine hK _ ?_; clear hK K
                    refine wpMixS_pure (by kernel_rfl) (fun K hK => ?_)
                    go_big_quiet_op
                    refine hK _ ?_; clear hK K
                    refine wpMixS_pure (by kernel_rfl) (fun K hK => ?_)
                    go_big_quiet_op
                    refine hK _ ?_; clear hK K
                    refine wpMixS_pure (by kernel_rfl) (fun K hK => ?_)
                    go_big_quiet_op
                    refine hK _ ?_; clear hK K
                    refine wpMixS_pure (by kernel_rfl) (fun K hK => ?_)
                    go_big_quiet_op
                    refine hK _ ?_; clear hK K
                    refine wpMixS_pure (by kernel_rfl) (fun K hK => ?_)
                    go_big_quiet_op
                    refine hK _ ?_; clear hK K
                    refine wpMixS_pure (by kernel_rfl) (fun K hK => ?_)
                    go_big_quiet_op
                    refine hK _ ?_; clear hK K
                    refine wpMixS_last (by kernel_rfl) (fun K hK => ?_)
                    go_big_op
                    try simp only [Act.put, List.setIfInBounds_toArray, List.set_cons_zero, List.set_cons_succ]
                    refine hK _ _ ?_
                    clear hK K
                    have hm12 := (hm11.below hS0).cut 3 rfl
                    have hb13 := (hb12.trans (hS0.mono (Nat.le_trans hm11.gB (Nat.le_of_lt hm11.bx.lt)))).setCell (p := ⟨g, 3, none⟩) hm11.gB (.slice (some ⟨gp, 0, none⟩) Pp.length cp)
                    clear hm11 gc3 c3 z3 hb12 hS0
                    have hq7 : w11.drew.setCell ⟨g, 3, none⟩ (.slice (some ⟨gp, 0, none⟩) Pp.length cp) = (w11.setCell ⟨g, 3, none⟩ (.slice (some ⟨gp, 0, none⟩) Pp.length cp)).drew := rfl
                    rw [hq7] at hm12 hb13
                    clear hq7
                    revert hm12 hb13
                    generalize (w11.setCell ⟨g, 3, none⟩ (.slice (some ⟨gp, 0, none⟩) Pp.length cp)).drew = w12
                    intro hm12 hb13
                    have c2 : w12.cell? ⟨g, 2, none⟩ = some (.slice (some ⟨gu, 0, none⟩) U.length U.length) := hm12.bx.cell 2 _ rfl
                    have ck : w12.cell? ⟨gu, k, none⟩ = some (.bool true) := hm12.us.cell _ _ (by rw [List.getElem?_map, List.getElem?_set_self hkU]; rfl)
                    have zk := hm12.us.frz k (by simpa using hkU)
                    have hm13 := hm12.mark k false
                    rw [set_back hkU hgf] at hm13
                    have hb14 := hb13.setCell (p := ⟨gu, k, none⟩) hm12.guB (.bool false)
                    clear hm12 hb13
                    go_wp2
                    go_roundw
                    case rel => exact ⟨k + 1, by omega, by omega, by go_num, T1, HC2, hT11, ⟨_, _, _, _, _, _, hm13⟩, hb14⟩
                    case measure => simp [intOf]; omega
            · rw [huk] at cu
              have hg : U.getD k false = true := by rw [getD_of_lt hkU]; exact huk
              have HS := Lib.hid ((foldK_skip (w2 := wTwo xs lvl) (g := visitF (wOne xs lvl) (wTwo xs lvl) xs.length m') (used := U) (pairs := Pp) (i := i) (people := people) (S := S) hg).trans HT.out)
              clear hg huk
              go_wp2
              go_roundw
              case rel => exact ⟨k + 1, by omega, by omega, by go_num, T, HS, hT, ⟨vp9, vb9, Vp9, Gp9, Vb9, Gb9, hm⟩, hbr⟩
              case measure => simp [intOf]; omega
          · obtain rfl : k = xs.length := by omega
            go_wp2_with fail
            refine (specNode_any _ hm hT.2.1.1 hT.2.1.2 hbud).mono ?_
            rintro e w2 ⟨rfl, hm2, hb2⟩
            have hb02 := hbr.trans hb2
            by_cases hc : 0 < T.c
            rotate_left
            · have e1 : decide (0 < T.c) = false := decide_eq_false hc
              have hnc : nodeC T.c = -1 := by unfold nodeC; rw [if_pos (by omega)]
              have HV := Lib.hid (HN.out.trans (by rw [HT.out, childF_dead (by omega)]))
              rw [hnc] at hm2
              rw [e1]
              clear HN HT e1 hc hnc ihm
              go_wp2
              refine bodyPost_ret (results_none rfl _ _ _) rfl ?_
              exact ⟨rfl, by rw [HV.out]; exact ⟨_, _, _, _, _, _, hm2⟩, by rw [HV.out]; exact ⟨hT.1, ⟨by show (-1 : Int) ≤ -1; omega, by show (-1 : Int) ≤ bud; omega⟩, hT.2.2⟩, hb02⟩
            have e1 : decide (0 < T.c) = true := decide_eq_true hc
            have hnc : nodeC T.c = T.c - 1 := by unfold nodeC; rw [if_neg (by omega)]
            have hchild := childF_live (f := visitF (wOne xs lvl) (wTwo xs lvl) xs.length m' U Pp) (p := people + wOne xs lvl i) (S := T) hc
            have HC := Lib.hid (HN.out.trans (by rw [HT.out, hchild]))
            have hTc := hT.2.1
            rw [hnc] at hm2
            rw [e1]
            clear HN HT e1 hnc hchild hm hbr hb2
            have hl2 := hlist.below hb02 hfl
            obtain ⟨bb, off, rfl, _, _, hp⟩ := PGroup.elem hl2 hin
            have q1 := groupB_people (groupsB_one hv hin)
            have hwx : wOne xs lvl i = if goesB xs[i] lvl then xs[i].people else 0 := by unfold wOne; rw [getD_of_lt hin]
            rw [hwx] at HC
            generalize xs[i] = x at *
            have x0 : w2.cell? ⟨g, 0, none⟩ = some (.slice (some ⟨bb, off, none⟩) xs.length cap) := hm2.bx.cell 0 _ rfl
            have x1 : w2.cell? ⟨g, 1, none⟩ = some (.int .i64 lvl) := hm2.bx.cell 1 _ rfl
            have hplt := hp.lt
            have hBw2 : B ≤ w2.heap.size := Nat.le_trans hBw hb02.size
            clear hwx
            go_upto_region 27 with fail
            have gx0 := cell_regrown x0
            have gx1 := cell_regrown x1
            refine wp_region_mix (C := fun w' => ∃ p : Regrown, w' = Go.Sort.grow (redrawn w2 p.d) p.os) [true, true, true, true, true, true, true, true, true, true, false] (by kernel_rfl) (by kernel_rfl) (by kernel_rfl) (fun _ _ d _ _ h => by cases d <;> exact h) (regrown_of_below (Below.drew (Below.refl _ _))) ?_
            have hS0 : Below (w2.heap.size) w2 w2.drew := Below.drew (Below.refl _ _)
            refine wpMix_pure (by kernel_rfl) (fun K hK => ?_); go_big_quiet_op; refine hK _ ?_; clear hK K
            refine wpMix_pure (by kernel_rfl) (fun K hK => ?_); go_big_quiet_op; refine hK _ ?_; clear hK K
            refine wpMix_pure (by kernel_rfl) (fun K hK => ?_); go_big_quiet_op; refine hK _ ?_; clear hK K
            refine wpMix_pure (by kernel_rfl) (fun K hK => ?_); go_big_quiet_op; refine hK _ ?_; clear hK K
            refine wpMix_pure (by kernel_rfl) (fun K hK => ?_); go_big_quiet_op; refine hK _ ?_; clear hK K
            refine wpMix_pure (by kernel_rfl) (fun K hK => ?_); go_big_quiet_op; refine hK _ ?_; clear hK K
            refine wpMix_pure (by kernel_rfl) (fun K hK => ?_); go_big_quiet_op; refine hK _ ?_; clear hK K
            refine wpMix_pure (by kernel_rfl) (fun K hK => ?_); go_big_quiet_op; refine hK _ ?_; clear hK K
            refine wpMix_pure (by kernel_rfl) (fun K hK => ?_); go_big_quiet_op; refine hK _ ?_; clear hK K
            refine wpMix_pure (by kernel_rfl) (fun K hK => ?_); go_big_quiet_op; refine hK _ ?_; clear hK K
            refine wpMix_act (by kernel_rfl) (fun K hK => ?_)
            go_big_op
            refine (l24Goes_any bb (off + i * 7) x lvl w2.drew (hp.below hS0 hplt) q1).mono ?_
            rintro e wr1 ⟨rfl, hbr1⟩
            have hbr1S : Below (w2.heap.size) w2 wr1 := hS0.trans (hbr1.mono hS0.size)
            refine hK _ _ (regrown_of_below hbr1S) ?_
            clear hK K
            refine wpMix_nil ?_
            have hm3 := hm2.below hbr1S
            have hp3 := hp.below hbr1S hplt
            have hb03 := hb02.trans (hbr1S.mono hBw2)
            have hl3 := hlist.below hb03 hfl
            have hat := Lib.hid (E8.out.trans (congrArg Nat.cast e7.out))
            clear x0 x1 gx0 gx1 hS0 hm2 hp hplt
            obtain ⟨_, d1, _⟩ := id hp3
            have y0 : wr1.cell? ⟨g, 0, none⟩ = some (.slice (some ⟨bb, off, none⟩) xs.length cap) := hm3.bx.cell 0 _ rfl
            cases hgo : goesB x lvl
            · rw [hgo] at HC
              simp only [Bool.false_eq_true, if_false, Int.add_zero] at HC
              go_wp2_with fail
              rw [hat.out]
              refine (ihm.out U Pp ⟨T.best, T.most, T.c - 1⟩ people _ (by omega) hU hP (by omega) hT.1 (by show -1 ≤ T.c - 1; omega) (by show T.c - 1 ≤ bud; omega) (by omega) (by omega) hT.2.2 hl3 ⟨_, _, _, _, _, _, hm3⟩).mono ?_
              rintro e w4 ⟨rfl, hm4, hT4, hb4⟩
              go_wp2
              refine bodyPost_end (results_none rfl _ _ _) rfl ?_
              exact ⟨rfl, by rw [HC.out]; exact hm4, by rw [HC.out]; exact hT4, hb03.trans hb4⟩
            · rw [hgo] at HC
              simp only [if_true] at HC
              go_wp2_with fail
              rw [hat.out]
              refine (ihm.out U Pp ⟨T.best, T.most, T.c - 1⟩ (people + x.people) _ (by omega) hU hP (by omega) hT.1 (by show -1 ≤ T.c - 1; omega) (by show T.c - 1 ≤ bud; omega) (by omega) (by omega) hT.2.2 hl3 ⟨_, _, _, _, _, _, hm3⟩).mono ?_
              rintro e w4 ⟨rfl, hm4, hT4, hb4⟩
              go_wp2
              refine bodyPost_end (results_none rfl _ _ _) rfl ?_
              exact ⟨rfl, by rw [HC.out]; exact hm4, by rw [HC.out]; exact hT4, hb03.trans hb4⟩
      · rw [hu] at cu
        have hg : U.getD (xs.length - (m' + 1)) false = true := by rw [getD_of_lt hi]; exact hu
        have HS := Lib.hid (HV.out.trans (visitF_skip hg))
        have e9 : xs.length - (m' + 1) + 1 = xs.length - m' := by omega
        have e8 : ((xs.length - (m' + 1) : Nat) : Int) + 1 = ((xs.length - m' : Nat) : Int) := by omega
        have hlt : ((xs.length - (m' + 1) : Nat) : Int) < (xs.length : Int) := by omega
        go_wp2
        go_round
        case rel => exact ⟨m', by omega, by first | rfl | (congr 1; omega) | go_num, HS⟩
        case measure => simp [intOf]; omega
end Go.Proofs.Ytjfaafoldllppaa

namespace Go.Proofs.Ytjfaafoldllppaa
open Go.RowKit
set_option linter.unusedVariables false

def cmT (a b : ByteArray) : Int := if ltS a b then -1 else if ltS b a then 1 else 0
theorem cmT_zero {a b : ByteArray} : cmT a b = 0 ↔ a = b := by
  unfold cmT
  constructor
  · intro h
    cases h1 : ltS a b with
    | true => rw [h1] at h; simp at h
    | false =>
      cases h2 : ltS b a with
      | true => rw [h1, h2] at h; simp at h
      | false => exact ltS_tri h1 h2
  · rintro rfl; simp [ltS_irrefl]
theorem cmT_lt {a b : ByteArray} : cmT a b < 0 ↔ ltS a b = true := by
  unfold cmT
  cases h1 : ltS a b with
  | true => simp
  | false => cases h2 : ltS b a <;> simp
theorem cmT_bounds (a b : ByteArray) : -1 ≤ cmT a b ∧ cmT a b ≤ 1 := by
  unfold cmT
  cases ltS a b <;> cases ltS b a <;> simp
def cmI (a b : Int) : Int := if a < b then -1 else if b < a then 1 else 0
theorem cmI_zero {a b : Int} : cmI a b = 0 ↔ a = b := by
  unfold cmI
  split
  · constructor
    · intro h; cases h
    · intro h; omega
  · split
    · constructor
      · intro h; cases h
      · intro h; omega
    · constructor
      · intro _; omega
      · intro _; rfl
theorem cmI_lt {a b : Int} : cmI a b < 0 ↔ a < b := by
  unfold cmI
  split
  · rename_i h; simp [h]
  · rename_i h
    split <;> simp <;> omega
theorem cmI_bounds (a b : Int) : -1 ≤ cmI a b ∧ cmI a b ≤ 1 := by
  unfold cmI
  (repeat' split) <;> simp
set_option maxRecDepth 100000 in
set_option maxHeartbeats 400000 in
theorem isNaNI_any (a : Int) (w : World) : Calls Try.prog 81 #[.int .i64 a] w fun e w' => e = .returned (.bool false) ∧ w = w' := by
  go_enter Try.func81, Try.ntmps81
  go_wp2
  go_ret
  exact ⟨rfl, rfl⟩
set_option maxRecDepth 100000 in
set_option maxHeartbeats 1000000 in
theorem compareI_any (a b : Int) (w : World) : Calls Try.prog 75 #[.int .i64 a, .int .i64 b] w fun e w' => e = .returned (.int .i64 (cmI a b)) ∧ w = w' := by
  by_cases h1 : a < b
  · go_enter Try.func75, Try.ntmps75
    go_wp2_with (go_at_call 81; refine (isNaNI_any _ _).mono ?_; rintro e w' ⟨rfl, rfl⟩)
    go_ret
    exact ⟨ret_int (by unfold cmI; rw [if_pos h1]), rfl⟩
  · by_cases h2 : b < a
    · go_enter Try.func75, Try.ntmps75
      go_wp2_with (go_at_call 81; refine (isNaNI_any _ _).mono ?_; rintro e w' ⟨rfl, rfl⟩)
      go_ret
      exact ⟨ret_int (by unfold cmI; rw [if_neg (Int.not_lt.2 h1), if_pos h2]), rfl⟩
    · go_enter Try.func75, Try.ntmps75
      go_wp2_with (go_at_call 81; refine (isNaNI_any _ _).mono ?_; rintro e w' ⟨rfl, rfl⟩)
      go_ret
      exact ⟨ret_int (by unfold cmI; rw [if_neg (Int.not_lt.2 h1), if_neg (Int.not_lt.2 h2)]), rfl⟩
def orI : List Int → Int
  | [] => 0
  | x :: xs => if x = 0 then orI xs else x
theorem orI_cons (x : Int) (xs : List Int) : orI (x :: xs) = if x = 0 then orI xs else x := rfl
theorem orI_two (a b : Int) : orI [a, b] = if a = 0 then b else a := by
  unfold orI; split
  · unfold orI orI; split <;> simp_all
  · rfl
theorem orI_three (a b c : Int) : orI [a, b, c] = if a = 0 then (if b = 0 then c else b) else a := by
  rw [orI_cons]
  split
  · exact orI_two b c
  · rfl
theorem cmT_ok (a b : ByteArray) : fInt.ok (cmT a b) := by
  have := cmT_bounds a b
  show _ ∧ _
  omega
theorem cmI_ok (a b : Int) : fInt.ok (cmI a b) := by
  have := cmI_bounds a b
  show _ ∧ _
  omega
end Go.Proofs.Ytjfaafoldllppaa

namespace Go.Proofs.Ytjfaafoldllppaa
open Go.RowKit
set_option linter.unusedVariables false

/-- Lists in the order of a dictionary: what slices.Compare yields. -/
def cmpL : List Int → List Int → Int
  | [], [] => 0
  | [], _ :: _ => -1
  | _ :: _, [] => 1
  | a :: p, b :: q => if a = b then cmpL p q else cmI a b
theorem cmpL_bounds : ∀ p q : List Int, -1 ≤ cmpL p q ∧ cmpL p q ≤ 1
  | [], [] => by simp [cmpL]
  | [], _ :: _ => by simp [cmpL]
  | _ :: _, [] => by simp [cmpL]
  | a :: p, b :: q => by
    rw [cmpL]
    split
    · exact cmpL_bounds p q
    · exact cmI_bounds a b
theorem cmpL_end (xs ys : List Int) : cmpL (xs.drop xs.length) (ys.drop xs.length) = if xs.length < ys.length then -1 else 0 := by
  rw [List.drop_length]
  by_cases h : xs.length < ys.length
  · rw [if_pos h, List.drop_eq_getElem_cons h]; rfl
  · rw [if_neg h, List.drop_of_length_le (by omega)]; rfl
theorem cmpL_short {xs ys : List Int} {i : Nat} (h1 : i < xs.length) (h2 : i = ys.length) : cmpL (xs.drop i) (ys.drop i) = 1 := by
  subst h2
  rw [List.drop_length, List.drop_eq_getElem_cons h1]; rfl
theorem cmpL_step {xs ys : List Int} {i : Nat} (h1 : i < xs.length) (h2 : i < ys.length) : cmpL (xs.drop i) (ys.drop i) = if xs[i] = ys[i] then cmpL (xs.drop (i + 1)) (ys.drop (i + 1)) else cmI xs[i] ys[i] := by
  rw [List.drop_eq_getElem_cons h1, List.drop_eq_getElem_cons h2, cmpL]
set_option maxRecDepth 100000 in
set_option maxHeartbeats 4000000 in
theorem compareL_any (v u : Value) (xs ys : List Int) (fp fq : List Nat) (w : World) (hx : Sl fInt.cod w v xs fp) (hy : Sl fInt.cod w u ys fq) (hlx : xs.length ≤ 1000000) (hly : ys.length ≤ 1000000) :
    Calls Try.prog 57 #[v, u] w fun e w' => e = .returned (.int .i64 (cmpL xs ys)) ∧ w = w' := by
  obtain ⟨A, ca, rfl, _, _⟩ := hx.form
  obtain ⟨B, cb, rfl, _, _⟩ := hy.form
  go_enter Try.func57, Try.ntmps57
  go_wp2
  go_loop [11] (fun a => ∃ i : Nat, a = .int .i64 i ∧ i ≤ xs.length ∧ i ≤ ys.length ∧ Hid (cmpL xs ys = cmpL (xs.drop i) (ys.drop i))) (fun a => xs.length - (intOf a).toNat)
  case atStart => exact ⟨0, rfl, Nat.zero_le _, Nat.zero_le _, rfl⟩
  case round =>
    obtain ⟨i, rfl, hi, hj, HC⟩ := hrel
    by_cases hlt : i < xs.length
    · have hlt9 : (i : Int) < (xs.length : Int) := by omega
      obtain ⟨b1, o1, rfl, _, _, c1, _⟩ := hx.cell1 rfl hlt rfl
      by_cases hly2 : i < ys.length
      · have hly9 : (i : Int) < (ys.length : Int) := by omega
        obtain ⟨b2, o2, rfl, _, _, c2, _⟩ := hy.cell1 rfl hly2 rfl
        have HS := Lib.hid (HC.out.trans (cmpL_step hlt hly2))
        have hb := cmI_bounds xs[i] ys[i]
        by_cases he : xs[i] = ys[i]
        · have HT := Lib.hid (HS.out.trans (if_pos he))
          have hz : cmI xs[i] ys[i] = 0 := cmI_zero.2 he
          generalize xs[i] = p at *
          generalize ys[i] = q at *
          clear he HS
          go_wp2_with fail
          refine (compareI_any _ _ _).mono ?_
          rintro e w' ⟨rfl, rfl⟩
          rw [hz]
          go_wp2
          go_round
          case rel => exact ⟨i + 1, by go_num, by omega, by omega, HT⟩
          case measure => simp [intOf]; omega
        · have HT := Lib.hid (HS.out.trans (if_neg he))
          have hz : (cmI xs[i] ys[i] != 0) = true := by rw [bne_iff_ne]; exact fun h => he (cmI_zero.1 h)
          generalize xs[i] = p at *
          generalize ys[i] = q at *
          clear he HS
          go_wp2_with fail
          refine (compareI_any _ _ _).mono ?_
          rintro e w' ⟨rfl, rfl⟩
          generalize cmI p q = c at *
          go_wp2
          go_ret
          exact ⟨ret_int HT.out.symm, rfl⟩
      · have hye : (ys.length : Int) ≤ (i : Int) := by omega
        have HT := Lib.hid (HC.out.trans (cmpL_short hlt (by omega)))
        go_wp2
        go_ret
        exact ⟨ret_int HT.out.symm, rfl⟩
    · obtain rfl : i = xs.length := by omega
      have HT := Lib.hid (HC.out.trans (cmpL_end xs ys))
      by_cases h : xs.length < ys.length
      · have HU := Lib.hid (HT.out.trans (if_pos h))
        have h9 : (xs.length : Int) < (ys.length : Int) := by omega
        go_wp2
        go_ret
        exact ⟨ret_int HU.out.symm, rfl⟩
      · have HU := Lib.hid (HT.out.trans (if_neg h))
        have h9 : (ys.length : Int) ≤ (xs.length : Int) := by omega
        clear h
        go_wp2
        go_ret
        exact ⟨ret_int HU.out.symm, rfl⟩
end Go.Proofs.Ytjfaafoldllppaa

namespace Go.Proofs.Ytjfaafoldllppaa
open Go.RowKit
set_option linter.unusedVariables false

def prL (a : Nat × Nat) : List Int := [(a.1 : Int), (a.2 : Int)]
theorem cmpL_pr (a b : Nat × Nat) : cmpL (prL a) (prL b) = if a.1 = b.1 then cmI a.2 b.2 else cmI a.1 b.1 := by
  unfold prL
  rw [cmpL]
  by_cases h : a.1 = b.1
  · rw [if_pos h, if_pos (by omega), cmpL]
    by_cases h2 : a.2 = b.2
    · rw [if_pos (by omega), h2]
      show (0 : Int) = _
      exact (cmI_zero.2 rfl).symm
    · rw [if_neg (by omega)]
  · rw [if_neg h, if_neg (by omega)]
theorem cmpL_pr_zero {a b : Nat × Nat} (h : cmpL (prL a) (prL b) = 0) : a = b := by
  rw [cmpL_pr] at h
  by_cases h1 : a.1 = b.1
  · rw [if_pos h1] at h
    have := cmI_zero.1 h
    exact Prod.ext h1 (by omega)
  · rw [if_neg h1] at h
    have := cmI_zero.1 h
    omega
/-- Pairs in order, as slices.CompareFunc tells it. -/
def cmpP : List (Nat × Nat) → List (Nat × Nat) → Int
  | [], [] => 0
  | [], _ :: _ => -1
  | _ :: _, [] => 1
  | a :: p, b :: q => if cmpL (prL a) (prL b) = 0 then cmpP p q else cmpL (prL a) (prL b)
theorem cmpP_bounds : ∀ p q : List (Nat × Nat), -1 ≤ cmpP p q ∧ cmpP p q ≤ 1
  | [], [] => by simp [cmpP]
  | [], _ :: _ => by simp [cmpP]
  | _ :: _, [] => by simp [cmpP]
  | a :: p, b :: q => by
    rw [cmpP]
    split
    · exact cmpP_bounds p q
    · exact cmpL_bounds _ _
theorem cmpP_lt : ∀ p q : List (Nat × Nat), decide (cmpP p q < 0) = ltP p q
  | [], [] => rfl
  | [], _ :: _ => rfl
  | _ :: _, [] => rfl
  | a :: p, b :: q => by
    rw [cmpP, ltP]
    by_cases h : cmpL (prL a) (prL b) = 0
    · obtain rfl := cmpL_pr_zero h
      rw [if_pos h, if_pos rfl, if_pos rfl]
      exact cmpP_lt p q
    · rw [if_neg h]
      rw [cmpL_pr] at h ⊢
      by_cases h1 : a.1 = b.1
      · rw [if_pos h1] at h ⊢
        have h2 : a.2 ≠ b.2 := fun e => h (cmI_zero.2 (by omega))
        rw [if_pos h1, if_neg h2]
        have := @cmI_lt (a.2 : Int) (b.2 : Int)
        by_cases h3 : a.2 < b.2
        · rw [decide_eq_true h3, decide_eq_true (this.2 (by omega))]
        · rw [decide_eq_false h3, decide_eq_false (fun e => h3 (by have := this.1 e; omega))]
      · rw [if_neg h1] at h ⊢
        rw [if_neg h1]
        have := @cmI_lt (a.1 : Int) (b.1 : Int)
        by_cases h3 : a.1 < b.1
        · rw [decide_eq_true h3, decide_eq_true (this.2 (by omega))]
        · rw [decide_eq_false h3, decide_eq_false (fun e => h3 (by have := this.1 e; omega))]
theorem cmpP_end (P Q : List (Nat × Nat)) : cmpP (P.drop P.length) (Q.drop P.length) = if P.length < Q.length then -1 else 0 := by
  rw [List.drop_length]
  by_cases h : P.length < Q.length
  · rw [if_pos h, List.drop_eq_getElem_cons h]; rfl
  · rw [if_neg h, List.drop_of_length_le (by omega)]; rfl
theorem cmpP_short {P Q : List (Nat × Nat)} {i : Nat} (h1 : i < P.length) (h2 : i = Q.length) : cmpP (P.drop i) (Q.drop i) = 1 := by
  subst h2
  rw [List.drop_length, List.drop_eq_getElem_cons h1]; rfl
theorem cmpP_step {P Q : List (Nat × Nat)} {i : Nat} (h1 : i < P.length) (h2 : i < Q.length) : cmpP (P.drop i) (Q.drop i) = if cmpL (prL P[i]) (prL Q[i]) = 0 then cmpP (P.drop (i + 1)) (Q.drop (i + 1)) else cmpL (prL P[i]) (prL Q[i]) := by
  rw [List.drop_eq_getElem_cons h1, List.drop_eq_getElem_cons h2, cmpP]
theorem rowX_pr {P : List (Nat × Nat)} {i : Nat} (h : i < P.length) : rowX P i = prL P[i] := by
  unfold rowX prL
  rw [List.getD_eq_getElem?_getD, List.getElem?_eq_getElem h]; rfl
theorem rowAt {w : World} {B : Nat} {A : Option Addr} {ca : Nat} {V : Nat → Value} {G : Nat → Nat} {P : List (Nat × Nat)} (hP : PgW w B (.slice A P.length ca) P.length V (rowX P) G) (hs : Small P) {i : Nat} (hi : i < P.length) :
    ∃ gp, A = some ⟨gp, 0, none⟩ ∧ w.cell? ⟨gp, i, none⟩ = some (V i) ∧ ∃ fp, Sl fInt.cod w (V i) (prL P[i]) fp := by
  obtain ⟨gp, cp, hv, hc⟩ := hP.cell hi
  injection hv with hv
  obtain ⟨fp, hsl, _⟩ := PgW.at_ hP hi (rowX_ok hs.2 i)
  rw [rowX_pr hi] at hsl
  exact ⟨gp, hv, hc, fp, hsl⟩
set_option maxRecDepth 100000 in
set_option maxHeartbeats 4000000 in
theorem compareP_any {B : Nat} {v u : Value} {V U : Nat → Value} {G H : Nat → Nat} {P Q : List (Nat × Nat)} (w : World) (hP : PgW w B v P.length V (rowX P) G) (hQ : PgW w B u Q.length U (rowX Q) H) (hsP : Small P) (hsQ : Small Q) :
    Calls Try.prog 56 #[v, u, .func (.func 57) #[] #[]] w fun e w' => e = .returned (.int .i64 (cmpP P Q)) ∧ w = w' := by
  have hlP := hsP.1
  have hlQ := hsQ.1
  obtain ⟨A, ca, rfl⟩ := hP.form
  obtain ⟨A2, cb, rfl⟩ := hQ.form
  go_enter Try.func56, Try.ntmps56
  go_wp2
  go_loop [13] (fun a => ∃ i : Nat, a = .int .i64 i ∧ i ≤ P.length ∧ i ≤ Q.length ∧ Hid (cmpP P Q = cmpP (P.drop i) (Q.drop i))) (fun a => P.length - (intOf a).toNat)
  case atStart => exact ⟨0, rfl, Nat.zero_le _, Nat.zero_le _, rfl⟩
  case round =>
    obtain ⟨i, rfl, hi, hj, HC⟩ := hrel
    by_cases hlt : i < P.length
    · have hlt9 : (i : Int) < (P.length : Int) := by omega
      obtain ⟨gp, rfl, c1, fp, hsl⟩ := rowAt hP hsP hlt
      by_cases hly2 : i < Q.length
      · have hly9 : (i : Int) < (Q.length : Int) := by omega
        obtain ⟨gq, rfl, c2, fq, hsr⟩ := rowAt hQ hsQ hly2
        have HS := Lib.hid (HC.out.trans (cmpP_step hlt hly2))
        have hb := cmpL_bounds (prL P[i]) (prL Q[i])
        have hl1 : (prL P[i]).length ≤ 1000000 := by show 2 ≤ _; omega
        have hl2 : (prL Q[i]).length ≤ 1000000 := by show 2 ≤ _; omega
        by_cases he : cmpL (prL P[i]) (prL Q[i]) = 0
        · have HT := Lib.hid (HS.out.trans (if_pos he))
          have he9 := Lib.hid he
          generalize prL P[i] = p at *
          generalize prL Q[i] = q at *
          clear he HS
          go_wp2_with fail
          refine (compareL_any _ _ _ _ _ _ _ hsl hsr hl1 hl2).mono ?_
          rintro e w' ⟨rfl, rfl⟩
          rw [he9.out]
          go_wp2
          go_round
          case rel => exact ⟨i + 1, by go_num, by omega, by omega, HT⟩
          case measure => simp [intOf]; omega
        · have HT := Lib.hid (HS.out.trans (if_neg he))
          have hz : (cmpL (prL P[i]) (prL Q[i]) != 0) = true := by rw [bne_iff_ne]; exact he
          generalize prL P[i] = p at *
          generalize prL Q[i] = q at *
          clear he HS
          go_wp2_with fail
          refine (compareL_any _ _ _ _ _ _ _ hsl hsr hl1 hl2).mono ?_
          rintro e w' ⟨rfl, rfl⟩
          generalize cmpL p q = c at *
          go_wp2
          go_ret
          exact ⟨ret_int HT.out.symm, rfl⟩
      · have hye : (Q.length : Int) ≤ (i : Int) := by omega
        have HT := Lib.hid (HC.out.trans (cmpP_short hlt (by omega)))
        go_wp2
        go_ret
        exact ⟨ret_int HT.out.symm, rfl⟩
    · obtain rfl : i = P.length := by omega
      have HT := Lib.hid (HC.out.trans (cmpP_end P Q))
      by_cases h : P.length < Q.length
      · have HU := Lib.hid (HT.out.trans (if_pos h))
        have h9 : (P.length : Int) < (Q.length : Int) := by omega
        go_wp2
        go_ret
        exact ⟨ret_int HU.out.symm, rfl⟩
      · have HU := Lib.hid (HT.out.trans (if_neg h))
        have h9 : (Q.length : Int) ≤ (P.length : Int) := by omega
        clear h
        go_wp2
        go_ret
        exact ⟨ret_int HU.out.symm, rfl⟩
end Go.Proofs.Ytjfaafoldllppaa
