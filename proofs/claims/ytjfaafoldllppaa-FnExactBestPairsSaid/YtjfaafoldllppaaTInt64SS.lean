
/- Helpers at slices of slices: Int64. Written by wip/gen/gennest.py. -/
import Derived.Test.YtjfaafoldllppaaTInt64
import Derived.Test.YtjfaafoldllppaaNest
import Derived.Test.YtjfaafoldllppaaSeg
namespace Go.Proofs.Ytjfaafoldllppaa
open Go.RowKit
set_option linter.unusedVariables false

set_option maxRecDepth 100000 in
set_option maxHeartbeats 1000000 in
theorem eqInt64SS_any (v v' : Value) (xs : List (List Int)) (fp fp' : List Nat) (w : World) (hx : Sl fInt.cod.slice w v xs fp) (hy : Sl fInt.cod.slice w v' xs fp') :
    Calls Try.prog 9 #[v, v'] w fun e w' => YesR w e w' := by
  obtain ⟨A, cap, rfl, hlen, hcap⟩ := hx.form
  obtain ⟨A', cap', rfl, hlen', hcap'⟩ := hy.form
  go_enter Try.func9, Try.ntmps9
  go_wp2
  go_loopw [5] (fun i wr => ∃ k : Nat, k ≤ xs.length ∧ i = .int .i64 k ∧ Below w.heap.size w wr) (fun i _ => xs.length - (intOf i).toNat)
  case atStart => exact ⟨0, Nat.zero_le _, rfl, Below.refl _ _⟩
  case round =>
    obtain ⟨k, hk, rfl, hb⟩ := hrel
    by_cases hlt : k < xs.length
    · obtain ⟨b, off, vk, fk, rfl, hc0, hs0, _⟩ := (hx.below' hb).elem hlt
      obtain ⟨b', off', vk', fk', rfl, hc1, hs1, _⟩ := (hy.below' hb).elem hlt
      go_wp2
      have ghc0 := cell_regrown hc0
      have ghc1 := cell_regrown hc1
      refine wp_region_mix (C := fun w' => ∃ p : Regrown, w' = Go.Sort.grow (redrawn wr p.d) p.os) [true, true, true, true, true, true, true, true, false, true] (by kernel_rfl) (by kernel_rfl) (by kernel_rfl) (fun _ _ d _ _ h => by cases d <;> exact h) (regrown_of_below (Below.drew (Below.refl _ _))) ?_
      have hS0 : Below (wr.heap.size) wr wr.drew := Below.drew (Below.refl _ _)
      refine wpMix_pure (by kernel_rfl) (fun K hK => ?_)
      go_big_quiet_op
      refine hK _ ?_; clear hK K
      refine wpMix_pure (by kernel_rfl) (fun K hK => ?_)
      go_big_quiet_op
      refine hK _ ?_; clear hK K
      refine wpMix_pure (by kernel_rfl) (fun K hK => ?_)
      go_big_quiet_op
      refine hK _ ?_; clear hK K
      refine wpMix_pure (by kernel_rfl) (fun K hK => ?_)
      go_big_quiet_op
      refine hK _ ?_; clear hK K
      refine wpMix_pure (by kernel_rfl) (fun K hK => ?_)
      go_big_quiet_op
      refine hK _ ?_; clear hK K
      refine wpMix_pure (by kernel_rfl) (fun K hK => ?_)
      go_big_quiet_op
      refine hK _ ?_; clear hK K
      refine wpMix_pure (by kernel_rfl) (fun K hK => ?_)
      go_big_quiet_op
      refine hK _ ?_; clear hK K
      refine wpMix_pure (by kernel_rfl) (fun K hK => ?_)
      go_big_quiet_op
      refine hK _ ?_; clear hK K
      refine wpMix_act (by kernel_rfl) (fun K hK => ?_)
      go_big_op
      refine (eqInt64S_any _ _ _ _ _ _ (hs0.below' hS0) (hs1.below' hS0)).mono ?_
      rintro e wr1 ⟨rfl, hbr1⟩
      have hbr1S : Below (wr.heap.size) wr wr1 := hS0.trans (hbr1.mono hS0.size)
      refine hK _ _ (regrown_of_below hbr1S) ?_
      clear hK K
      refine wpMix_pure (by kernel_rfl) (fun K hK => ?_)
      go_big_quiet_op
      refine hK _ ?_; clear hK K
      refine wpMix_nil ?_
      have hbb := hb.trans (hbr1S.mono hb.size)
      go_wp2
      go_roundw
      case rel => exact ⟨k + 1, by omega, by go_num, hbb⟩
      case measure => simp [intOf]; omega
    · go_wp2
      go_ret
      exact ⟨rfl, hb⟩

def marksInt64S (k0 : Int) (ns : List Nat) : List (List Int) := (List.range ns.length).map (fun i => marksInt64 (k0 + 1 * (preS ns i : Int)) (ns.getD i 0))
theorem marksInt64S_len (k0 : Int) (ns : List Nat) : (marksInt64S k0 ns).length = ns.length := by simp [marksInt64S]
theorem marksInt64S_get (k0 : Int) (ns : List Nat) (i : Nat) (h : i < (marksInt64S k0 ns).length) : (marksInt64S k0 ns)[i] = marksInt64 (k0 + 1 * (preS ns i : Int)) (ns.getD i 0) := by simp [marksInt64S]
def lensS {α : Type} (xss : List (List α)) : List Nat := xss.map List.length
set_option maxRecDepth 100000 in
set_option maxHeartbeats 2000000 in
theorem markInt64SS_any (v : Value) (xs : List (List Int)) (fp : List Nat) (k0 : Int) (w : World) (hx : Sl fInt.cod.slice w v xs fp) (hnd : fp.Nodup) (h0 : 0 ≤ k0) (h1 : k0 + 1 * ((lensS xs).sum : Int) ≤ 1000000000000) :
    Calls Try.prog 12 #[v, .int .i64 k0] w fun e w' => MarkR fInt.cod.slice fp w (k0 + 1 * ((lensS xs).sum : Int)) v (marksInt64S k0 (lensS xs)) e w' := by
  obtain ⟨A, cap, rfl, hlen, hcap⟩ := hx.form
  rcases Nat.eq_zero_or_pos xs.length with hz | hz
  · obtain rfl := List.eq_nil_of_length_eq_zero hz
    go_enter Try.func12, Try.ntmps12
    go_wp2
    go_loop [1, 5] (fun n i => i = .int .i64 0 ∧ n = .int .i64 k0) (fun _ _ => 0)
    case atStart => exact ⟨rfl, rfl⟩
    case round =>
      obtain ⟨rfl, rfl⟩ := hrel
      go_wp2
      go_ret
      exact ⟨ret_int (by simp [lensS]), hx, .refl _ _⟩
  · obtain ⟨b, off, V, F, rfl, hbw, rfl, hr⟩ := hx.rows hz
    obtain ⟨hap1, hap2, hap3⟩ := rows_apart hnd
    obtain ⟨ns, hns⟩ : ∃ ns, ns = lensS xs := ⟨_, rfl⟩
    have hnl : ns.length = xs.length := by rw [hns]; simp [lensS]
    have hng : ∀ k, (h : k < xs.length) → ns[k]? = some xs[k].length := fun k h => by rw [hns]; simp [lensS, h]
    rw [← hns] at h1 ⊢
    have hsum := fun k => preS_le ns k
    clear hns
    go_enter Try.func12, Try.ntmps12
    go_wp2
    go_loopw [1, 5] (fun n i wr => ∃ k : Nat, k ≤ xs.length ∧ i = .int .i64 k ∧ ∃ q : Int, n = .int .i64 q ∧ 0 ≤ q ∧ Hid (q = k0 + 1 * (preS ns k : Int)) ∧ NRows fInt.cod wr b off xs.length V (fun i => if i < k then marksInt64 (k0 + 1 * (preS ns i : Int)) (ns.getD i 0) else xs.getD i []) F ∧ Only (b :: (List.range xs.length).flatMap F) w wr) (fun _ i _ => xs.length - (intOf i).toNat)
    case atStart => exact ⟨0, Nat.zero_le _, rfl, k0, rfl, h0, by show _ = _; simp [preS], by simpa using hr, .refl _ _⟩
    case round =>
      obtain ⟨k, hk, rfl, q, rfl, hq0, HQ, hrw, ho⟩ := hrel
      have hbw' : b < wr.heap.size := Nat.lt_of_lt_of_le hbw ho.size
      by_cases hlt : k < xs.length
      · have hc0 := hrw.cell k hlt
        have hs0 := hrw.rd k hlt
        have hrk : xs.getD k [] = xs[k] := by simp [List.getD_eq_getElem?_getD, hlt]
        rw [if_neg (Nat.lt_irrefl k), hrk] at hs0
        have hnk : ns[k]'(by omega) = xs[k].length := by have := hng k hlt; rw [List.getElem?_eq_getElem (by omega)] at this; exact Option.some.inj this
        have hps : preS ns (k + 1) = preS ns k + xs[k].length := by rw [preS_succ (by omega), hnk]
        have hgd : ns.getD k 0 = xs[k].length := by rw [List.getD_eq_getElem?_getD, hng k hlt]; rfl
        have hq1 : q + 1 * (xs[k].length : Int) ≤ 1000000000000 := by have := hsum (k + 1); have := HQ.out; omega
        have HQ2 : Hid (q + (xs[k].length : Int) = k0 + 1 * (preS ns (k + 1) : Int)) := by show _ = _; have := HQ.out; omega
        have HM : Hid (marksInt64 q xs[k].length = marksInt64 (k0 + 1 * (preS ns k : Int)) (ns.getD k 0)) := by show _ = _; rw [HQ.out, hgd]
        clear hnk hps hgd hrk
        go_wp2_with fail
        refine (markInt64S_any _ _ _ _ _ hs0 hq0 hq1).mono ?_
        rintro e w2 ⟨rfl, hs2, ho2⟩
        have hr2 := hrw.step hnd hbw' hlt hs2 ho2
        have ho3 : Only (b :: (List.range xs.length).flatMap F) w w2 := ho.trans (ho2.sub (fun c hc => List.mem_cons_of_mem _ (List.mem_flatMap.2 ⟨k, by simpa using hlt, hc⟩)))
        have hq2 : 0 ≤ q + (xs[k].length : Int) := by omega
        clear hs2 ho2 hs0 hc0
        go_wp2
        go_roundw
        case rel =>
          refine ⟨k + 1, by omega, by go_num, _, rfl, hq2, HQ2, hr2.congr (fun i hi => ?_), ho3⟩
          show (if i = k then marksInt64 q xs[k].length else if i < k then _ else _) = _
          by_cases e1 : i = k
          · subst e1; rw [if_pos rfl, if_pos (by omega)]; exact HM.out
          · rw [if_neg e1]
            by_cases e2 : i < k
            · rw [if_pos e2, if_pos (by omega)]
            · rw [if_neg e2, if_neg (by omega)]
        case measure => simp [intOf]; omega
      · have hke : k = xs.length := by omega
        subst hke
        have hfin : Sl fInt.cod.slice wr (.slice (some ⟨b, off, none⟩) xs.length cap) (marksInt64S k0 ns) (b :: (List.range xs.length).flatMap F) :=
          hrw.sl hbw' ((marksInt64S_len _ _).trans hnl) (fun i hi => by rw [marksInt64S_get, if_pos (by rw [marksInt64S_len] at hi; omega)]) hlen (by unfold maxLen; exact hcap)
        have hpf : preS ns xs.length = ns.sum := preS_full (by omega)
        have HR : Hid (q = k0 + 1 * (ns.sum : Int)) := by show _ = _; rw [HQ.out, hpf]
        clear hrw hpf
        go_wp2
        go_ret
        exact ⟨ret_int HR.out, hfin, ho⟩
set_option maxRecDepth 100000 in
set_option maxHeartbeats 2000000 in
theorem heldInt64SS_any (v : Value) (ns : List Nat) (fp : List Nat) (k0 : Int) (w : World) (hx : Sl fInt.cod.slice w v (marksInt64S k0 ns) fp) (h0 : 0 ≤ k0) (h1 : k0 + 1 * (ns.sum : Int) ≤ 1000000000000) :
    Calls Try.prog 13 #[v, .int .i64 k0] w fun e w' => e = .returned (.int .i64 (k0 + 1 * (ns.sum : Int))) ∧ Below w.heap.size w w' := by
  obtain ⟨A, cap, rfl, hlen, hcap⟩ := hx.form
  rw [marksInt64S_len] at hlen
  obtain ⟨M, hM⟩ : ∃ M, M = marksInt64S k0 ns := ⟨_, rfl⟩
  have hMl : M.length = ns.length := by rw [hM, marksInt64S_len]
  have hMg : ∀ k (h : k < M.length), M[k] = marksInt64 (k0 + 1 * (preS ns k : Int)) (ns.getD k 0) := fun k h => by subst hM; exact marksInt64S_get _ _ _ h
  rw [← hM] at hx ⊢
  obtain ⟨n, hn⟩ : ∃ n, M.length = n := ⟨_, rfl⟩
  rw [hn] at hx ⊢
  have Hn := Lib.hid hn
  have hsum := fun k => preS_le ns k
  clear hM hn
  go_enter Try.func13, Try.ntmps13
  go_wp2
  go_loopw [1, 5] (fun m i wr => ∃ k : Nat, k ≤ n ∧ i = .int .i64 k ∧ ∃ q : Int, m = .int .i64 q ∧ 0 ≤ q ∧ Hid (q = k0 + 1 * (preS ns k : Int)) ∧ Below w.heap.size w wr) (fun _ i _ => n - (intOf i).toNat)
  case atStart => exact ⟨0, Nat.zero_le _, rfl, k0, rfl, h0, by show _ = _; simp [preS], Below.refl _ _⟩
  case round =>
    obtain ⟨k, hk, rfl, q, rfl, hq0, HQ, hb⟩ := hrel
    by_cases hlt : k < n
    · have hkM : k < M.length := by have := Hn.out; omega
      obtain ⟨b, off, vk, fk, rfl, hc0, hs0, _⟩ := (hx.below' hb).elem hkM
      rw [hMg k hkM, ← HQ.out] at hs0
      have hkn : k < ns.length := by omega
      have hps := preS_succ hkn
      have hgd : ns.getD k 0 = ns[k] := by rw [List.getD_eq_getElem?_getD, List.getElem?_eq_getElem hkn]; rfl
      rw [hgd] at hs0
      have hq1 : q + 1 * (ns[k] : Int) ≤ 1000000000000 := by have := hsum (k + 1); have := HQ.out; omega
      have HQ2 : Hid (q + (ns[k] : Int) = k0 + 1 * (preS ns (k + 1) : Int)) := by show _ = _; have := HQ.out; omega
      have hq2 : 0 ≤ q + (ns[k] : Int) := by omega
      have hq3 : ¬ (q + 1 * (ns[k] : Int) < 0) := by omega
      clear hps hgd
      go_wp2_with fail
      refine (heldInt64S_any _ _ _ _ _ hs0 hq0 hq1).mono ?_
      rintro e w2 ⟨rfl, hb2⟩
      have hb3 := hb.trans (hb2.mono hb.size)
      clear hs0 hc0
      go_wp2
      go_roundw
      case rel => exact ⟨k + 1, by omega, by go_num, _, rfl, hq2, HQ2, hb3⟩
      case measure => simp [intOf]; omega
    · have hke : preS ns k = ns.sum := preS_full (by have := Hn.out; omega)
      have HR : Hid (q = k0 + 1 * (ns.sum : Int)) := by show _ = _; rw [HQ.out, hke]
      clear hke
      go_wp2
      go_ret
      exact ⟨ret_int HR.out, hb⟩

def totInt64SS (xs : List (List Int)) : Nat := xs.length + (xs.map totInt64S).sum
theorem totInt64SS_mem {xs : List (List Int)} {r : List Int} (h : r ∈ xs) : totInt64S r ≤ totInt64SS xs := by
  unfold totInt64SS
  have : totInt64S r ≤ (xs.map totInt64S).sum := by
    obtain ⟨i, hi, rfl⟩ := List.getElem_of_mem h
    have h1 := sum_take_step_ totInt64S xs i hi
    have h2 : ((xs.take (i + 1)).map totInt64S).sum ≤ (xs.map totInt64S).sum := by
      have h3 := congrArg (fun l => (l.map totInt64S).sum) (List.take_append_drop (i + 1) xs)
      simp only [List.map_append, List.sum_append] at h3
      omega
    omega
  omega
theorem lens_le_Int64 : ∀ xs : List (List Int), (lensS xs).sum ≤ (xs.map totInt64S).sum
  | [] => Nat.le_refl _
  | r :: xs => by
    have := lens_le_Int64 xs
    unfold lensS at *
    rw [List.map_cons, List.map_cons, List.sum_cons, List.sum_cons]
    have h : r.length ≤ totInt64S r := by unfold totInt64S; omega
    omega
theorem lensS_tot (xs : List (List Int)) : (lensS xs).sum ≤ totInt64SS xs := by
  have := lens_le_Int64 xs
  unfold totInt64SS; omega

end Go.Proofs.Ytjfaafoldllppaa
