/- Contracts: MergeBlocks. Written by wip/gen/bm.py. -/
import Derived.Test.YtdlihohkamajbaaBj
namespace Go.Proofs.Ytdlihohkamajbaa
open Go.RowKit
set_option linter.unusedVariables false

theorem ordered_pairwise {xs : List DBlock} : Ordered xs ↔ xs.Pairwise (fun a b => beforeB a b = true) := by
  rw [List.pairwise_iff_getElem]
  constructor
  · intro h i j hi hj hij; exact h.lt' hij hj
  · intro h m hm; exact h m (m + 1) (by omega) hm (by omega)
theorem mem_take_get {α : Type} {xs : List α} {k : Nat} {x : α} (h : x ∈ xs.take k) : ∃ m, ∃ hm : m < xs.length, m < k ∧ xs[m] = x := by
  obtain ⟨m, hm, rfl⟩ := List.getElem_of_mem h
  simp at hm
  exact ⟨m, by omega, by omega, by simp⟩
theorem mem_drop_get {α : Type} {xs : List α} {k : Nat} {x : α} (h : x ∈ xs.drop k) : ∃ m, ∃ hm : m < xs.length, k ≤ m ∧ xs[m] = x := by
  obtain ⟨m, hm, rfl⟩ := List.getElem_of_mem h
  simp at hm
  exact ⟨k + m, by omega, by omega, by simp⟩
theorem beforeB_at {xs : List DBlock} {t : DBlock} {m : Nat} (hm : m < xs.length) (h : m < atB xs t) : beforeB xs[m] t = true := (takeWhile_spec (fun x => beforeB x t) xs).2.1 m hm h
theorem after_sk {xs : List DBlock} (h : Ordered xs) {t : DBlock} {m : Nat} (hm : m < xs.length) (hs : skB xs t ≤ m) : beforeB t xs[m] = true := by
  unfold skB at hs
  cases hk : hasKey xs t with
  | true =>
    rw [hk] at hs
    simp only [if_true] at hs
    obtain ⟨hlt, hkey⟩ := hasKey_some hk
    unfold keyB at hkey
    simp only [Bool.and_eq_true, decide_eq_true_eq] at hkey
    rw [← beforeB_key hkey.1 hkey.2]
    exact h.lt' (by omega) hm
  | false =>
    rw [hk] at hs
    simp only [Bool.false_eq_true, if_false] at hs
    have hlt : atB xs t < xs.length := by omega
    have h1 : beforeB xs[atB xs t] t = false := (takeWhile_spec (fun x => beforeB x t) xs).2.2 hlt
    have h2 : beforeB t xs[atB xs t] = true := by
      cases h3 : beforeB t xs[atB xs t] with
      | true => rfl
      | false =>
        obtain ⟨e1, e2⟩ := beforeB_tri h1 h3
        have := hasKey_none h hk _ hlt
        unfold keyB at this
        simp [e1, e2] at this
    rcases Nat.lt_or_ge (atB xs t) m with h4 | h4
    · exact beforeB_trans h2 (h.lt' h4 hm)
    · obtain rfl : m = atB xs t := by omega
      exact h2
theorem putF_ordered {xs : List DBlock} (h : Ordered xs) (t : DBlock) : Ordered (putF xs t) := by
  rw [ordered_pairwise]
  have hp := ordered_pairwise.1 h
  unfold putF
  rw [List.pairwise_append]
  refine ⟨hp.take, ?_, ?_⟩
  · rw [List.pairwise_cons]
    refine ⟨fun x hx => ?_, hp.drop⟩
    obtain ⟨m, hm, hk, rfl⟩ := mem_drop_get hx
    exact after_sk h hm hk
  · intro a ha b hb
    obtain ⟨m, hm, hk, rfl⟩ := mem_take_get ha
    have h1 := beforeB_at hm hk
    rcases List.mem_cons.1 hb with rfl | hb
    · exact h1
    · obtain ⟨m', hm', hk', rfl⟩ := mem_drop_get hb
      exact beforeB_trans h1 (after_sk h hm' hk')
/-- All blocks of ys put into xs. -/
def mgF (xs ys : List DBlock) : List DBlock := ys.foldl putF xs
theorem mgF_step {xs ys : List DBlock} {k : Nat} (hk : k < ys.length) : mgF xs (ys.take (k + 1)) = putF (mgF xs (ys.take k)) ys[k] := by
  unfold mgF; rw [List.take_succ_eq_append_getElem hk, List.foldl_append]; rfl
theorem mgF_ordered {xs : List DBlock} (h : Ordered xs) : ∀ ys : List DBlock, Ordered (mgF xs ys) := by
  intro ys
  induction ys generalizing xs with
  | nil => exact h
  | cons y ys ih => exact ih (putF_ordered h y)
theorem putF_len1 {xs : List DBlock} {t : DBlock} : (putF xs t).length ≤ xs.length + 1 := by
  unfold putF skB
  have := atB_le xs t
  split <;> (simp; omega)
theorem mgF_len {xs : List DBlock} : ∀ ys : List DBlock, (mgF xs ys).length ≤ xs.length + ys.length := by
  intro ys
  induction ys generalizing xs with
  | nil => simp [mgF]
  | cons y ys ih =>
    have h1 := @ih (putF xs y)
    have h2 := @putF_len1 xs y
    show (mgF (putF xs y) ys).length ≤ _
    simp; omega
theorem mgF_ok {xs ys : List DBlock} (h : ∀ x ∈ xs, fBlock.ok x) (hy : ∀ y ∈ ys, fBlock.ok y) : ∀ x ∈ mgF xs ys, fBlock.ok x := by
  induction ys generalizing xs with
  | nil => exact h
  | cons y ys ih => exact ih (putF_ok h (hy y (by simp))) (fun z hz => hy z (by simp [hz]))
def mbOk (xs ys : List DBlock) : Bool := blocksB xs && blocksB ys
def mbF (xs ys : List DBlock) : List DBlock := if mbOk xs ys && decide ((mgF xs ys).length ≤ 32) then mgF xs ys else []
theorem mbF_len {xs ys : List DBlock} : (mbF xs ys).length ≤ 100000000000 := by
  unfold mbF; split
  · rename_i h
    simp only [Bool.and_eq_true, decide_eq_true_eq] at h
    omega
  · simp
def mbC (xs ys : List DBlock) : Int := if mbOk xs ys then (if (mgF xs ys).length ≤ 32 then 0 else 5) else 1
set_option maxRecDepth 100000 in
set_option maxHeartbeats 2000000 in
theorem implMergeBlocks_any (va vb : Value) (xs ys : List DBlock) (fa fb : List Nat) (w : World) (hx : Sl fBlock.cod w va xs fa) (hy : Sl fBlock.cod w vb ys fb) :
    Calls Try.prog 9 #[va, vb] w fun e w' => NewR2 fBlock.cod w (mbF xs ys) (mbC xs ys) e w' := by
  obtain ⟨A, cap, rfl, hlen, hcap⟩ := hx.form
  obtain ⟨A2, cap2, rfl, hlen2, hcap2⟩ := hy.form
  obtain ⟨i0, hi, hz0, hz1, hz2⟩ := info_parts infoBlock2
  go_enter Try.func9, Try.ntmps9
  go_wp2_with fail
  refine (validBlocks_any _ xs fa _ hx).mono ?_
  rintro e w1 ⟨rfl, hb1⟩
  have hy1 := hy.below' hb1
  cases h0 : blocksB xs
  · go_wp2
    go_ret2
    exact ⟨_, by rw [mbC, mbOk, h0]; rfl, by rw [mbF, mbOk, h0]; exact New.nil hb1⟩
  · go_wp2_with fail
    refine (validBlocks_any _ ys fb _ hy1).mono ?_
    rintro e w2 ⟨rfl, hb2⟩
    have hB2 := hb1.trans (hb2.mono hb1.size)
    cases h1 : blocksB ys
    · go_wp2
      go_ret2
      exact ⟨_, by rw [mbC, mbOk, h0, h1]; rfl, by rw [mbF, mbOk, h0, h1]; exact New.nil hB2⟩
    · have hor := blocksB_ordered h0
      have hlx := blocksB_len h0
      have hly := blocksB_len h1
      have HOK : ∀ x ∈ mgF xs ys, fBlock.ok x := mgF_ok hx.oks hy.oks
      have HM : (mgF xs ys).length ≤ xs.length + ys.length := mgF_len ys
      have hx2 := hx.below' hB2
      go_wp2_with fail
      refine (cloneB_any _ xs fa _ hx2 (by omega)).mono ?_
      rintro e w3 ⟨v3, rfl, hown, hb3⟩
      have hB3 := hB2.trans (hb3.mono hB2.size)
      have hown3 := own_mono (show w3.ownsRow w2.heap.size 27 3 v3 xs.length (xs.flatMap fBlock.enc) from hown) hB2.size
      clear hown
      go_wp2
      go_loopw [6, 21] (fun v i wr => ∃ k : Nat, k ≤ ys.length ∧ i = .int .i64 k ∧ Own fBlock wr w.heap.size 27 v (mgF xs (ys.take k)) ∧ Below w.heap.size w wr) (fun _ i _ => ys.length - (intOf i).toNat)
      case atStart => exact ⟨0, Nat.zero_le _, rfl, hown3, hB3⟩
      case round =>
        obtain ⟨k, hk, rfl, ho, hb⟩ := hrel
        by_cases hlt : k < ys.length
        · obtain ⟨b, off, rfl, _, hok, hp⟩ := PBlock.elem (hy.below' hb) hlt
          have hbW : Below w.heap.size w (wr.alloc (.cells #[.string ys[k].kind, .string ys[k].name, .string ys[k].text] 27)) := hb.alloc hb.size _
          have hoW : Own fBlock (wr.alloc (.cells #[.string ys[k].kind, .string ys[k].name, .string ys[k].text] 27)) w.heap.size 27 u6 (mgF xs (ys.take k)) := World.ownsRow.alloc ho _
          have hoks : ∀ x ∈ mgF xs (ys.take k), fBlock.ok x := mgF_ok hx.oks (fun y hm => hy.oks y (List.mem_of_mem_take hm))
          have hl2 : (mgF xs (ys.take k)).length ≤ xs.length + (ys.take k).length := mgF_len _
          rw [List.length_take] at hl2
          obtain ⟨fpW, hsW, _, _⟩ := Sl.of_own (n := (mgF xs (ys.take k)).length) rfl hoW hoks
          have horW := mgF_ordered hor (ys.take k)
          have HS := Lib.hid (mgF_step (xs := xs) hlt)
          obtain ⟨c0, c1, c2⟩ := id hp
          clear ho
          go_wp2_with fail
          refine (withBlock_any _ (mgF xs (ys.take k)) fpW ys[k] _ hsW horW (by omega)).mono ?_
          rintro e w5 ⟨v5, rfl, hown5, hb5⟩
          have hb6 := hbW.trans (hb5.mono hbW.size)
          have ho6 : Own fBlock w5 w.heap.size 27 v5 (mgF xs (ys.take (k + 1))) := by rw [HS.out]; exact own_mono hown5 hbW.size
          clear hown5 hsW hoW
          go_wp2
          go_roundw
          case rel => exact ⟨k + 1, by omega, by go_num, ho6, hb6⟩
          case measure => simp [intOf]; omega
        · have ho6 : Own fBlock wr w.heap.size 27 u6 (mgF xs ys) := by rw [List.take_of_length_le (by omega)] at ho; exact ho
          clear ho
          obtain ⟨A6, cap6, rfl⟩ := ho6.form
          by_cases h2 : (mgF xs ys).length ≤ 32
          · have HF : Hid (mbF xs ys = mgF xs ys) := by show _ = _; rw [mbF, mbOk, h0, h1]; simp [h2]
            have HC : Hid (mbC xs ys = 0) := by show _ = _; rw [mbC, mbOk, h0, h1]; simp [h2]
            go_wp2
            go_ret2
            exact ⟨_, by rw [HC.out]; rfl, by rw [HF.out]; exact ho6.new hb HOK⟩
          · have HF : Hid (mbF xs ys = []) := by show _ = _; rw [mbF, mbOk, h0, h1]; simp [h2]
            have HC : Hid (mbC xs ys = 5) := by show _ = _; rw [mbC, mbOk, h0, h1]; simp [h2]
            go_wp2
            go_ret2
            exact ⟨_, by rw [HC.out]; rfl, by rw [HF.out]; exact New.nil hb⟩

end Go.Proofs.Ytdlihohkamajbaa
