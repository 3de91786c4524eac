/- SalvageBlocks. Written by wip/gen/sg.py. -/
import Derived.Test.YtdlihohkamajbaaGreatDoorDm
import Derived.Test.YtdlihohkamajbaaGreatDoorBm
namespace Go.Proofs.YtdlihohkamajbaaGreatDoor
open Go.RowKit
set_option linter.unusedVariables false

theorem blocksB_of {xs : List DBlock} (hb : ∀ x ∈ xs, blockB x = true) (ho : Ordered xs) (hl : xs.length ≤ 32) : blocksB xs = true := by
  unfold blocksB
  rw [decide_eq_true hl, Bool.and_true, allIdx_true]
  intro i hi
  unfold bOk
  rw [List.getD_eq_getElem?_getD, List.getElem?_eq_getElem hi, Option.getD_some, hb _ (List.getElem_mem hi), Bool.true_and]
  rcases Nat.eq_zero_or_pos i with rfl | hp
  · rfl
  · obtain ⟨m, rfl⟩ : ∃ m, i = m + 1 := ⟨i - 1, by omega⟩
    have h1 := ho m hi
    rw [List.getD_eq_getElem?_getD, show m + 1 - 1 = m from rfl, List.getElem?_eq_getElem (by omega : m < xs.length), Option.getD_some, h1, Bool.or_true]
theorem putF_mem {xs : List DBlock} {t x : DBlock} (h : x ∈ putF xs t) : x ∈ xs ∨ x = t := by
  unfold putF at h
  rw [List.mem_append, List.mem_cons] at h
  rcases h with h | h | h
  · exact .inl (List.mem_of_mem_take h)
  · exact .inr h
  · exact .inl (List.mem_of_mem_drop h)
theorem blocksB_put {xs : List DBlock} {t : DBlock} (h : blocksB xs = true) (ht : blockB t = true) (hl : (putF xs t).length ≤ 32) : blocksB (putF xs t) = true := by
  refine blocksB_of (fun x hx => ?_) (putF_ordered (blocksB_ordered h) t) hl
  rcases putF_mem hx with hx | rfl
  · obtain ⟨k, hk, rfl⟩ := List.getElem_of_mem hx
    exact blocksB_at h hk
  · exact ht
theorem blocksB_oks {xs : List DBlock} (h : blocksB xs = true) : ∀ x ∈ xs, fBlock.ok x := by
  intro x hx
  obtain ⟨k, hk, rfl⟩ := List.getElem_of_mem hx
  exact blockB_ok (blocksB_at h hk)
def sgS (acc : List DBlock) (line : ByteArray) : List DBlock := if parseC line = 0 then (if (putF acc (parseB line)).length ≤ 32 then putF acc (parseB line) else acc) else acc
def sgK (L : List ByteArray) (k : Nat) : List DBlock := ((L.take k).drop 1).foldl sgS []
def sgF (s : ByteArray) : List DBlock := sgK (linL s) (linL s).length
theorem sgK_zero (L : List ByteArray) : sgK L 0 = [] := rfl
theorem sgK_one (L : List ByteArray) : sgK L 1 = [] := by
  unfold sgK
  rw [List.drop_of_length_le (by rw [List.length_take]; omega)]; rfl
theorem sgK_step {L : List ByteArray} {k : Nat} (hk : k < L.length) (h0 : 0 < k) : sgK L (k + 1) = sgS (sgK L k) L[k] := by
  unfold sgK
  rw [List.take_succ_eq_append_getElem hk, List.drop_append_of_le_length (by rw [List.length_take]; omega), List.foldl_append]; rfl
theorem sgS_ok {acc : List DBlock} (h : blocksB acc = true) (line : ByteArray) : blocksB (sgS acc line) = true := by
  unfold sgS
  split
  · rename_i hp
    split
    · rename_i hl
      exact blocksB_put h (parse_valid hp) hl
    · exact h
  · exact h
theorem sg_fold (l : List ByteArray) : ∀ acc, blocksB acc = true → blocksB (l.foldl sgS acc) = true := by
  induction l with
  | nil => intro acc h; exact h
  | cons a l ih => intro acc h; exact ih _ (sgS_ok h a)
theorem blocksB_nil : blocksB [] = true := rfl
theorem sgK_valid (L : List ByteArray) (k : Nat) : blocksB (sgK L k) = true := sg_fold _ _ blocksB_nil
theorem sgF_len {s : ByteArray} : (sgF s).length ≤ 100000000000 := by
  unfold sgF; have := blocksB_len (sgK_valid (linL s) (linL s).length); omega
set_option maxRecDepth 100000 in
set_option maxHeartbeats 4000000 in
theorem implSalvageBlocks_any (s : ByteArray) (m : Int) (w : World) (hs : s.size ≤ 1048576) (hm : w.cell? ⟨0, 0, none⟩ = some (.int .i64 m)) (ht : Tab10 w) :
    Calls Tryz.prog 11 #[.string s] w fun e w' => NewR fBlock.cod w (sgF s) e w' := by
  obtain ⟨hq1, hq2⟩ := lin_cut s
  have hlen := lin_len s
  have hszs := lin_size s
  go_enter Tryz.func11, Tryz.ntmps11
  go_wp2_with fail
  refine (splitD_any s 10 m _ hs hm).mono ?_
  rintro e w1 ⟨v1, rfl, hown, hb1⟩
  have hok : ∀ x ∈ splS 10 s, fStr.ok x := fun x hx => by have := hszs x hx; show _ ≤ _; omega
  have HF : Hid (sgF s = sgK (linL s) (linL s).length) := rfl
  rw [hq1] at hown hok hszs
  obtain ⟨fp1, hsl, _, _⟩ := Sl.of_own (n := (linL s ++ [linQ s]).length) rfl hown hok
  clear hq1 hq2 hown hok
  have hm1 := cell_below hb1 hm
  have ht1 := ht.below hb1
  generalize linL s = L at *
  generalize linQ s = q at *
  obtain ⟨A, cap, rfl, hle, hca⟩ := hsl.form
  have hl1 : (L ++ [q]).length = L.length + 1 := by simp
  rw [hl1] at hsl hle ⊢
  have Hl1 := Lib.hid hl1
  clear hl1
  go_wp2
  go_loopw [4, 19] (fun v i wr => ∃ k : Nat, k ≤ L.length ∧ i = .int .i64 k ∧ New fBlock.cod w1 v (sgK L k) wr) (fun _ i _ => L.length - (intOf i).toNat)
  case atStart => exact ⟨0, Nat.zero_le _, rfl, New.nil (Below.refl _ _)⟩
  case round =>
    obtain ⟨k, hk2, rfl, ho⟩ := hrel
    have hb := ho.below
    by_cases hlt : k < L.length
    · have hltX : k < (L ++ [q]).length := by rw [Hl1.out]; omega
      obtain ⟨b, off, rfl, _, hok, hc0, _⟩ := (hsl.below' hb).cell1 rfl hltX rfl
      have hls := hszs (L ++ [q])[k] (List.getElem_mem hltX)
      have hline : (L ++ [q])[k] = L[k] := List.getElem_append_left hlt
      rw [hline] at hc0 hls
      have hval := sgK_valid L k
      clear hok hline
      have HST : Hid (0 < k → sgK L (k + 1) = sgS (sgK L k) L[k]) := fun h => sgK_step hlt h
      go_wp2_with fail
      refine (blockOf_any L[k] m _ (by omega) (cell_below hb hm1) (ht1.below hb)).mono ?_
      rintro e w2 ⟨he, hb2⟩
      unfold PRet bAgg at he
      subst he
      have hpv : parseC L[k] = 0 → blockB (parseB L[k]) = true := parse_valid
      unfold sgS at HST
      generalize parseC L[k] = cc at *
      generalize parseB L[k] = bb at *
      have hB2 := hb.trans (hb2.mono hb.size)
      have hbx : Below w2.heap.size w2 (w2.alloc (.cells #[.string bb.kind, .string bb.name, .string bb.text] 52)) := (Below.refl _ _).alloc (Nat.le_refl _) _
      have ho3 := (ho.on hb2).on hbx
      have hB3 : Below w1.heap.size w1 (w2.alloc (.cells #[.string bb.kind, .string bb.name, .string bb.text] 52)) := hB2.alloc hB2.size _
      clear ho
      by_cases hk0 : k = 0
      · subst hk0
        have ho5 : New fBlock.cod w1 u4 (sgK L (0 + 1)) (w2.alloc (.cells #[.string bb.kind, .string bb.name, .string bb.text] 52)) := by rw [show sgK L (0 + 1) = sgK L 0 from sgK_one L]; exact ho3
        clear hpv
        go_wp2
        go_roundw
        case rel => exact ⟨0 + 1, by omega, by go_num, ho5⟩
        case measure => simp [intOf] <;> omega
      · have hk0' : ((k : Int) == 0) = false := by rw [beq_eq_false_iff_ne]; omega
        by_cases h0 : cc = 0
        · have hvb := hpv h0
          have hlk := blocksB_len hval
          obtain ⟨fpy, hsy, hlo, hnd⟩ := ho3.rd
          have hpf1 : (putF (sgK L k) bb).length ≤ (sgK L k).length + 1 := putF_len1
          subst h0
          go_wp2_with fail
          refine (implPutBlock_any _ (sgK L k) fpy bb _ hsy (blockB_ok hvb)).mono ?_
          rintro e w4 ⟨v4, rfl, hnew4⟩
          by_cases h32 : (putF (sgK L k) bb).length ≤ 32
          · have HN : Hid (sgK L (k + 1) = putF (sgK L k) bb) := by show _ = _; rw [HST.out (by omega), if_pos (by first | trivial | rfl), if_pos h32]
            have hc : pbC (sgK L k) bb = 0 := by unfold pbC pbOk; rw [hval, hvb, if_pos (by first | trivial | rfl), if_pos h32]
            have hf : pbF (sgK L k) bb = putF (sgK L k) bb := by unfold pbF pbOk; rw [hval, hvb, decide_eq_true h32]; rfl
            rw [hf] at hnew4
            rw [hc]
            have ho5 : New fBlock.cod w1 v4 (sgK L (k + 1)) w4 := by rw [HN.out]; exact hnew4.later hB3
            clear hnew4 hpv hc hf
            go_wp2
            go_roundw
            case rel => exact ⟨k + 1, by omega, by go_num, ho5⟩
            case measure => simp [intOf]; omega
          · have HN : Hid (sgK L (k + 1) = sgK L k) := by show _ = _; rw [HST.out (by omega), if_pos (by first | trivial | rfl), if_neg h32]
            have hc : pbC (sgK L k) bb = 5 := by unfold pbC pbOk; rw [hval, hvb, if_pos (by first | trivial | rfl), if_neg h32]
            rw [hc]
            have ho5 : New fBlock.cod w1 u4 (sgK L (k + 1)) w4 := by rw [HN.out]; exact ho3.on hnew4.below
            clear hnew4 hpv hc
            go_wp2
            go_roundw
            case rel => exact ⟨k + 1, by omega, by go_num, ho5⟩
            case measure => simp [intOf]; omega
        · have HN : Hid (sgK L (k + 1) = sgK L k) := by show _ = _; rw [HST.out (by omega), if_neg h0]
          have e2 : (cc != 0) = true := by rw [bne_iff_ne]; exact h0
          have ho5 : New fBlock.cod w1 u4 (sgK L (k + 1)) (w2.alloc (.cells #[.string bb.kind, .string bb.name, .string bb.text] 52)) := by rw [HN.out]; exact ho3
          clear hpv
          go_wp2
          go_roundw
          case rel => exact ⟨k + 1, by omega, by go_num, ho5⟩
          case measure => simp [intOf]; omega
    · obtain rfl : k = L.length := by omega
      rw [← HF.out] at ho
      go_wp2
      go_ret
      exact ⟨_, rfl, ho.later hb1⟩

end Go.Proofs.YtdlihohkamajbaaGreatDoor
