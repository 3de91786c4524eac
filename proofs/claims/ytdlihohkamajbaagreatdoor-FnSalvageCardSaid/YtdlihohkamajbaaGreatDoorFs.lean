/- FnSalvage: plain laws. Written by wip/gen/fs.py. -/
import Derived.Test.YtdlihohkamajbaaGreatDoorSg
import Derived.Test.YtdlihohkamajbaaGreatDoorDl
namespace Go.Proofs.YtdlihohkamajbaaGreatDoor
open Go.RowKit
set_option linter.unusedVariables false

theorem xor_inj {a b c : Nat} (h : a ^^^ c = b ^^^ c) : a = b := by
  have := congrArg (fun t => t ^^^ c) h
  simpa [Nat.xor_assoc, Nat.xor_self] using this
theorem crcBit_inj {x y : Nat} (hx : x < 65536) (hy : y < 65536) (h : crcBit x = crcBit y) : x = y := by
  have e : ∀ z, z < 65536 → 65535 < 2 * z → 2 * z &&& 65535 = 2 * z - 65536 := fun z h1 h2 => by
    rw [show 65535 = 2 ^ 16 - 1 from rfl, Nat.and_two_pow_sub_one_eq_mod]; omega
  have par : ∀ z, z < 65536 → 65535 < 2 * z → ((2 * z &&& 65535) ^^^ 4129) % 2 = 1 := fun z h1 h2 => by
    rw [Nat.xor_mod_two_eq_one, e z h1 h2]; omega
  unfold crcBit at h
  by_cases h1 : 65535 < 2 * x
  · rw [if_pos h1] at h
    by_cases h2 : 65535 < 2 * y
    · rw [if_pos h2] at h
      have h3 := xor_inj h
      rw [e x hx h1, e y hy h2] at h3
      omega
    · rw [if_neg h2] at h
      have h3 := par x hx h1
      rw [h] at h3
      omega
  · rw [if_neg h1] at h
    by_cases h2 : 65535 < 2 * y
    · rw [if_pos h2] at h
      have h3 := par y hy h2
      rw [← h] at h3
      omega
    · rw [if_neg h2] at h
      omega
theorem crcIt_inj : ∀ (k : Nat) {x y : Nat}, x < 65536 → y < 65536 → crcIt k x = crcIt k y → x = y
  | 0, _, _, _, _, h => h
  | k + 1, _, _, hx, hy, h => crcIt_inj k hx hy (crcBit_inj (crcIt_lt hx k) (crcIt_lt hy k) h)
theorem crcL_cons (b : UInt8) (l : List UInt8) (x : Nat) : crcL (b :: l) x = crcL l (crcIt 8 (crcIn x b)) := by unfold crcL; rw [List.foldl_cons]
theorem crcL_append (p q : List UInt8) (x : Nat) : crcL (p ++ q) x = crcL q (crcL p x) := by unfold crcL; rw [List.foldl_append]
theorem crcL_inj (l : List UInt8) : ∀ {x y : Nat}, x < 65536 → y < 65536 → crcL l x = crcL l y → x = y := by
  induction l with
  | nil =>
    intro x y _ _ h
    unfold crcL at h
    rw [List.foldl_nil, List.foldl_nil] at h
    exact h
  | cons b l ih =>
    intro x y hx hy h
    rw [crcL_cons, crcL_cons] at h
    have h1 := ih (crcIt_lt (crcIn_lt hx b) 8) (crcIt_lt (crcIn_lt hy b) 8) h
    exact xor_inj (crcIt_inj 8 (crcIn_lt hx b) (crcIn_lt hy b) h1)
attribute [local irreducible] crcIt crcBit crcIn crcL
theorem crc_bent {p q : List UInt8} {o c : UInt8} (h : o ≠ c) : crcL (p ++ o :: q) 65535 ≠ crcL (p ++ c :: q) 65535 := by
  intro e
  rw [crcL_append, crcL_append, crcL_cons, crcL_cons] at e
  have hp : crcL p 65535 < 65536 := crcL_lt p (by decide)
  generalize crcL p 65535 = x at *
  have h1 := crcL_inj q (crcIt_lt (crcIn_lt hp o) 8) (crcIt_lt (crcIn_lt hp c) 8) e
  have h2 := crcIt_inj 8 (crcIn_lt hp o) (crcIn_lt hp c) h1
  unfold crcIn at h2
  rw [Nat.xor_comm x, Nat.xor_comm x] at h2
  have h3 := xor_inj h2
  exact h (UInt8.toNat_inj.1 (by omega))
def valL (l : List UInt8) : Nat := l.foldl (fun a d => 10 * a + (d.toNat - 48)) 0
theorem valL_snoc (l : List UInt8) (d : UInt8) : valL (l ++ [d]) = 10 * valL l + (d.toNat - 48) := by unfold valL; rw [List.foldl_append]; rfl
theorem valL_zeros (k : Nat) (l : List UInt8) : valL (List.replicate k 48 ++ l) = valL l := by
  unfold valL
  rw [List.foldl_append]
  have : List.foldl (fun (a : Nat) (d : UInt8) => 10 * a + (d.toNat - 48)) 0 (List.replicate k 48) = 0 := by
    induction k with
    | zero => rfl
    | succ k ih => rw [List.replicate_succ, List.foldl_cons]; exact ih
  rw [this]
theorem valL_dig : ∀ (k u : Nat), u < k → valL (dig u) = u
  | 0, _, h => by omega
  | k + 1, u, h => by
    by_cases h0 : u = 0
    · subst h0; rw [dig_zero]; rfl
    · rw [dig_step h0, valL_snoc, valL_dig k (u / 10) (by omega), UInt8.toNat_ofNat']
      omega
theorem valL_itoa (n : Nat) : valL (Lib.itoa (n : Int)) = n := by
  by_cases h : n = 0
  · subst h
    have h1 : Lib.itoa ((0 : Nat) : Int) = [48] := by
      have h2 := congrArg (fun t : ByteArray => t.data.toList) decS_zero
      have h3 : (decS 0).data.toList = Lib.itoa 0 := by unfold decS; simp
      have h4 : (decS 0).data.toList = [48] := h2
      rw [← h4, h3]; rfl
    rw [h1]; rfl
  · rw [itoa_ne (by omega), if_neg (by omega), List.nil_append, Int.natAbs_natCast]
    exact valL_dig (n + 1) n (by omega)
theorem fiveL_inj {n m : Nat} (h : fiveL n = fiveL m) : n = m := by
  have h1 := congrArg valL h
  unfold fiveL at h1
  rw [valL_zeros, valL_zeros, valL_itoa, valL_itoa] at h1
  exact h1
theorem parseC_zero {line : ByteArray} (h : parseC line = 0) : 6 ≤ line.size ∧ line.data.toList[5]? = some 32 ∧ line.extract 0 5 = fiveS (crcF (restP line)) := by
  unfold parseC at h
  split at h
  · cases h
  · rename_i h1
    split at h
    · cases h
    · rename_i h2
      refine ⟨?_, ?_, Decidable.byContradiction h2⟩
      · rcases Nat.lt_or_ge line.size 6 with h3 | h3
        · exact absurd (.inl h3) h1
        · exact h3
      · exact Decidable.byContradiction fun h3 => h1 (.inr h3)
def mkB (l : List UInt8) : ByteArray := ⟨l.toArray⟩
theorem mkB_data (l : List UInt8) : (mkB l).data.toList = l := by unfold mkB; simp
theorem mkB_size (l : List UInt8) : (mkB l).size = l.length := by show l.toArray.size = _; simp
theorem mkB_self (s : ByteArray) : mkB s.data.toList = s := by cases s; unfold mkB; simp
theorem restP_data (l : List UInt8) : (restP (mkB l)).data.toList = l.drop 6 := by
  unfold restP
  rw [extract_toList, mkB_size, mkB_data, List.take_length]
theorem parse_list {l : List UInt8} (h : parseC (mkB l) = 0) : l[5]? = some 32 ∧ l.take 5 = fiveL (crcL (l.drop 6) 65535) := by
  obtain ⟨h1, h2, h3⟩ := parseC_zero h
  rw [mkB_data] at h2
  refine ⟨h2, ?_⟩
  have h4 : ((mkB l).extract 0 5).data.toList = (fiveS (crcF (restP (mkB l)))).data.toList := by rw [h3]
  rw [extract_toList, mkB_data, List.drop_zero] at h4
  rw [h4]
  unfold fiveS crcF
  rw [restP_data]
theorem parse_bent {p q : List UInt8} {o c : UInt8} (h : parseC (mkB (p ++ o :: q)) = 0) (hne : o ≠ c) : parseC (mkB (p ++ c :: q)) ≠ 0 := by
  intro h'
  obtain ⟨a1, a2⟩ := parse_list h
  obtain ⟨b1, b2⟩ := parse_list h'
  rcases Nat.lt_trichotomy p.length 5 with hj | hj | hj
  · have e : (p ++ o :: q).drop 6 = (p ++ c :: q).drop 6 := by
      obtain ⟨d, hd⟩ : ∃ d, 6 - p.length = d + 1 := ⟨5 - p.length, by omega⟩
      rw [List.drop_append, List.drop_append, List.drop_of_length_le (by omega), hd]; rfl
    rw [e, ← b2] at a2
    have h1 := congrArg (fun t : List UInt8 => t[p.length]?) a2
    simp only [List.getElem?_take] at h1
    rw [if_pos hj, if_pos hj, List.getElem?_append_right (Nat.le_refl _), List.getElem?_append_right (Nat.le_refl _), Nat.sub_self] at h1
    exact hne (by simpa using h1)
  · rw [List.getElem?_append_right (by omega), hj] at a1 b1
    simp at a1 b1
    exact hne (a1.trans b1.symm)
  · have e1 : (p ++ o :: q).take 5 = (p ++ c :: q).take 5 := by
      rw [List.take_append_of_le_length (by omega), List.take_append_of_le_length (by omega)]
    rw [e1, b2] at a2
    have h1 := fiveL_inj a2
    rw [List.drop_append_of_le_length (by omega), List.drop_append_of_le_length (by omega)] at h1
    exact crc_bent hne h1.symm
theorem name_nobyte {x : ByteArray} (h : nameB x = true) {b0' : UInt8} (h0 : okNm b0' = false) : ∀ b ∈ x.data.toList, b ≠ b0' := by
  intro b hb e
  subst e
  unfold nameB at h
  simp only [Bool.and_eq_true] at h
  have ha : allNm x.data.toList = true := h.2
  unfold allNm at ha
  have := List.all_eq_true.1 ha _ hb
  rw [h0] at this; cases this
theorem ixL_app {c : UInt8} : ∀ {x : List UInt8} (y : List UInt8), (∀ b ∈ x, b ≠ c) → ixL c (x ++ c :: y) = x.length
  | [], y, _ => by rw [List.nil_append, ixL_cons, if_pos rfl]; rfl
  | b :: x, y, h => by
    rw [List.cons_append, ixL_cons, if_neg (h b (by simp)), ixL_app y (fun z hz => h z (by simp [hz]))]; rfl
theorem blockB_p {b : DBlock} (h : blockB b = true) : noNl b.text.data.toList = true ∧ nameB b.kind = true ∧ nameB b.name = true := by
  unfold blockB at h
  simp only [Bool.and_eq_true] at h
  exact ⟨h.1.1.1, h.1.1.2, h.1.2⟩
theorem restB_data (b : DBlock) : (restB b).data.toList = b.kind.data.toList ++ 32 :: (b.name.data.toList ++ 32 :: b.text.data.toList) := by
  unfold restB
  rw [data_append, data_append, data_append, data_append]; simp
def lineD (b : DBlock) : List UInt8 := fiveL (crcF (restB b)) ++ 32 :: (restB b).data.toList
theorem fiveL_len {n : Nat} (h : n < 65536) : (fiveL n).length = 5 := by
  have := fiveS_size h
  unfold fiveS at this
  rw [mk_size] at this
  exact this
theorem lineB_data (b : DBlock) : (lineB b).data.toList = lineD b ++ [10] := by
  unfold lineB lineD
  rw [data_append, data_append, data_append]
  unfold fiveS
  simp
theorem parse_line {b : DBlock} (hb : blockB b = true) : parseC (mkB (lineD b)) = 0 ∧ parseB (mkB (lineD b)) = b := by
  obtain ⟨_, hk, hn⟩ := blockB_p hb
  have h5 := fiveL_len (crcF_lt (restB b))
  have hsz : (mkB (lineD b)).size = 6 + (restB b).size := by rw [mkB_size]; unfold lineD; rw [List.length_append, List.length_cons, h5, data_len]; omega
  have hrest : restP (mkB (lineD b)) = restB b := by
    refine data_inj ?_
    rw [restP_data]
    unfold lineD
    rw [List.drop_append, List.drop_of_length_le (by omega), h5]; rfl
  have hf : firK (restB b) = b.kind.data.toList.length := by
    unfold firK; rw [restB_data]; exact ixL_app _ (name_nobyte hk (by decide))
  have hs : secK (restB b) = b.kind.data.toList.length + 1 + b.name.data.toList.length := by
    unfold secK
    rw [hf, restB_data]
    have e : (b.kind.data.toList ++ 32 :: (b.name.data.toList ++ 32 :: b.text.data.toList)).drop (b.kind.data.toList.length + 1) = b.name.data.toList ++ 32 :: b.text.data.toList := by
      rw [List.drop_append, List.drop_of_length_le (by omega), show b.kind.data.toList.length + 1 - b.kind.data.toList.length = 1 by omega]; rfl
    rw [e, ixL_app _ (name_nobyte hn (by decide))]
  have hrs : (restB b).size = b.kind.data.toList.length + 1 + b.name.data.toList.length + 1 + b.text.data.toList.length := by
    have h1 := congrArg List.length (restB_data b)
    rw [data_len] at h1
    rw [h1]; simp; omega
  have hblk : blkP (restB b) = b := by
    have e0 : (restB b).extract 0 (firK (restB b)) = b.kind := by
      refine data_inj ?_
      rw [extract_toList, hf, restB_data, List.drop_zero, List.take_left']; rfl
    have e1 : (restB b).extract (firK (restB b) + 1) (secK (restB b)) = b.name := by
      refine data_inj ?_
      rw [extract_toList, hf, hs, restB_data, List.drop_take, List.drop_append, List.drop_of_length_le (by omega), show b.kind.data.toList.length + 1 - b.kind.data.toList.length = 1 by omega,
        show b.kind.data.toList.length + 1 + b.name.data.toList.length - (b.kind.data.toList.length + 1) = b.name.data.toList.length by omega]
      show (b.name.data.toList ++ 32 :: b.text.data.toList).take _ = _
      rw [List.take_left']; rfl
    have e2 : (restB b).extract (secK (restB b) + 1) (restB b).size = b.text := by
      refine data_inj ?_
      rw [extract_toList, hs, ← data_len, List.take_length, restB_data]
      have e : b.kind.data.toList ++ 32 :: (b.name.data.toList ++ 32 :: b.text.data.toList) = (b.kind.data.toList ++ 32 :: (b.name.data.toList ++ [32])) ++ b.text.data.toList := by simp
      rw [e, List.drop_left']
      simp; omega
    unfold blkP
    rw [e0, e1, e2]
  have hl5 : (mkB (lineD b))[5]'(by omega) = 32 := by
    have h1 : (mkB (lineD b)).data.toList[5]? = some 32 := by
      rw [mkB_data]; unfold lineD
      rw [List.getElem?_append_right (by omega), h5]; rfl
    rw [at_list (by omega)] at h1
    exact Option.some.inj h1
  have hx : (mkB (lineD b)).extract 0 5 = fiveS (crcF (restP (mkB (lineD b)))) := by
    refine data_inj ?_
    rw [hrest, extract_toList, mkB_data, List.drop_zero]
    unfold lineD fiveS
    rw [List.take_append_of_le_length (by omega), List.take_of_length_le (by omega)]
  have := parse_fine (line := mkB (lineD b)) (by omega) hl5 hx (by rw [hrest, hs, hrs]; omega) (by rw [hrest, hblk]; exact hb)
  rw [hrest, hblk] at this
  exact this
def flatW (W : List (List UInt8)) : List UInt8 := W.flatMap (fun w => w ++ [10])
theorem flatW_cons (w : List UInt8) (W : List (List UInt8)) : flatW (w :: W) = w ++ 10 :: flatW W := by unfold flatW; rw [List.flatMap_cons]; simp
theorem cut_at : ∀ (W : List (List UInt8)) (a : Nat) (o c : UInt8), (∀ w ∈ W, ∀ b ∈ w, b ≠ 10) → (flatW W)[a]? = some o → o ≠ 10 →
    ∃ (i : Nat) (p q : List UInt8), i < W.length ∧ W[i]? = some (p ++ o :: q) ∧ ((flatW W).take a).count 10 = i ∧ (flatW W).set a c = flatW (W.set i (p ++ c :: q)) := by
  intro W
  induction W with
  | nil => intro a o c _ h _; simp [flatW] at h
  | cons w W ih =>
    intro a o c hW h ho
    have hw : ∀ b ∈ w, b ≠ 10 := hW w (by simp)
    rw [flatW_cons] at h ⊢
    rcases Nat.lt_trichotomy a w.length with h1 | h1 | h1
    · rw [List.getElem?_append_left h1] at h
      have hg : w[a] = o := by rw [List.getElem?_eq_getElem h1] at h; exact Option.some.inj h
      refine ⟨0, w.take a, w.drop (a + 1), by simp, ?_, ?_, ?_⟩
      · have e : w = w.take a ++ o :: w.drop (a + 1) := by rw [← hg, ← List.drop_eq_getElem_cons h1, List.take_append_drop]
        rw [← e]; rfl
      · rw [List.take_append_of_le_length (by omega), List.count_eq_zero]
        intro hm
        exact hw 10 (List.mem_of_mem_take hm) rfl
      · rw [List.set_append_left _ _ h1, List.set_eq_take_append_cons_drop, if_pos h1, List.set_cons_zero, flatW_cons]
    · rw [List.getElem?_append_right (by omega), h1, Nat.sub_self] at h
      simp at h
      exact absurd h.symm ho
    · obtain ⟨d, rfl⟩ : ∃ d, a = w.length + (d + 1) := ⟨a - w.length - 1, by omega⟩
      rw [List.getElem?_append_right (by omega), Nat.add_sub_cancel_left, List.getElem?_cons_succ] at h
      obtain ⟨i, p, q, q1, q2, q3, q4⟩ := ih d o c (fun x hx => hW x (by simp [hx])) h ho
      refine ⟨i + 1, p, q, by rw [List.length_cons]; omega, by rw [List.getElem?_cons_succ]; exact q2, ?_, ?_⟩
      · rw [List.take_append, List.take_of_length_le (by omega), Nat.add_sub_cancel_left, List.take_succ_cons, List.count_append, List.count_cons, q3]
        have : w.count 10 = 0 := by rw [List.count_eq_zero]; intro hm; exact hw 10 hm rfl
        rw [this]; simp
      · rw [List.set_append_right _ _ (by omega), Nat.add_sub_cancel_left, List.set_cons_succ, q4, List.set_cons_succ, flatW_cons]
theorem splL_appD (c : UInt8) : ∀ (x l : List UInt8), (∀ b ∈ x, b ≠ c) → splL c (x ++ c :: l) = x :: splL c l
  | [], l, _ => by show (if c = c then [] :: splL c l else _) = _; rw [if_pos rfl]
  | b :: x, l, h => by
    rw [List.cons_append]
    show (if b = c then _ else match splL c (x ++ c :: l) with | [] => _ | q :: r => (b :: q) :: r) = _
    rw [if_neg (h b (by simp)), splL_appD c x l (fun y hy => h y (by simp [hy]))]
theorem split_flat : ∀ W : List (List UInt8), (∀ w ∈ W, ∀ b ∈ w, b ≠ 10) → splL 10 (flatW W) = W ++ [[]]
  | [], _ => rfl
  | w :: W, h => by
    rw [flatW_cons, splL_appD 10 w _ (h w (by simp)), split_flat W (fun x hx => h x (by simp [hx]))]; rfl
theorem lines_flat {W : List (List UInt8)} (h : ∀ w ∈ W, ∀ b ∈ w, b ≠ 10) : linL (mkB (flatW W)) = W.map mkB ∧ linQ (mkB (flatW W)) = ⟨#[]⟩ := by
  have e : splS 10 (mkB (flatW W)) = W.map mkB ++ [⟨#[]⟩] := by
    unfold splS; rw [mkB_data, split_flat W h, List.map_append]; rfl
  unfold linL linQ
  rw [e, List.dropLast_concat]
  exact ⟨rfl, by simp [List.getLastD_eq_getLast?]⟩
def headD (n : Nat) : List UInt8 := [97, 114, 99, 104, 105, 118, 101, 32] ++ Lib.itoa n
def W0 (L : List DBlock) : List (List UInt8) := headD L.length :: L.map lineD
theorem save_flat (L : List DBlock) : saveL L L.length = flatW (W0 L) := by
  unfold saveL W0
  rw [flatW_cons, List.take_length]
  have e1 : (headS L.length).data.toList = headD L.length ++ [10] := by
    unfold headS headD decS
    rw [data_append, data_append]
  have e2 : L.flatMap (fun b => (lineB b).data.toList) = flatW (L.map lineD) := by
    unfold flatW
    rw [List.flatMap_map]
    congr 1
    funext b
    exact lineB_data b
  rw [e1, e2]; simp
theorem dig_no10 : ∀ (k u : Nat), u < k → ∀ b ∈ dig u, b ≠ 10
  | 0, _, h => by omega
  | k + 1, u, h => by
    by_cases h0 : u = 0
    · subst h0; rw [dig_zero]; simp
    · rw [dig_step h0]
      intro b hb
      rw [List.mem_append, List.mem_singleton] at hb
      rcases hb with hb | rfl
      · exact dig_no10 k (u / 10) (by omega) b hb
      · intro e
        have := congrArg UInt8.toNat e
        rw [UInt8.toNat_ofNat'] at this
        have h10 : (10 : UInt8).toNat = 10 := rfl
        omega
theorem itoa_no10 (n : Nat) : ∀ b ∈ Lib.itoa (n : Int), b ≠ 10 := by
  by_cases h : n = 0
  · subst h
    have h1 : Lib.itoa ((0 : Nat) : Int) = [48] := by
      have h2 := congrArg (fun t : ByteArray => t.data.toList) decS_zero
      have h3 : (decS 0).data.toList = Lib.itoa 0 := by unfold decS; simp
      have h4 : (decS 0).data.toList = [48] := h2
      rw [← h4, h3]; rfl
    rw [h1]; decide
  · rw [itoa_ne (by omega), if_neg (by omega), List.nil_append, Int.natAbs_natCast]
    exact dig_no10 (n + 1) n (by omega)
theorem lineD_no10 {b : DBlock} (hb : blockB b = true) : ∀ x ∈ lineD b, x ≠ 10 := by
  obtain ⟨ht, hk, hn⟩ := blockB_p hb
  intro x hx
  unfold lineD fiveL at hx
  rw [restB_data] at hx
  simp only [List.mem_append, List.mem_cons, List.mem_replicate] at hx
  rcases hx with (hx | hx) | hx | hx | hx | hx | hx | hx
  · rw [hx.2]; decide
  · exact itoa_no10 _ x hx
  · rw [hx]; decide
  · exact name_nobyte hk (by decide) x hx
  · rw [hx]; decide
  · exact name_nobyte hn (by decide) x hx
  · rw [hx]; decide
  · intro e
    subst e
    unfold noNl at ht
    have := List.all_eq_true.1 ht _ hx
    simp at this
theorem W0_no10 {L : List DBlock} (h : ∀ b ∈ L, blockB b = true) : ∀ w ∈ W0 L, ∀ x ∈ w, x ≠ 10 := by
  intro w hw x hx
  unfold W0 at hw
  rcases List.mem_cons.1 hw with rfl | hw
  · unfold headD at hx
    rcases List.mem_append.1 hx with hx | hx
    · have h9 : ∀ y ∈ ([97, 114, 99, 104, 105, 118, 101, 32] : List UInt8), y ≠ 10 := by decide
      exact h9 x hx
    · exact itoa_no10 _ x hx
  · obtain ⟨b, hb, rfl⟩ := List.mem_map.1 hw
    exact lineD_no10 (h b hb) x hx
theorem putF_end {M : List DBlock} {b : DBlock} (h : ∀ x ∈ M, beforeB x b = true) : putF M b = M ++ [b] := by
  have e : atB M b = M.length := takeWhile_len _ M M.length (Nat.le_refl _) (fun m hm _ => h _ (List.getElem_mem hm)) (fun hh => absurd hh (Nat.lt_irrefl _))
  have hk : hasKey M b = false := by unfold hasKey; rw [e, List.getElem?_eq_none (Nat.le_refl _)]
  unfold putF skB
  rw [hk, e, List.take_length]
  simp
theorem sg_run : ∀ (N M : List DBlock), (M ++ N).Pairwise (fun a b => beforeB a b = true) → (∀ x ∈ N, blockB x = true) → (M ++ N).length ≤ 32 → (N.map (fun b => mkB (lineD b))).foldl sgS M = M ++ N := by
  intro N
  induction N with
  | nil => intro M _ _ _; simp
  | cons b N ih =>
    intro M hp hb hl
    obtain ⟨q1, q2⟩ := parse_line (hb b (by simp))
    have hpe := putF_end (M := M) (b := b) (fun x hx => (List.pairwise_append.1 hp).2.2 x hx b (by simp))
    have hl1 : (M ++ [b]).length ≤ 32 := by simp at hl ⊢; omega
    rw [List.map_cons, List.foldl_cons]
    have hs : sgS M (mkB (lineD b)) = M ++ [b] := by
      unfold sgS; rw [if_pos q1, q2, hpe, if_pos hl1]
    have e : M ++ b :: N = (M ++ [b]) ++ N := by simp
    rw [hs, e]
    exact ih (M ++ [b]) (by rw [← e]; exact hp) (fun x hx => hb x (by simp [hx])) (by rw [← e]; exact hl)
theorem set_split {α β : Type} (f : α → β) (L : List α) (j : Nat) (hj : j < L.length) (x : β) : (L.map f).set j x = (L.take j).map f ++ x :: (L.drop (j + 1)).map f := by
  rw [List.set_eq_take_append_cons_drop, if_pos (by simpa using hj), ← List.map_take, ← List.map_drop]
theorem salvage_plain {L : List DBlock} (h : drawOk L) (hl : L.length ≤ 5) {a : Nat} {o c : UInt8} (ha : (saveL L L.length)[a]? = some o) (ho : o ≠ 10) (hc : c ≠ 10) (hoc : o ≠ c) :
    ∃ i, ((saveL L L.length).take a).count 10 = i ∧ (i = 0 ∨ ∃ j, i = j + 1 ∧ j < L.length ∧ dmF (mkB ((saveL L L.length).set a c)) = [(j : Int) + 2] ∧ sgF (mkB ((saveL L L.length).set a c)) = L.take j ++ L.drop (j + 1)) := by
  have hb : ∀ b ∈ L, blockB b = true := fun b hx => dBlocks_at h.1 hx
  have hW := W0_no10 hb
  rw [save_flat] at ha ⊢
  obtain ⟨i, p, q, h1, h2, h3, h4⟩ := cut_at (W0 L) a o c hW ha ho
  refine ⟨i, h3, ?_⟩
  rcases Nat.eq_zero_or_pos i with h0 | h0
  · exact .inl h0
  · obtain ⟨j, rfl⟩ : ∃ j, i = j + 1 := ⟨i - 1, by omega⟩
    have hj : j < L.length := by unfold W0 at h1; simp at h1; omega
    have hlj : lineD L[j] = p ++ o :: q := by
      unfold W0 at h2
      rw [List.getElem?_cons_succ, List.getElem?_map, List.getElem?_eq_getElem hj] at h2
      exact Option.some.inj h2
    have hbad : parseC (mkB (p ++ c :: q)) ≠ 0 := by
      refine parse_bent (o := o) ?_ hoc
      rw [← hlj]; exact (parse_line (hb _ (List.getElem_mem hj))).1
    have hno : ∀ w ∈ (W0 L).set (j + 1) (p ++ c :: q), ∀ x ∈ w, x ≠ 10 := by
      intro w hw x hx
      rcases List.mem_or_eq_of_mem_set hw with hw | rfl
      · exact hW w hw x hx
      · have hl0 := lineD_no10 (hb _ (List.getElem_mem hj))
        rw [hlj] at hl0
        rcases List.mem_append.1 hx with hx | hx
        · exact hl0 x (by simp [hx])
        · rcases List.mem_cons.1 hx with rfl | hx
          · exact hc
          · exact hl0 x (by simp [hx])
    obtain ⟨e1, e2⟩ := lines_flat hno
    have hset : (W0 L).set (j + 1) (p ++ c :: q) = headD L.length :: (L.map lineD).set j (p ++ c :: q) := rfl
    have hlin : linL (mkB ((flatW (W0 L)).set a c)) = mkB (headD L.length) :: ((L.take j).map (fun b => mkB (lineD b)) ++ mkB (p ++ c :: q) :: (L.drop (j + 1)).map (fun b => mkB (lineD b))) := by
      rw [h4, e1, hset, List.map_cons, set_split lineD L j hj, List.map_append, List.map_cons, List.map_map, List.map_map]; rfl
    have hq : linQ (mkB ((flatW (W0 L)).set a c)) = ⟨#[]⟩ := by rw [h4, e2]
    refine .inr ⟨j, rfl, hj, ?_, ?_⟩
    · have hlen : (linL (mkB ((flatW (W0 L)).set a c))).length = L.length + 1 := by
        rw [hlin]; simp; omega
      have hat : ∀ k, k ≤ L.length + 1 → dmB (linL (mkB ((flatW (W0 L)).set a c))) (linQ (mkB ((flatW (W0 L)).set a c))) k = decide (k = j + 1) := by
        intro k hk
        rw [hq]
        rcases Nat.lt_or_ge k (L.length + 1) with hk1 | hk1
        · rcases Nat.eq_zero_or_pos k with rfl | hk0
          · rw [dmB_first (by omega), decide_eq_false (by omega)]
          · obtain ⟨m, rfl⟩ : ∃ m, k = m + 1 := ⟨k - 1, by omega⟩
            have hkl : m + 1 < (linL (mkB ((flatW (W0 L)).set a c))).length := by omega
            rw [dmB_in hkl (by omega) _ rfl]
            by_cases hm : m = j
            · subst hm
              have hg : (linL (mkB ((flatW (W0 L)).set a c)))[m + 1] = mkB (p ++ c :: q) := by
                rw [List.getElem_of_eq hlin, List.getElem_cons_succ, List.getElem_append_right (by simp; omega)]
                simp [Nat.min_eq_left (Nat.le_of_lt hj)]
              rw [hg, decide_eq_false hbad, decide_eq_true rfl]; rfl
            · have hg : parseC (linL (mkB ((flatW (W0 L)).set a c)))[m + 1] = 0 := by
                have hsm : (linL (mkB ((flatW (W0 L)).set a c)))[m + 1] = mkB (lineD (L[m]'(by omega))) := by
                  have e9 : linL (mkB ((flatW (W0 L)).set a c)) = (headD L.length :: (L.map lineD).set j (p ++ c :: q)).map mkB := by rw [h4, e1, hset]
                  rw [List.getElem_of_eq e9, List.getElem_map, List.getElem_cons_succ, List.getElem_set_ne (fun e => hm e.symm), List.getElem_map]
                rw [hsm]
                exact (parse_line (hb _ (List.getElem_mem _))).1
              rw [hg, decide_eq_true rfl, decide_eq_false (by omega)]; rfl
        · rw [dmB_last (by omega), decide_eq_false (by omega)]; rfl
      have hK : ∀ k, k ≤ L.length + 2 → dmK (linL (mkB ((flatW (W0 L)).set a c))) (linQ (mkB ((flatW (W0 L)).set a c))) k = if k ≤ j + 1 then [] else [(j : Int) + 2] := by
        intro k
        induction k with
        | zero => intro _; rfl
        | succ k ih =>
          intro hk
          have ih := ih (by omega)
          by_cases hkj : k = j + 1
          · rw [dmK_yes (by omega) (by rw [hat k (by omega), decide_eq_true hkj]), ih, if_pos (by omega), if_neg (by omega), hkj]
            simp; omega
          · rw [dmK_no (by omega) (by rw [hat k (by omega), decide_eq_false hkj]), ih]
            by_cases h5 : k ≤ j + 1
            · rw [if_pos h5, if_pos (by omega)]
            · rw [if_neg h5, if_neg (by omega)]
      unfold dmF
      rw [hlen, hK _ (by omega), if_neg (by omega)]
    · have hor := ordered_pairwise.1 (blocksB_ordered h.1)
      unfold sgF sgK
      rw [List.take_length, hlin, List.drop_succ_cons, List.drop_zero, List.foldl_append, List.foldl_cons]
      rw [sg_run (L.take j) [] (by rw [List.nil_append]; exact hor.sublist (List.take_sublist _ _)) (fun x hx => hb x (List.mem_of_mem_take hx)) (by simp; omega), List.nil_append]
      have hbs : sgS (L.take j) (mkB (p ++ c :: q)) = L.take j := by unfold sgS; rw [if_neg hbad]
      rw [hbs]
      refine sg_run (L.drop (j + 1)) (L.take j) (hor.sublist ?_) (fun x hx => hb x (List.mem_of_mem_drop hx)) (by simp; omega)
      have : L.take j ++ L.drop (j + 1) = L.eraseIdx j := (List.eraseIdx_eq_take_drop_succ ..).symm
      rw [this]
      exact List.eraseIdx_sublist ..

end Go.Proofs.YtdlihohkamajbaaGreatDoor
