/- Numbers read: the reference's l01Number, the program's ReadDecimal. -/
import Derived.Test.YtaaholabodchaaaGreatDoorNu
import Derived.Test.YtaaholabodchaaaGreatDoorNm
import Derived.Test.YtaaholabodchaaaGreatDoorTb
import Derived.Stop.LaidErr
import Derived.RowKitTokens
namespace Go.Proofs.YtaaholabodchaaaGreatDoor
open Go.RowKit
set_option linter.unusedVariables false

def numOk (s : ByteArray) : Bool := (numL s.data.toList).isSome
def numV (s : ByteArray) : Int := (numL s.data.toList).getD 0
theorem num_none {s : ByteArray} (h : numL s.data.toList = none) : numOk s = false ∧ numV s = 0 := by unfold numOk numV; rw [h]; exact ⟨rfl, rfl⟩
theorem num_some {s : ByteArray} {v : Int} (h : numL s.data.toList = some v) : numOk s = true ∧ numV s = v := by unfold numOk numV; rw [h]; exact ⟨rfl, rfl⟩
structure RdTabs (w : World) : Prop where
  tab : Tab10 w
  syn : ∃ tp p, w.var? Tryz.prog "strconv.ErrSyntax" = some #[.iface tp p]
  ran : ∃ tp p, w.var? Tryz.prog "strconv.ErrRange" = some #[.iface tp p]
theorem RdTabs.below {w w' : World} (h : RdTabs w) (hb : Below w.heap.size w w') : RdTabs w' := by
  obtain ⟨h1, ⟨t1, p1, h2⟩, ⟨t2, p2, h3⟩⟩ := h
  exact ⟨h1.below hb, ⟨t1, p1, Go.Joins.var_stays (g := 1) (by kernel_rfl) h2 hb (Nat.le_refl _)⟩, ⟨t2, p2, Go.Joins.var_stays (g := 2) (by kernel_rfl) h3 hb (Nat.le_refl _)⟩⟩
theorem starErr : ("*" ++ "errors.errorString") = "*errors.errorString" := by decide
theorem errRow (u : TypeId) (h : Tryz.prog.typeName? 3 u = some "*errors.errorString") : u = 143 :=
  typeName_ptr_named (nm := "errors.errorString") (by rw [starErr]; kernel_rfl) (by kernel_rfl) (by decide) u (by rw [starErr]; exact h)
set_option maxRecDepth 100000 in
theorem rdTabs_of {laid : List (String × DataW Unit)} {W : World} (h : laidMetH Tryz.prog laid W) (h0 : laid.filter (fun x => x.1 == "internal/strconv.uint64pow10") = [("internal/strconv.uint64pow10", Lib.tabData .u64 Lib.pow10Tab)])
    (h1 : laid.filter (fun x => x.1 == "strconv.ErrSyntax") = [("strconv.ErrSyntax", .iface "*errors.errorString" (.ptr (.agg [.lit (.string [105, 110, 118, 97, 108, 105, 100, 32, 115, 121, 110, 116, 97, 120])])))])
    (h2 : laid.filter (fun x => x.1 == "strconv.ErrRange") = [("strconv.ErrRange", .iface "*errors.errorString" (.ptr (.agg [.lit (.string [118, 97, 108, 117, 101, 32, 111, 117, 116, 32, 111, 102, 32, 114, 97, 110, 103, 101])])))]) : RdTabs W := by
  have g1 := h.filter (fun x => x.1 == "strconv.ErrSyntax")
  rw [h1] at g1
  have g1 := Eq.mp (MakeChecks.laidMetH_plain _ _ _ rfl) g1
  have g2 := h.filter (fun x => x.1 == "strconv.ErrRange")
  rw [h2] at g2
  have g2 := Eq.mp (MakeChecks.laidMetH_plain _ _ _ rfl) g2
  obtain ⟨a1, s1, q1, _⟩ := laid_sentinel (ti := 72) g1 (g := 1) (by kernel_rfl) (by kernel_rfl) Tryz.underlying72 errRow Tryz.underlying143 Tryz.underlying145 rfl rfl Tryz.underlying9 (by kernel_rfl) (by kernel_rfl)
  obtain ⟨a2, s2, q2, _⟩ := laid_sentinel (ti := 72) g2 (g := 2) (by kernel_rfl) (by kernel_rfl) Tryz.underlying72 errRow Tryz.underlying143 Tryz.underlying145 rfl rfl Tryz.underlying9 (by kernel_rfl) (by kernel_rfl)
  exact ⟨tab10_of h h0, ⟨_, _, q1⟩, ⟨_, _, q2⟩⟩
theorem trim_minus (l : List UInt8) : Lib.trimPrefix l [45] = bodyL l := by
  unfold Lib.trimPrefix Lib.hasPrefix bodyL
  cases l with
  | nil => rfl
  | cons c r =>
    by_cases h : c = 45
    · subst h; simp
    · have h' : ¬ 45 = c := fun e => h e.symm
      simp [h, h']
--NUMBER
theorem num_len {l : List UInt8} (h : (bodyL l).length = 0 ∨ 18 < (bodyL l).length) : numL l = none := by
  unfold numL; rw [if_pos]
  rcases h with h | h
  · rw [List.eq_nil_of_length_eq_zero h]; rfl
  · simp [h]
theorem num_zero {l : List UInt8} (h : (bodyL l).head? = some 48) (h1 : 1 < l.length) : numL l = none := by
  unfold numL; rw [if_pos]; simp [h, h1]
theorem num_bad {l : List UInt8} {k : Nat} (hk : k < (bodyL l).length) (h : digB (bodyL l)[k] = false) : numL l = none := by
  unfold numL; rw [if_pos]
  have : (bodyL l).all digB = false := by
    rw [List.all_eq_false]; exact ⟨_, List.getElem_mem hk, by rw [h]; decide⟩
  simp [this]
theorem num_is {l : List UInt8} (h0 : 0 < (bodyL l).length) (h18 : (bodyL l).length ≤ 18) (hz : ¬ ((bodyL l).head? = some 48 ∧ 1 < l.length)) (ha : (bodyL l).all digB = true) : numL l = some (if l.head? = some 45 then -(valL 0 (bodyL l) : Int) else (valL 0 (bodyL l) : Int)) := by
  unfold numL; rw [if_neg]
  intro h
  simp only [Bool.or_eq_true, Bool.and_eq_true, decide_eq_true_eq, Bool.not_eq_true', List.isEmpty_iff] at h
  rcases h with ((h | h) | h) | h
  · rw [h] at h0; simp at h0
  · omega
  · exact hz h
  · rw [ha] at h; cases h
theorem digitB_dig (c : UInt8) : digitB (c.toNat : Int) = digB c := by
  unfold digitB digB inB
  rw [Bool.eq_iff_iff]
  simp
  omega
theorem byte_ne48 {a : UInt8} (h : a ≠ 48) : ¬ (a.toNat : Int) = 48 := by
  intro e; have h48 : (48 : UInt8).toNat = 48 := rfl
  exact h (UInt8.toNat_inj.1 (by omega))
theorem at_listN {s : ByteArray} {k : Nat} (h : k < s.size) : s.data.toList[k]? = some s[k] := by
  rw [List.getElem?_eq_getElem (by simpa using h)]; rfl
set_option maxRecDepth 100000 in
set_option maxHeartbeats 8000000 in
theorem l01Number_any (s : ByteArray) (w : World) (hs : s.size ≤ 1048576) :
    Calls Tryz.prog 39 #[.string s] w fun e w' => e = .returned (.tuple #[.int .i64 (numV s), .bool (numOk s)]) ∧ Below w.heap.size w w' := by
  by_cases h45 : s.data.toList.head? = some 45
  · have h0 : 0 < s.size := by
      rcases Nat.eq_zero_or_pos s.size with h | h
      · have h2 : s.data.toList.length = 0 := by simpa using h
        rw [List.eq_nil_of_length_eq_zero h2] at h45; cases h45
      · exact h
    have e0 : ((s[0].toNat : Int) == 45) = true := by
      rw [List.head?_eq_getElem?, at_listN h0] at h45
      rw [Option.some.inj h45]; rfl
    have hb : bodyL s.data.toList = s.data.toList.drop 1 := by unfold bodyL; rw [if_pos h45]
    have hbl : (bodyL s.data.toList).length = s.size - 1 := by rw [hb, List.length_drop]; simp
    by_cases hone : s.size = 1
    · obtain ⟨hn1, hn2⟩ : numOk s = false ∧ numV s = 0 := num_none (num_len (by rw [hbl]; omega))
      have e3 : ((s.size : Int) == 1) = true := by rw [beq_iff_eq]; omega
      rw [hn1, hn2]
      clear hn1 hn2 hb hbl h45 hone
      go_enter Tryz.func39, Tryz.ntmps39
      go_wp2
      go_ret2
      exact ⟨rfl, Below.refl _ _⟩
    · skip
      by_cases hsh : 18 < s.size - 1
      · obtain ⟨hn1, hn2⟩ : numOk s = false ∧ numV s = 0 := num_none (num_len (by rw [hbl]; omega))
        have e3 : ((s.size : Int) == 1) = false := by rw [beq_eq_false_iff_ne]; omega
        have e4 : (18 : Int) < (s.size : Int) - 1 := by omega
        rw [hn1, hn2]
        clear hn1 hn2 hb hbl h45
        go_enter Tryz.func39, Tryz.ntmps39
        go_wp2
        go_ret2
        exact ⟨rfl, Below.refl _ _⟩
      · have hat : 1 < s.size := by omega
        have e3 : ((s.size : Int) == 1) = false := by rw [beq_eq_false_iff_ne]; omega
        have e4 : ¬ (18 : Int) < (s.size : Int) - 1 := by omega
        have hhd : (bodyL s.data.toList).head? = some s[1] := by rw [hb, List.head?_drop, at_listN hat]
        by_cases hze : s[1] = 48 ∧ 1 < s.size
        · obtain ⟨hn1, hn2⟩ : numOk s = false ∧ numV s = 0 := num_none (num_zero (by rw [hhd, hze.1]) (by simpa using hze.2))
          have e1 : ((s[1].toNat : Int) == 48) = true := by rw [hze.1]; rfl
          have hz2 : (1 : Int) < (s.size : Int) := by omega
          rw [hn1, hn2]
          clear hn1 hn2 hb hbl h45 hze hhd hsh
          go_enter Tryz.func39, Tryz.ntmps39
          go_wp2
          go_ret2
          exact ⟨rfl, Below.refl _ _⟩
        · have e1 : ((s[1].toNat : Int) == 48) = false ∨ (((s[1].toNat : Int) == 48) = true ∧ ¬ (1 : Int) < (s.size : Int)) := by
            by_cases h1 : s[1] = 48
            · exact .inr ⟨by rw [h1]; rfl, by intro h2; exact hze ⟨h1, by omega⟩⟩
            · exact .inl (by rw [beq_eq_false_iff_ne]; exact byte_ne48 h1)
          have hzn : ¬ ((bodyL s.data.toList).head? = some 48 ∧ 1 < s.data.toList.length) := by
            rintro ⟨h1, h2⟩
            rw [hhd] at h1
            exact hze ⟨Option.some.inj h1, by simpa using h2⟩
          have HZ := Lib.hid hzn
          have HB := Lib.hid hb
          have HBL := Lib.hid hbl
          have H45 := Lib.hid h45
          have hsh1 : s.size - 1 ≤ 18 := by omega
          clear hzn hb hbl h45 hze hhd hsh
          replace e1 : ((s[1].toNat : Int) == 48) = false := by
            rcases e1 with e1 | ⟨_, e5⟩
            · exact e1
            · exact absurd (show (1 : Int) < (s.size : Int) by omega) e5
          all_goals
            go_enter Tryz.func39, Tryz.ntmps39
            go_wp2
            go_loop [5, 6] (fun n i => ∃ k : Nat, 1 ≤ k ∧ k ≤ s.size ∧ i = .int .i64 k ∧ ∃ u : Nat, n = .int .i64 u ∧ Hid (u = valL 0 ((bodyL s.data.toList).take (k - 1))) ∧ Hid (((bodyL s.data.toList).take (k - 1)).all digB = true) ∧ u < 1000000000000000000) (fun _ i => s.size - (intOf i).toNat)
            case atStart => exact ⟨1, Nat.le_refl _, by omega, rfl, 0, rfl, by show _ = _; simp [valL], by show _ = _; simp, by omega⟩
            case round =>
              obtain ⟨k, hk0, hk, rfl, u, rfl, HU, HA, hu⟩ := hrel
              by_cases hlt : k < s.size
              · have hbk : (bodyL s.data.toList)[k - 1]'(by rw [HBL.out]; omega) = s[k] := by
                  rw [List.getElem_of_eq HB.out, List.getElem_drop]
                  have : 1 + (k - 1) = k := by omega
                  rw [getElem_congr rfl this _]
                  rfl
                have htk : (bodyL s.data.toList).take (k + 1 - 1) = (bodyL s.data.toList).take (k - 1) ++ [s[k]] := by
                  rw [show k + 1 - 1 = (k - 1) + 1 by omega, List.take_succ_eq_append_getElem (by rw [HBL.out]; omega), hbk]
                have hdd := digitB_dig s[k]
                by_cases hd : digB s[k] = true
                · have e2 : digitB (s[k].toNat : Int) = true := by rw [hdd]; exact hd
                  have hlo : 48 ≤ s[k].toNat ∧ s[k].toNat ≤ 57 := by unfold digB at hd; simpa using hd
                  have HU2 : Hid (10 * u + (s[k].toNat - 48) = valL 0 ((bodyL s.data.toList).take (k + 1 - 1))) := by show _ = _; rw [htk, valL_snoc, HU.out]
                  have HA2 : Hid (((bodyL s.data.toList).take (k + 1 - 1)).all digB = true) := by show _ = _; rw [htk, List.all_append, HA.out]; simp [hd]
                  have hu2 : 10 * u + (s[k].toNat - 48) < 1000000000000000000 := by
                    have h := valL_lt ((bodyL s.data.toList).take (k + 1 - 1)) 0 0 HA2.out (by decide)
                    rw [← HU2.out] at h
                    refine Nat.lt_of_lt_of_le h ?_
                    rw [Nat.zero_add]
                    refine Nat.le_trans (Nat.pow_le_pow_right (by decide) (show _ ≤ 18 from ?_)) (by decide)
                    rw [List.length_take]; omega
                  clear hbk htk hdd hd
                  go_wp2_with (go_at_call 60; refine (l01Digit_any _ _).mono ?_; rintro e w' ⟨rfl, rfl⟩)
                  go_round
                  case rel => exact ⟨k + 1, by omega, by omega, by go_num, _, by first | rfl | (congr 1; first | (push_cast; omega) | (unfold wrap64; omega)), HU2, HA2, hu2⟩
                  case measure => simp [intOf]; omega
                · have e2 : digitB (s[k].toNat : Int) = false := by rw [hdd]; simpa using hd
                  obtain ⟨hn1, hn2⟩ : numOk s = false ∧ numV s = 0 := num_none (num_bad (k := k - 1) (by rw [HBL.out]; omega) (by rw [hbk]; simpa using hd))
                  have HN1 := Lib.hid hn1
                  have HN2 := Lib.hid hn2
                  clear hbk htk hdd hd hn1 hn2
                  go_wp2_with (go_at_call 60; refine (l01Digit_any _ _).mono ?_; rintro e w' ⟨rfl, rfl⟩)
                  go_ret2
                  exact ⟨by rw [HN1.out, HN2.out]; rfl, Below.refl _ _⟩
              · have hke : (bodyL s.data.toList).take (k - 1) = bodyL s.data.toList := List.take_of_length_le (by rw [HBL.out]; omega)
                have hnum := num_is (l := s.data.toList) (by rw [HBL.out]; omega) (by rw [HBL.out]; omega) HZ.out (by rw [← hke]; exact HA.out)
                rw [← hke, ← HU.out, if_pos H45.out] at hnum
                obtain ⟨hn1, hn2⟩ := num_some hnum
                have HN1 := Lib.hid hn1
                have HN2 := Lib.hid hn2
                clear hnum hke hn1 hn2
                go_wp2
                go_ret2
                exact ⟨by rw [HN1.out, HN2.out]; rfl, Below.refl _ _⟩
  · by_cases h0 : 0 < s.size
    · have e0 : ((s[0].toNat : Int) == 45) = false := by
        rw [beq_eq_false_iff_ne]; intro e
        refine h45 ?_
        rw [List.head?_eq_getElem?, at_listN h0]
        have h48 : (45 : UInt8).toNat = 45 := rfl
        exact congrArg some (UInt8.toNat_inj.1 (by omega))
      have hb : bodyL s.data.toList = s.data.toList.drop 0 := by unfold bodyL; rw [if_neg h45, List.drop_zero]
      have hbl : (bodyL s.data.toList).length = s.size - 0 := by rw [hb, List.length_drop]; simp
      by_cases hsh : 18 < s.size - 0
      · obtain ⟨hn1, hn2⟩ : numOk s = false ∧ numV s = 0 := num_none (num_len (by rw [hbl]; omega))
        have e3 : ((s.size : Int) == 0) = false := by rw [beq_eq_false_iff_ne]; omega
        have e4 : (18 : Int) < (s.size : Int) := by omega
        rw [hn1, hn2]
        clear hn1 hn2 hb hbl h45
        go_enter Tryz.func39, Tryz.ntmps39
        go_wp2
        go_ret2
        exact ⟨rfl, Below.refl _ _⟩
      · have hat : 0 < s.size := by omega
        have e3 : ((s.size : Int) == 0) = false := by rw [beq_eq_false_iff_ne]; omega
        have e4 : ¬ (18 : Int) < (s.size : Int) := by omega
        have hhd : (bodyL s.data.toList).head? = some s[0] := by rw [hb, List.head?_drop, at_listN hat]
        by_cases hze : s[0] = 48 ∧ 1 < s.size
        · obtain ⟨hn1, hn2⟩ : numOk s = false ∧ numV s = 0 := num_none (num_zero (by rw [hhd, hze.1]) (by simpa using hze.2))
          have e1 : ((s[0].toNat : Int) == 48) = true := by rw [hze.1]; rfl
          have hz2 : (1 : Int) < (s.size : Int) := by omega
          rw [hn1, hn2]
          clear hn1 hn2 hb hbl h45 hze hhd hsh
          go_enter Tryz.func39, Tryz.ntmps39
          go_wp2
          go_ret2
          exact ⟨rfl, Below.refl _ _⟩
        · have e1 : ((s[0].toNat : Int) == 48) = false ∨ (((s[0].toNat : Int) == 48) = true ∧ ¬ (1 : Int) < (s.size : Int)) := by
            by_cases h1 : s[0] = 48
            · exact .inr ⟨by rw [h1]; rfl, by intro h2; exact hze ⟨h1, by omega⟩⟩
            · exact .inl (by rw [beq_eq_false_iff_ne]; exact byte_ne48 h1)
          have hzn : ¬ ((bodyL s.data.toList).head? = some 48 ∧ 1 < s.data.toList.length) := by
            rintro ⟨h1, h2⟩
            rw [hhd] at h1
            exact hze ⟨Option.some.inj h1, by simpa using h2⟩
          have HZ := Lib.hid hzn
          have HB := Lib.hid hb
          have HBL := Lib.hid hbl
          have H45 := Lib.hid h45
          have hsh1 : s.size - 0 ≤ 18 := by omega
          clear hzn hb hbl h45 hze hhd hsh
          rcases e1 with e1 | ⟨e1, e5⟩
          all_goals
            go_enter Tryz.func39, Tryz.ntmps39
            go_wp2
            go_loop [5, 6] (fun n i => ∃ k : Nat, 0 ≤ k ∧ k ≤ s.size ∧ i = .int .i64 k ∧ ∃ u : Nat, n = .int .i64 u ∧ Hid (u = valL 0 ((bodyL s.data.toList).take (k - 0))) ∧ Hid (((bodyL s.data.toList).take (k - 0)).all digB = true) ∧ u < 1000000000000000000) (fun _ i => s.size - (intOf i).toNat)
            case atStart => exact ⟨0, Nat.le_refl _, by omega, rfl, 0, rfl, by show _ = _; simp [valL], by show _ = _; simp, by omega⟩
            case round =>
              obtain ⟨k, hk0, hk, rfl, u, rfl, HU, HA, hu⟩ := hrel
              by_cases hlt : k < s.size
              · have hbk : (bodyL s.data.toList)[k - 0]'(by rw [HBL.out]; omega) = s[k] := by
                  rw [List.getElem_of_eq HB.out, List.getElem_drop]
                  have : 0 + (k - 0) = k := by omega
                  rw [getElem_congr rfl this _]
                  rfl
                have htk : (bodyL s.data.toList).take (k + 1 - 0) = (bodyL s.data.toList).take (k - 0) ++ [s[k]] := by
                  rw [show k + 1 - 0 = (k - 0) + 1 by omega, List.take_succ_eq_append_getElem (by rw [HBL.out]; omega), hbk]
                have hdd := digitB_dig s[k]
                by_cases hd : digB s[k] = true
                · have e2 : digitB (s[k].toNat : Int) = true := by rw [hdd]; exact hd
                  have hlo : 48 ≤ s[k].toNat ∧ s[k].toNat ≤ 57 := by unfold digB at hd; simpa using hd
                  have HU2 : Hid (10 * u + (s[k].toNat - 48) = valL 0 ((bodyL s.data.toList).take (k + 1 - 0))) := by show _ = _; rw [htk, valL_snoc, HU.out]
                  have HA2 : Hid (((bodyL s.data.toList).take (k + 1 - 0)).all digB = true) := by show _ = _; rw [htk, List.all_append, HA.out]; simp [hd]
                  have hu2 : 10 * u + (s[k].toNat - 48) < 1000000000000000000 := by
                    have h := valL_lt ((bodyL s.data.toList).take (k + 1 - 0)) 0 0 HA2.out (by decide)
                    rw [← HU2.out] at h
                    refine Nat.lt_of_lt_of_le h ?_
                    rw [Nat.zero_add]
                    refine Nat.le_trans (Nat.pow_le_pow_right (by decide) (show _ ≤ 18 from ?_)) (by decide)
                    rw [List.length_take]; omega
                  clear hbk htk hdd hd
                  go_wp2_with (go_at_call 60; refine (l01Digit_any _ _).mono ?_; rintro e w' ⟨rfl, rfl⟩)
                  go_round
                  case rel => exact ⟨k + 1, by omega, by omega, by go_num, _, by first | rfl | (congr 1; first | (push_cast; omega) | (unfold wrap64; omega)), HU2, HA2, hu2⟩
                  case measure => simp [intOf]; omega
                · have e2 : digitB (s[k].toNat : Int) = false := by rw [hdd]; simpa using hd
                  obtain ⟨hn1, hn2⟩ : numOk s = false ∧ numV s = 0 := num_none (num_bad (k := k - 0) (by rw [HBL.out]; omega) (by rw [hbk]; simpa using hd))
                  have HN1 := Lib.hid hn1
                  have HN2 := Lib.hid hn2
                  clear hbk htk hdd hd hn1 hn2
                  go_wp2_with (go_at_call 60; refine (l01Digit_any _ _).mono ?_; rintro e w' ⟨rfl, rfl⟩)
                  go_ret2
                  exact ⟨by rw [HN1.out, HN2.out]; rfl, Below.refl _ _⟩
              · have hke : (bodyL s.data.toList).take (k - 0) = bodyL s.data.toList := List.take_of_length_le (by rw [HBL.out]; omega)
                have hnum := num_is (l := s.data.toList) (by rw [HBL.out]; omega) (by rw [HBL.out]; omega) HZ.out (by rw [← hke]; exact HA.out)
                rw [← hke, ← HU.out, if_neg H45.out] at hnum
                obtain ⟨hn1, hn2⟩ := num_some hnum
                have HN1 := Lib.hid hn1
                have HN2 := Lib.hid hn2
                clear hnum hke hn1 hn2
                go_wp2
                go_ret2
                exact ⟨by rw [HN1.out, HN2.out]; rfl, Below.refl _ _⟩
    · have hz : s.size = 0 := by omega
      obtain ⟨hn1, hn2⟩ : numOk s = false ∧ numV s = 0 := num_none (num_len (.inl (by
        have h2 : s.data.toList.length = 0 := by simpa using hz
        rw [List.eq_nil_of_length_eq_zero h2]; rfl)))
      rw [hn1, hn2]
      clear hn1 hn2
      go_enter Tryz.func39, Tryz.ntmps39
      go_wp2
      go_ret2
      exact ⟨rfl, Below.refl _ _⟩
--NUMBEREND
set_option maxRecDepth 100000 in
set_option maxHeartbeats 4000000 in
theorem ReadDecimal_any (s : ByteArray) (w : World) (hs : s.size ≤ 1048576) (ht : RdTabs w) :
    Calls Tryz.prog 25 #[.string s] w fun e w' => e = .returned (.tuple #[.int .i64 (numV s), .bool (numOk s)]) ∧ Below w.heap.size w w' := by
  have hno : (∀ v, Lib.parseIntB 64 s.data.toList ≠ .ok v) → numOk s = false ∧ numV s = 0 := fun h => num_none (by
    cases hn : numL s.data.toList with
    | none => rfl
    | some v => exact absurd (parse_of_num hn) (h v))
  rcases hp : Lib.parseIntB 64 s.data.toList with v | _ | _
  · have hbd := Lib.parseIntB_bounds hp
    have hv0 : -9223372036854775808 ≤ v := by have := hbd.1; simpa using this
    have e63 : ((2 ^ (64 - 1) : Nat) : Int) = 9223372036854775808 := by decide
    have hv1 : v ≤ 9223372036854775807 := by have := hbd.2; omega
    clear e63
    clear hbd
    obtain ⟨b, hbl⟩ : ∃ b : ByteArray, b = ⟨(bodyL s.data.toList).toArray⟩ := ⟨_, rfl⟩
    have hbs : b.size = (bodyL s.data.toList).length := by rw [hbl, show (ByteArray.mk (bodyL s.data.toList).toArray).size = (bodyL s.data.toList).toArray.size from rfl]; simp
    have hble : b.size ≤ 1048576 := by
      rw [hbs]
      have : (bodyL s.data.toList).length ≤ s.data.toList.length := by unfold bodyL; split <;> simp
      have h2 : s.data.toList.length = s.size := by simp
      omega
    have htr : (⟨(Lib.trimPrefix s.data.toList (ByteArray.mk #[45]).data.toList).toArray⟩ : ByteArray) = b := by
      rw [hbl, show (ByteArray.mk #[45]).data.toList = [45] from rfl, trim_minus]
    have HP := Lib.hid hp
    clear hp
    by_cases h18 : (18 : Int) < (b.size : Int)
    · obtain ⟨hn1, hn2⟩ : numOk s = false ∧ numV s = 0 := num_none (by
        cases hn : numL s.data.toList with
        | none => rfl
        | some u => have := (numL_back hn).2.2; omega)
      rw [hn1, hn2]
      clear hn1 hn2 hbl hbs
      go_enter Tryz.func25, Tryz.ntmps25
      go_wp2_with fail
      refine (Tryz.strconv_ParseInt_10_at64_ok s (by omega) v HP.out _).mono ?_
      rintro e w1 ⟨rfl, hw1⟩
      have hb1 : Below w.heap.size w w1 := by
        rcases hw1 with rfl | ⟨t, rfl⟩
        · exact Below.refl _ _
        · exact Go.Joins.below_bytesWorld _ _ _ _ (Nat.le_refl _)
      clear hw1
      go_wp2_with fail
      refine (Tryz.strings_TrimPrefix s _ _).mono ?_
      rintro e w' ⟨rfl, rfl⟩
      rw [htr]
      go_wp2
      go_ret2
      exact ⟨rfl, hb1⟩
    · have hd21 := itoa_len20 hv0 hv1
      rw [← decS_size] at hd21
      by_cases hd : decS v = s
      · have hl : Lib.itoa v = s.data.toList := by
          have := congrArg (fun x : ByteArray => x.data.toList) hd
          simpa [decS] using this
        obtain ⟨hn1, hn2⟩ : numOk s = true ∧ numV s = v := num_some (num_of_parse (by omega) hl)
        have e1 : ((decS v).toList == s.toList) = true := by rw [beq_iff_eq, hd]
        rw [hn1, hn2]
        clear hn1 hn2 hbl hbs hl hd
        go_enter Tryz.func25, Tryz.ntmps25
        go_wp2_with fail
        refine (Tryz.strconv_ParseInt_10_at64_ok s (by omega) v HP.out _).mono ?_
        rintro e w1 ⟨rfl, hw1⟩
        have hb1 : Below w.heap.size w w1 := by
          rcases hw1 with rfl | ⟨t, rfl⟩
          · exact Below.refl _ _
          · exact Go.Joins.below_bytesWorld _ _ _ _ (Nat.le_refl _)
        clear hw1
        go_wp2_with fail
        refine (Tryz.strings_TrimPrefix s _ _).mono ?_
        rintro e w' ⟨rfl, rfl⟩
        rw [htr]
        go_wp2_with fail
        refine (Decimal_any v _ hv0 hv1 (ht.tab.below hb1)).mono ?_
        rintro e w2 ⟨rfl, hb2⟩
        go_wp2
        go_ret2
        exact ⟨rfl, hb1.trans (hb2.mono hb1.size)⟩
      · obtain ⟨hn1, hn2⟩ : numOk s = false ∧ numV s = 0 := num_none (by
          cases hn : numL s.data.toList with
          | none => rfl
          | some u =>
            have h1 := parse_of_num hn
            rw [HP.out] at h1
            injection h1 with h1
            subst h1
            exact absurd (show decS v = s from by unfold decS; rw [(numL_back hn).1]) hd)
        have e1 : ((decS v).toList == s.toList) = false := bytes_beq_false hd
        rw [hn1, hn2]
        clear hn1 hn2 hbl hbs hd
        go_enter Tryz.func25, Tryz.ntmps25
        go_wp2_with fail
        refine (Tryz.strconv_ParseInt_10_at64_ok s (by omega) v HP.out _).mono ?_
        rintro e w1 ⟨rfl, hw1⟩
        have hb1 : Below w.heap.size w w1 := by
          rcases hw1 with rfl | ⟨t, rfl⟩
          · exact Below.refl _ _
          · exact Go.Joins.below_bytesWorld _ _ _ _ (Nat.le_refl _)
        clear hw1
        go_wp2_with fail
        refine (Tryz.strings_TrimPrefix s _ _).mono ?_
        rintro e w' ⟨rfl, rfl⟩
        rw [htr]
        go_wp2_with fail
        refine (Decimal_any v _ hv0 hv1 (ht.tab.below hb1)).mono ?_
        rintro e w2 ⟨rfl, hb2⟩
        go_wp2
        go_ret2
        exact ⟨rfl, hb1.trans (hb2.mono hb1.size)⟩
  · obtain ⟨hn1, hn2⟩ := hno (fun v h => by rw [hp] at h; cases h)
    obtain ⟨tp, p, hv⟩ := ht.syn
    rw [hn1, hn2]
    go_enter Tryz.func25, Tryz.ntmps25
    go_wp2_with fail
    refine (Tryz.strconv_ParseInt_10_at64_syntax_var s (by omega) hp tp p _ hv).mono ?_
    rintro e w1 ⟨N, rfl, _, _, hb⟩
    go_wp2
    go_ret2
    exact ⟨rfl, hb⟩
  · obtain ⟨hn1, hn2⟩ := hno (fun v h => by rw [hp] at h; cases h)
    obtain ⟨tp, p, hv⟩ := ht.ran
    rw [hn1, hn2]
    go_enter Tryz.func25, Tryz.ntmps25
    go_wp2_with fail
    refine (Tryz.strconv_ParseInt_10_at64_range_var s (by omega) hp tp p _ hv).mono ?_
    rintro e w1 ⟨N, rfl, _, _, hb⟩
    go_wp2
    go_ret2
    exact ⟨rfl, hb⟩
end Go.Proofs.YtaaholabodchaaaGreatDoor
