/- Parts of the proof: Tb, Rd, Sp, Bu, TGate, PGate, Gt, TInt64, Lt, Dc, Lv, Io, Cq. -/
import Derived.Test.YthabmofkjdiccaaGreatDoorG01
import Derived.Test.YthabmofkjdiccaaGreatDoorG03
import Derived.LaidSub
import Derived.MakeChecks
import Derived.Lib.LaidTab
import Derived.Lib.AppendIntMem
import Derived.Lib.SmallJoins
import Derived.Test.YthabmofkjdiccaaGreatDoorG02
import Derived.Stop.LaidErr
import Derived.RowKitTokens
import Derived.Lib.SplitLaws
import Derived.Lib.Builder
import Derived.Lib.AppendStr
import Derived.Lib.UnsafeStr
import Derived.Lib.MakeNoZero
import Derived.Laws.Externs
namespace Go.Proofs.YthabmofkjdiccaaGreatDoor
open Go.RowKit
set_option linter.unusedVariables false

def Tab10 (w : World) : Prop := Lib.TabIs Tryz.prog w "internal/strconv.uint64pow10" .u64 Lib.pow10Tab
theorem Tab10.below {w w' : World} (h : Tab10 w) (hb : Below w.heap.size w w') : Tab10 w' :=
  Go.Joins.var_stays (g := 1) (by kernel_rfl) h hb (Nat.le_refl _)
theorem tab10_of {laid : List (String × DataW Unit)} {W : World} (h : laidMetH Tryz.prog laid W) (hl : laid.filter (fun x => x.1 == "internal/strconv.uint64pow10") = [("internal/strconv.uint64pow10", Lib.tabData .u64 Lib.pow10Tab)]) : Tab10 W := by
  have h1 := h.filter (fun x => x.1 == "internal/strconv.uint64pow10")
  rw [hl] at h1
  have h1 := Eq.mp (MakeChecks.laidMetH_plain _ _ _ rfl) h1
  exact Lib.tabIs_of_head (g := 1) (t := 202) (n := 20) (e := 108) (by kernel_rfl) (by kernel_rfl) Tryz.underlying202 Tryz.underlying108 (by kernel_rfl) (by kernel_rfl) h1
theorem decS_size (n : Int) : (decS n).size = (Lib.itoa n).length := by unfold decS; show (Lib.itoa n).toArray.size = _; simp
theorem itoa_len20 {n : Int} (h0 : -9223372036854775808 ≤ n) (h1 : n ≤ 9223372036854775807) : (Lib.itoa n).length ≤ 21 := by
  by_cases h : n = 0
  · subst h; rw [← decS_size, decS_zero]; decide
  · rw [itoa_ne h, List.length_append]
    have := dig_len 20 n.natAbs (by omega)
    split <;> simp <;> omega
theorem itoa_len5 (n : Nat) (h : n < 65536) : (Lib.itoa (n : Int)).length ≤ 5 := by
  by_cases h0 : n = 0
  · subst h0; rw [← decS_size, show ((0 : Nat) : Int) = 0 from rfl, decS_zero]; decide
  · rw [itoa_ne (by omega), if_neg (by omega)]
    have := dig_len 5 n (by omega)
    simpa using this
theorem Decimal_any (n : Int) (w : World) (h0 : -9223372036854775808 ≤ n) (h1 : n ≤ 9223372036854775807) (ht : Tab10 w) :
    Calls Tryz.prog 93 #[.int .i64 n] w fun e w' => e = .returned (.string (decS n)) ∧ Below w.heap.size w w' := by
  go_enter Tryz.func93, Tryz.ntmps93
  go_wp2_with fail
  refine (Tryz.strconv_FormatInt_10 n h0 h1 _ ht).mono ?_
  rintro e w1 ⟨rfl, k, os, rfl⟩
  have hb := Lib.below_grow w.heap.size w (Nat.le_refl _) k os
  generalize Go.Sort.grow (w.drewN k) os = w1 at *
  go_wp2
  go_ret
  exact ⟨rfl, hb⟩

end Go.Proofs.YthabmofkjdiccaaGreatDoor

namespace Go.Proofs.YthabmofkjdiccaaGreatDoor
open Go.RowKit
set_option linter.unusedVariables false

def numOk (s : ByteArray) : Bool := (numL s.data.toList).isSome
def numV (s : ByteArray) : Int := (numL s.data.toList).getD 0
theorem num_none {s : ByteArray} (h : numL s.data.toList = none) : numOk s = false ∧ numV s = 0 := by unfold numOk numV; rw [h]; exact ⟨rfl, rfl⟩
theorem num_some {s : ByteArray} {v : Int} (h : numL s.data.toList = some v) : numOk s = true ∧ numV s = v := by unfold numOk numV; rw [h]; exact ⟨rfl, rfl⟩
structure RdTabs (w : World) : Prop where
  tab : Tab10 w
  syn : ∃ tp p, w.var? Tryz.prog "strconv.ErrSyntax" = some #[.iface tp p]
  ran : ∃ tp p, w.var? Tryz.prog "strconv.ErrRange" = some #[.iface tp p]
theorem RdTabs.below {w w' : World} (h : RdTabs w) (hb : Below w.heap.size w w') : RdTabs w' := by
  obtain ⟨h1, ⟨t1, p1, h2⟩, ⟨t2, p2, h3⟩⟩ := h
  exact ⟨h1.below hb, ⟨t1, p1, Go.Joins.var_stays (g := 4) (by kernel_rfl) h2 hb (Nat.le_refl _)⟩, ⟨t2, p2, Go.Joins.var_stays (g := 5) (by kernel_rfl) h3 hb (Nat.le_refl _)⟩⟩
theorem starErr : ("*" ++ "errors.errorString") = "*errors.errorString" := by decide
theorem errRow (u : TypeId) (h : Tryz.prog.typeName? 3 u = some "*errors.errorString") : u = 223 :=
  typeName_ptr_named (nm := "errors.errorString") (by rw [starErr]; kernel_rfl) (by kernel_rfl) (by decide) u (by rw [starErr]; exact h)
set_option maxRecDepth 100000 in
theorem rdTabs_of {laid : List (String × DataW Unit)} {W : World} (h : laidMetH Tryz.prog laid W) (h0 : laid.filter (fun x => x.1 == "internal/strconv.uint64pow10") = [("internal/strconv.uint64pow10", Lib.tabData .u64 Lib.pow10Tab)])
    (h1 : laid.filter (fun x => x.1 == "strconv.ErrSyntax") = [("strconv.ErrSyntax", .iface "*errors.errorString" (.ptr (.agg [.lit (.string [105, 110, 118, 97, 108, 105, 100, 32, 115, 121, 110, 116, 97, 120])])))])
    (h2 : laid.filter (fun x => x.1 == "strconv.ErrRange") = [("strconv.ErrRange", .iface "*errors.errorString" (.ptr (.agg [.lit (.string [118, 97, 108, 117, 101, 32, 111, 117, 116, 32, 111, 102, 32, 114, 97, 110, 103, 101])])))]) : RdTabs W := by
  have g1 := h.filter (fun x => x.1 == "strconv.ErrSyntax")
  rw [h1] at g1
  have g1 := Eq.mp (MakeChecks.laidMetH_plain _ _ _ rfl) g1
  have g2 := h.filter (fun x => x.1 == "strconv.ErrRange")
  rw [h2] at g2
  have g2 := Eq.mp (MakeChecks.laidMetH_plain _ _ _ rfl) g2
  obtain ⟨a1, s1, q1, _⟩ := laid_sentinel (ti := 152) g1 (g := 4) (by kernel_rfl) (by kernel_rfl) Tryz.underlying152 errRow Tryz.underlying223 Tryz.underlying225 rfl rfl Tryz.underlying9 (by kernel_rfl) (by kernel_rfl)
  obtain ⟨a2, s2, q2, _⟩ := laid_sentinel (ti := 152) g2 (g := 5) (by kernel_rfl) (by kernel_rfl) Tryz.underlying152 errRow Tryz.underlying223 Tryz.underlying225 rfl rfl Tryz.underlying9 (by kernel_rfl) (by kernel_rfl)
  exact ⟨tab10_of h h0, ⟨_, _, q1⟩, ⟨_, _, q2⟩⟩
theorem trim_minus (l : List UInt8) : Lib.trimPrefix l [45] = bodyL l := by
  unfold Lib.trimPrefix Lib.hasPrefix bodyL
  cases l with
  | nil => rfl
  | cons c r =>
    by_cases h : c = 45
    · subst h; simp
    · have h' : ¬ 45 = c := fun e => h e.symm
      simp [h, h']
--NUMBER
theorem num_len {l : List UInt8} (h : (bodyL l).length = 0 ∨ 18 < (bodyL l).length) : numL l = none := by
  unfold numL; rw [if_pos]
  rcases h with h | h
  · rw [List.eq_nil_of_length_eq_zero h]; rfl
  · simp [h]
theorem num_zero {l : List UInt8} (h : (bodyL l).head? = some 48) (h1 : 1 < l.length) : numL l = none := by
  unfold numL; rw [if_pos]; simp [h, h1]
theorem num_bad {l : List UInt8} {k : Nat} (hk : k < (bodyL l).length) (h : digB (bodyL l)[k] = false) : numL l = none := by
  unfold numL; rw [if_pos]
  have : (bodyL l).all digB = false := by
    rw [List.all_eq_false]; exact ⟨_, List.getElem_mem hk, by rw [h]; decide⟩
  simp [this]
theorem num_is {l : List UInt8} (h0 : 0 < (bodyL l).length) (h18 : (bodyL l).length ≤ 18) (hz : ¬ ((bodyL l).head? = some 48 ∧ 1 < l.length)) (ha : (bodyL l).all digB = true) : numL l = some (if l.head? = some 45 then -(valL 0 (bodyL l) : Int) else (valL 0 (bodyL l) : Int)) := by
  unfold numL; rw [if_neg]
  intro h
  simp only [Bool.or_eq_true, Bool.and_eq_true, decide_eq_true_eq, Bool.not_eq_true', List.isEmpty_iff] at h
  rcases h with ((h | h) | h) | h
  · rw [h] at h0; simp at h0
  · omega
  · exact hz h
  · rw [ha] at h; cases h
theorem digitB_dig (c : UInt8) : digitB (c.toNat : Int) = digB c := by
  unfold digitB digB inB
  rw [Bool.eq_iff_iff]
  simp
  omega
theorem byte_ne48 {a : UInt8} (h : a ≠ 48) : ¬ (a.toNat : Int) = 48 := by
  intro e; have h48 : (48 : UInt8).toNat = 48 := rfl
  exact h (UInt8.toNat_inj.1 (by omega))
theorem at_listN {s : ByteArray} {k : Nat} (h : k < s.size) : s.data.toList[k]? = some s[k] := by
  rw [List.getElem?_eq_getElem (by simpa using h)]; rfl
--NUMBEREND
set_option maxRecDepth 100000 in
set_option maxHeartbeats 4000000 in
theorem ReadDecimal_any (s : ByteArray) (w : World) (hs : s.size ≤ 1048576) (ht : RdTabs w) :
    Calls Tryz.prog 114 #[.string s] w fun e w' => e = .returned (.tuple #[.int .i64 (numV s), .bool (numOk s)]) ∧ Below w.heap.size w w' := by
  have hno : (∀ v, Lib.parseIntB 64 s.data.toList ≠ .ok v) → numOk s = false ∧ numV s = 0 := fun h => num_none (by
    cases hn : numL s.data.toList with
    | none => rfl
    | some v => exact absurd (parse_of_num hn) (h v))
  rcases hp : Lib.parseIntB 64 s.data.toList with v | _ | _
  · have hbd := Lib.parseIntB_bounds hp
    have hv0 : -9223372036854775808 ≤ v := by have := hbd.1; simpa using this
    have e63 : ((2 ^ (64 - 1) : Nat) : Int) = 9223372036854775808 := by decide
    have hv1 : v ≤ 9223372036854775807 := by have := hbd.2; omega
    clear e63
    clear hbd
    obtain ⟨b, hbl⟩ : ∃ b : ByteArray, b = ⟨(bodyL s.data.toList).toArray⟩ := ⟨_, rfl⟩
    have hbs : b.size = (bodyL s.data.toList).length := by rw [hbl, show (ByteArray.mk (bodyL s.data.toList).toArray).size = (bodyL s.data.toList).toArray.size from rfl]; simp
    have hble : b.size ≤ 1048576 := by
      rw [hbs]
      have : (bodyL s.data.toList).length ≤ s.data.toList.length := by unfold bodyL; split <;> simp
      have h2 : s.data.toList.length = s.size := by simp
      omega
    have htr : (⟨(Lib.trimPrefix s.data.toList (ByteArray.mk #[45]).data.toList).toArray⟩ : ByteArray) = b := by
      rw [hbl, show (ByteArray.mk #[45]).data.toList = [45] from rfl, trim_minus]
    have HP := Lib.hid hp
    clear hp
    by_cases h18 : (18 : Int) < (b.size : Int)
    · obtain ⟨hn1, hn2⟩ : numOk s = false ∧ numV s = 0 := num_none (by
        cases hn : numL s.data.toList with
        | none => rfl
        | some u => have := (numL_back hn).2.2; omega)
      rw [hn1, hn2]
      clear hn1 hn2 hbl hbs
      go_enter Tryz.func114, Tryz.ntmps114
      go_wp2_with fail
      refine (Tryz.strconv_ParseInt_10_at64_ok s (by omega) v HP.out _).mono ?_
      rintro e w1 ⟨rfl, hw1⟩
      have hb1 : Below w.heap.size w w1 := by
        rcases hw1 with rfl | ⟨t, rfl⟩
        · exact Below.refl _ _
        · exact Go.Joins.below_bytesWorld _ _ _ _ (Nat.le_refl _)
      clear hw1
      go_wp2_with fail
      refine (Tryz.strings_TrimPrefix s _ _).mono ?_
      rintro e w' ⟨rfl, rfl⟩
      rw [htr]
      go_wp2
      go_ret2
      exact ⟨rfl, hb1⟩
    · have hd21 := itoa_len20 hv0 hv1
      rw [← decS_size] at hd21
      by_cases hd : decS v = s
      · have hl : Lib.itoa v = s.data.toList := by
          have := congrArg (fun x : ByteArray => x.data.toList) hd
          simpa [decS] using this
        obtain ⟨hn1, hn2⟩ : numOk s = true ∧ numV s = v := num_some (num_of_parse (by omega) hl)
        have e1 : ((decS v).toList == s.toList) = true := by rw [beq_iff_eq, hd]
        rw [hn1, hn2]
        clear hn1 hn2 hbl hbs hl hd
        go_enter Tryz.func114, Tryz.ntmps114
        go_wp2_with fail
        refine (Tryz.strconv_ParseInt_10_at64_ok s (by omega) v HP.out _).mono ?_
        rintro e w1 ⟨rfl, hw1⟩
        have hb1 : Below w.heap.size w w1 := by
          rcases hw1 with rfl | ⟨t, rfl⟩
          · exact Below.refl _ _
          · exact Go.Joins.below_bytesWorld _ _ _ _ (Nat.le_refl _)
        clear hw1
        go_wp2_with fail
        refine (Tryz.strings_TrimPrefix s _ _).mono ?_
        rintro e w' ⟨rfl, rfl⟩
        rw [htr]
        go_wp2_with fail
        refine (Decimal_any v _ hv0 hv1 (ht.tab.below hb1)).mono ?_
        rintro e w2 ⟨rfl, hb2⟩
        go_wp2
        go_ret2
        exact ⟨rfl, hb1.trans (hb2.mono hb1.size)⟩
      · obtain ⟨hn1, hn2⟩ : numOk s = false ∧ numV s = 0 := num_none (by
          cases hn : numL s.data.toList with
          | none => rfl
          | some u =>
            have h1 := parse_of_num hn
            rw [HP.out] at h1
            injection h1 with h1
            subst h1
            exact absurd (show decS v = s from by unfold decS; rw [(numL_back hn).1]) hd)
        have e1 : ((decS v).toList == s.toList) = false := bytes_beq_false hd
        rw [hn1, hn2]
        clear hn1 hn2 hbl hbs hd
        go_enter Tryz.func114, Tryz.ntmps114
        go_wp2_with fail
        refine (Tryz.strconv_ParseInt_10_at64_ok s (by omega) v HP.out _).mono ?_
        rintro e w1 ⟨rfl, hw1⟩
        have hb1 : Below w.heap.size w w1 := by
          rcases hw1 with rfl | ⟨t, rfl⟩
          · exact Below.refl _ _
          · exact Go.Joins.below_bytesWorld _ _ _ _ (Nat.le_refl _)
        clear hw1
        go_wp2_with fail
        refine (Tryz.strings_TrimPrefix s _ _).mono ?_
        rintro e w' ⟨rfl, rfl⟩
        rw [htr]
        go_wp2_with fail
        refine (Decimal_any v _ hv0 hv1 (ht.tab.below hb1)).mono ?_
        rintro e w2 ⟨rfl, hb2⟩
        go_wp2
        go_ret2
        exact ⟨rfl, hb1.trans (hb2.mono hb1.size)⟩
  · obtain ⟨hn1, hn2⟩ := hno (fun v h => by rw [hp] at h; cases h)
    obtain ⟨tp, p, hv⟩ := ht.syn
    rw [hn1, hn2]
    go_enter Tryz.func114, Tryz.ntmps114
    go_wp2_with fail
    refine (Tryz.strconv_ParseInt_10_at64_syntax_var s (by omega) hp tp p _ hv).mono ?_
    rintro e w1 ⟨N, rfl, _, _, hb⟩
    go_wp2
    go_ret2
    exact ⟨rfl, hb⟩
  · obtain ⟨hn1, hn2⟩ := hno (fun v h => by rw [hp] at h; cases h)
    obtain ⟨tp, p, hv⟩ := ht.ran
    rw [hn1, hn2]
    go_enter Tryz.func114, Tryz.ntmps114
    go_wp2_with fail
    refine (Tryz.strconv_ParseInt_10_at64_range_var s (by omega) hp tp p _ hv).mono ?_
    rintro e w1 ⟨N, rfl, _, _, hb⟩
    go_wp2
    go_ret2
    exact ⟨rfl, hb⟩
end Go.Proofs.YthabmofkjdiccaaGreatDoor

namespace Go.Proofs.YthabmofkjdiccaaGreatDoor
open Go.RowKit
set_option linter.unusedVariables false

def splL (c : UInt8) : List UInt8 → List (List UInt8)
  | [] => [[]]
  | b :: l => if b = c then [] :: splL c l else match splL c l with | [] => [[b]] | q :: r => (b :: q) :: r
theorem splL_ne (c : UInt8) : ∀ l, splL c l ≠ []
  | [] => by simp [splL]
  | b :: l => by
    unfold splL
    split
    · simp
    · split <;> simp
theorem splL_snoc (c : UInt8) (b : UInt8) : ∀ (l : List UInt8) (P : List (List UInt8)) (q : List UInt8), splL c l = P ++ [q] → splL c (l ++ [b]) = if b = c then P ++ [q] ++ [[]] else P ++ [q ++ [b]]
  | [], P, q, h => by
    have h' : [[]] = P ++ [q] := h
    cases P with
    | nil =>
      injection h' with h1 _
      subst h1
      show splL c [b] = _
      by_cases e : b = c <;> simp [splL, e]
    | cons p P => cases P <;> simp at h'
  | x :: l, P, q, h => by
    rw [List.cons_append]
    obtain ⟨P1, q1, h1⟩ : ∃ P1 q1, splL c l = P1 ++ [q1] := ⟨_, _, (List.dropLast_concat_getLast (splL_ne c l)).symm⟩
    have ih := splL_snoc c b l P1 q1 h1
    unfold splL at h ⊢
    by_cases e : x = c
    · rw [if_pos e] at h ⊢
      rw [h1, ← List.cons_append] at h
      obtain ⟨h2, h3⟩ := List.append_inj' h rfl
      subst h2
      injection h3 with h3 _
      subst h3
      rw [ih]
      by_cases eb : b = c
      · simp [eb]
      · simp [eb]
    · rw [if_neg e] at h ⊢
      rw [ih]
      rw [h1] at h
      cases P1 with
      | nil =>
        have h4 : [x :: q1] = P ++ [q] := h
        cases P with
        | nil =>
          injection h4 with h4 _
          subst h4
          by_cases eb : b = c <;> simp [eb]
        | cons p P => cases P <;> simp at h4
      | cons p1 P1 =>
        have h4 : ((x :: p1) :: P1) ++ [q1] = P ++ [q] := h
        obtain ⟨h2, h3⟩ := List.append_inj' h4 rfl
        subst h2
        injection h3 with h3 _
        subst h3
        by_cases eb : b = c <;> simp [eb]
theorem splL_none {c : UInt8} : ∀ {l : List UInt8}, (∀ b ∈ l, b ≠ c) → splL c l = [l]
  | [], _ => rfl
  | b :: l, h => by
    unfold splL
    rw [if_neg (h b (by simp)), splL_none (fun x hx => h x (by simp [hx]))]
/-- The pieces, each with the byte behind it but the last one, are the text. -/
theorem splL_join (c : UInt8) : ∀ (l : List UInt8) (P : List (List UInt8)) (q : List UInt8), splL c l = P ++ [q] → (P.flatMap fun p => p ++ [c]) ++ q = l
  | [], P, q, h => by
    have h' : [[]] = P ++ [q] := h
    cases P with
    | nil => injection h' with h1 _; subst h1; rfl
    | cons p P => cases P <;> simp at h'
  | x :: l, P, q, h => by
    obtain ⟨P1, q1, h1⟩ : ∃ P1 q1, splL c l = P1 ++ [q1] := ⟨_, _, (List.dropLast_concat_getLast (splL_ne c l)).symm⟩
    have ih := splL_join c l P1 q1 h1
    unfold splL at h
    by_cases e : x = c
    · rw [if_pos e, h1, ← List.cons_append] at h
      obtain ⟨h2, h3⟩ := List.append_inj' h rfl
      subst h2
      injection h3 with h3 _
      subst h3
      rw [List.flatMap_cons, List.append_assoc, ih, e]; rfl
    · rw [if_neg e, h1] at h
      cases P1 with
      | nil =>
        have h4 : [x :: q1] = P ++ [q] := h
        cases P with
        | nil =>
          injection h4 with h4 _
          subst h4
          rw [← ih]; rfl
        | cons p P => cases P <;> simp at h4
      | cons p1 P1 =>
        have h4 : ((x :: p1) :: P1) ++ [q1] = P ++ [q] := h
        obtain ⟨h2, h3⟩ := List.append_inj' h4 rfl
        subst h2
        injection h3 with h3 _
        subst h3
        rw [← ih]; simp
open Go.Lib in
theorem index_one (c : UInt8) (b : UInt8) (l : List UInt8) : index (b :: l) [c] = if b = c then 0 else if index l [c] == -1 then -1 else index l [c] + 1 := by
  rw [index]
  by_cases e : b = c
  · simp [List.isPrefixOf, e]
  · have e' : ¬ c = b := fun h => e h.symm
    simp [List.isPrefixOf, e, e']
open Go.Lib in
theorem splitK_one (c : UInt8) : ∀ l : List UInt8, splitK [c] 0 (count l [c]) l = splL c l
  | [] => by
    have h : index ([] : List UInt8) [c] = -1 := rfl
    rw [count_miss h]; rfl
  | b :: l => by
    have ih := splitK_one c l
    have hne : [c] ≠ ([] : List UInt8) := by simp
    have hi := index_one c b l
    unfold splL
    by_cases e : b = c
    · rw [if_pos e] at hi ⊢
      have hc := count_hit (i := 0) hne hi
      simp only [List.length_singleton, Nat.zero_add, List.drop_succ_cons, List.drop_zero] at hc
      rw [hc, Nat.add_comm 1, splitK, hi]
      simp [ih]
    · rw [if_neg e] at hi ⊢
      rcases index_spec l [c] with ⟨h1, _⟩ | ⟨i, h1, _⟩
      · rw [h1] at hi
        have hm : index (b :: l) [c] = -1 := hi
        rw [count_miss h1] at ih
        have ih' : [l] = splL c l := ih
        rw [count_miss hm, ← ih']; rfl
      · have hm : index (b :: l) [c] = ((i + 1 : Nat) : Int) := by
          rw [hi, h1, if_neg (by rw [beq_iff_eq]; omega)]; omega
        have c1 := count_hit hne h1
        have c2 := count_hit hne hm
        rw [c1, Nat.add_comm 1, splitK, h1, if_neg (by rw [beq_iff_eq]; omega)] at ih
        rw [c2, Nat.add_comm 1, splitK, hm, if_neg (by rw [beq_iff_eq]; omega), ← ih]
        simp
def splS (c : UInt8) (s : ByteArray) : List ByteArray := (splL c s.data.toList).map (fun l => ⟨l.toArray⟩)
theorem splS_data (c : UInt8) (s : ByteArray) : (splS c s).map (fun x : ByteArray => x.data.toList) = splL c s.data.toList := by
  unfold splS; rw [List.map_map]; simp [Function.comp_def]
theorem splS_of {c : UInt8} {s : ByteArray} {L : List ByteArray} (h : L.map (fun x : ByteArray => x.data.toList) = splL c s.data.toList) : L = splS c s := by
  unfold splS; rw [← h, List.map_map]
  have : ((fun l : List UInt8 => (⟨l.toArray⟩ : ByteArray)) ∘ fun x : ByteArray => x.data.toList) = id := by funext x; cases x; simp
  rw [this, List.map_id]
theorem splS_split (c : UInt8) (s : ByteArray) : Lib.splitB ⟨#[c]⟩ 0 (Lib.countB s ⟨#[c]⟩) s = splS c s := by
  refine splS_of ?_
  have h := Lib.splitB_data ⟨#[c]⟩ 0 (Lib.countB s ⟨#[c]⟩) s
  exact h.trans (splitK_one c s.data.toList)
/-- All but the last piece, and the last one. -/
theorem splS_cut (c : UInt8) (s : ByteArray) : ∃ (P : List ByteArray) (q : ByteArray), splS c s = P ++ [q] ∧ (P.flatMap fun p : ByteArray => p.data.toList ++ [c]) ++ q.data.toList = s.data.toList := by
  have hne : splS c s ≠ [] := by unfold splS; rw [Ne, List.map_eq_nil_iff]; exact splL_ne c _
  refine ⟨(splS c s).dropLast, (splS c s).getLast hne, (List.dropLast_concat_getLast hne).symm, ?_⟩
  have h := splS_data c s
  rw [← List.dropLast_concat_getLast hne, List.map_append] at h
  have h2 := splL_join c s.data.toList _ _ h.symm
  rw [List.flatMap_map] at h2
  exact h2
theorem infoStr4 : (Tryz.prog.info? 9).map (fun i => (i.zero, i.size, i.bytes)) = some (some (.string ⟨#[]⟩), 1, 16) := by kernel_rfl
def OwnRT {α : Type} (E : Flat α) (T : TypeId) (w : World) (xs : List α) (e : Ending) (w' : World) : Prop := ∃ v, e = .returned v ∧ Own E w' w.heap.size T v xs ∧ Below w.heap.size w w'
theorem extract_toList (s : ByteArray) (f k : Nat) : (s.extract f k).data.toList = (s.data.toList.take k).drop f := by
  rw [Lib.extract_data, List.drop_take]

end Go.Proofs.YthabmofkjdiccaaGreatDoor

namespace Go.Proofs.YthabmofkjdiccaaGreatDoor
open Go.RowKit

theorem infoBuilder : (Tryz.prog.info? 149).map (·.size) = some 2 := by kernel_rfl
theorem liesBuilder : liesAt Tryz.prog Tryz.prog.depth 149 (2 / Tryz.prog.cellsOf 149) 0 149 1 = true := by kernel_rfl
theorem infoU8 : (Tryz.prog.info? 5).map (fun i => (i.zero, i.size, i.bytes)) = some (some (.int .u8 0), 1, 1) := by kernel_rfl

set_option maxRecDepth 100000 in
set_option maxRecDepth 100000 in
set_option maxHeartbeats 1000000 in
theorem copyCheck_used (b : Nat) (w : World) (h0 : w.cell? ⟨b, 0, none⟩ = some (.pointer (some ⟨b, 0, none⟩))) :
    Calls Tryz.prog 146 #[.pointer (some ⟨b, 0, none⟩)] w fun e w' => e = .returned (.tuple #[]) ∧ w' = w := by
  obtain ⟨j, hj, _⟩ := Option.map_eq_some_iff.1 infoBuilder
  go_enter Tryz.func146, Tryz.ntmps146
  go_wp2
  rw [Lib.run_neq_ptr_same w _ Tryz.underlying147 hj]
  go_wp2
  go_end0
  exact ⟨rfl, rfl⟩

set_option maxRecDepth 100000 in
set_option maxRecDepth 100000 in
set_option maxHeartbeats 1000000 in
theorem copyCheck_fresh (b : Nat) (w : World) (h0 : w.cell? ⟨b, 0, none⟩ = some (.pointer none)) (hsh : w.shape? b = some (149, 2)) (hfz : w.frozen? ⟨b, 0, none⟩ = false) :
    Calls Tryz.prog 146 #[.pointer (some ⟨b, 0, none⟩)] w fun e w' => e = .returned (.tuple #[]) ∧ w' = w.setCell ⟨b, 0, none⟩ (.pointer (some ⟨b, 0, none⟩)) := by
  obtain ⟨j, hj, hjs⟩ := Option.map_eq_some_iff.1 infoBuilder
  go_enter Tryz.func146, Tryz.ntmps146
  go_wp2
  rw [Lib.run_to_unsafe w ⟨b, 0, none⟩ Tryz.underlying147 Tryz.underlying190 hj (by rw [hjs]; decide) hsh (Nat.zero_lt_succ 1)]
  simp only [Result.andThen]
  rw [Oper.upon_value]
  go_wp2
  rw [run_callFunc_extern Tryz.func173 (by kernel_rfl) (by kernel_rfl) (by kernel_rfl) (e := Extern.AbiNoEscape.same) (by kernel_rfl)]
  rw [Lib.run_noEscape]
  simp only [Result.andThen]
  rw [Oper.upon_value]
  go_wp2
  rw [Lib.run_from_unsafe w ⟨b, 0, none⟩ Tryz.underlying190 Tryz.underlying147 hj hsh liesBuilder]
  simp only [Result.andThen]
  rw [Oper.upon_value]
  go_wp2
  go_end0
  exact ⟨rfl, rfl⟩

theorem copyCheck_any (B b : Nat) (bs : List Value) (w : World) (h : Lib.IsBuilder 149 5 B b bs w) :
    Calls Tryz.prog 146 #[.pointer (some ⟨b, 0, none⟩)] w fun e w' => e = .returned (.tuple #[]) ∧ (Lib.BuilderAt 149 5 B b (.pointer (some ⟨b, 0, none⟩)) bs w' ∧ Below B w w') := by
  rcases h with h | h
  · refine (copyCheck_fresh b w h.cell0 h.shape h.frozen0).mono ?_
    rintro e w' ⟨rfl, rfl⟩
    exact ⟨rfl, h.used _, (Below.refl B w).setCell (p := ⟨b, 0, none⟩) h.1 _⟩
  · refine (copyCheck_used b w h.cell0).mono ?_
    rintro e w' ⟨rfl, rfl⟩
    exact ⟨rfl, h, Below.refl B _⟩

set_option maxRecDepth 100000 in
set_option maxRecDepth 100000 in
set_option maxHeartbeats 2000000 in
theorem writeString_any (B b : Nat) (bs : List Value) (s : ByteArray) (w : World) (h : Lib.IsBuilder 149 5 B b bs w) (hlen : bs.length + s.size ≤ 140737488355328) (hBw : B ≤ w.heap.size) :
    Calls Tryz.prog 129 #[.pointer (some ⟨b, 0, none⟩), .string s] w fun e w' => e = .returned (.tuple #[.int .i64 s.size, .nilIface]) ∧ (Lib.IsBuilder 149 5 B b (bs ++ Lib.strCells s) w' ∧ Below B w w') := by
  obtain ⟨i0, hi, hz0, hz1, hz2⟩ := info_parts infoU8
  go_enter Tryz.func129, Tryz.ntmps129
  go_wp2_with (go_at_call 146; refine (copyCheck_any B b bs _ h).mono ?_)
  rintro e w1 ⟨rfl, h1, hb1⟩
  obtain ⟨hB, v, hbk, hown, hne⟩ := h1
  have c0 : w1.cell? ⟨b, 0, none⟩ = some (.pointer (some ⟨b, 0, none⟩)) := by rw [Lib.cell_of_heap hbk]; rfl
  have c1 : w1.cell? ⟨b, 1, none⟩ = some v := by rw [Lib.cell_of_heap hbk]; rfl
  go_wp2_with (at_builtin; refine Lib.wpList_append_own_string _ rfl _ _ 22 9 rfl B 5 i0 Tryz.underlying22 Tryz.underlying9 hi hz0 hz1 hz2 _ _ _ rfl hown s rfl ?c3 ?c4 ?c5 ?_)
  case c3 => unfold maxLen; omega
  case c4 => omega
  case c5 => have := hb1.size; omega
  intro v' w2 hown' hgrow _
  have hlt : b < w1.heap.size := by
    rcases Nat.lt_or_ge b w1.heap.size with h' | h'
    · exact h'
    · simp [Array.getElem?_eq_none h'] at hbk
  have hb2 : w2.heap[b]? = some (.cells #[.pointer (some ⟨b, 0, none⟩), v] 149 (0, 0)) := by
    rw [hgrow.block b hlt (fun e => hne e.symm)]
    exact hbk
  have d0 : w2.cell? ⟨b, 0, none⟩ = some (.pointer (some ⟨b, 0, none⟩)) := by rw [Lib.cell_of_heap hb2]; rfl
  have d1 : w2.cell? ⟨b, 1, none⟩ = some v := by rw [Lib.cell_of_heap hb2]; rfl
  have f1 : w2.frozen? ⟨b, 1, none⟩ = false := Lib.frozen_of_heap hb2 1
  obtain ⟨ao, n', cap, rfl⟩ : ∃ ao n' cap, v' = .slice ao n' cap := by
    rcases hown'.2 with ⟨hv, _⟩ | ⟨g, cap, cur, hv, _⟩
    · exact ⟨_, _, _, hv⟩
    · exact ⟨_, _, _, hv⟩
  go_wp2
  go_ret2
  refine ⟨rfl, .inr ?_, ?_⟩
  · exact Lib.BuilderAt.put (T := 149) (e := 5) hB hb2 (bs' := bs ++ Lib.strCells s) (by simpa [Lib.strCells_length] using hown') (by decide)
  · exact (hb1.grown hgrow (by have := hb1.size; omega) (fun k hk => (hown.lt k hk).1)).setCell (p := ⟨b, 1, none⟩) hB _

/-- 'var b strings.Builder' behind the alloc. -/
theorem builder_new (w : World) : Lib.IsBuilder 149 5 w.heap.size w.heap.size [] (w.alloc (.cells #[.pointer none, .slice none 0 0] 149)) :=
  .inl ⟨Nat.le_refl _, .slice none 0 0, heap_alloc_new w _, World.ownsRow_nil _ _ _ _, by simp [Value.ownBlock]⟩

theorem isB_below {B b : Nat} {bs : List Value} {w w' : World} (h : Lib.IsBuilder 149 5 B b bs w) (hb : Below w.heap.size w w') : Lib.IsBuilder 149 5 B b bs w' := by
  have key : ∀ p, Lib.BuilderAt 149 5 B b p bs w → Lib.BuilderAt 149 5 B b p bs w' := by
    rintro p ⟨hB, v, hbk, hown, hne⟩
    have hlt : b < w.heap.size := by
      rcases Nat.lt_or_ge b w.heap.size with h' | h'
      · exact h'
      · simp [Array.getElem?_eq_none h'] at hbk
    refine ⟨hB, v, by rw [hb.block _ hlt]; exact hbk, ?_, hne⟩
    obtain ⟨h1, h2⟩ := hown
    refine ⟨h1, ?_⟩
    rcases h2 with h2 | ⟨g, cap, cur, hv, hg, hh, r⟩
    · exact .inl h2
    · have hgl : g < w.heap.size := by
        rcases Nat.lt_or_ge g w.heap.size with hlt | hge
        · exact hlt
        · rw [Array.getElem?_eq_none hge] at hh; cases hh
      exact .inr ⟨g, cap, cur, hv, hg, by rw [hb.block _ hgl]; exact hh, r⟩
  rcases h with h | h
  · exact .inl (key _ h)
  · exact .inr (key _ h)
end Go.Proofs.YthabmofkjdiccaaGreatDoor

namespace Go.Proofs.YthabmofkjdiccaaGreatDoor
open Go.RowKit
set_option linter.unusedVariables false

structure DGate where
  id : ByteArray
  shut : Int
  open_ : Int
  hold : Int
  shuts : Bool
  calm : Int
  deriving DecidableEq

def fGate : Flat DGate where
  n := 6
  enc := fun x => [.string x.id, .int .i64 x.shut, .int .i64 x.open_, .int .i64 x.hold, .bool x.shuts, .int .i64 x.calm]
  ok := fun x => fStr.ok x.id ∧ fInt.ok x.shut ∧ fInt.ok x.open_ ∧ fInt.ok x.hold ∧ fBool.ok x.shuts ∧ fInt.ok x.calm
  pos := by omega
  len := fun _ => rfl
  one := by intro x v hv; simp at hv; rcases hv with rfl | rfl | rfl | rfl | rfl | rfl <;> rfl

def totGate (x : DGate) : Nat := x.id.size
def totGateS (xs : List DGate) : Nat := xs.length + (xs.map totGate).sum






def mkGate (k : Int) : DGate := ⟨mt (k), k + 1, k + 1 + 1, k + 1 + 1 + 1, ((k + 1 + 1 + 1 + 1) % 3 == 0), k + 1 + 1 + 1 + 1 + 1⟩
def marksGate (k : Int) (n : Nat) : List DGate := (List.range n).map fun (i : Nat) => mkGate (k + 6 * (i : Int))

theorem marksGate_get (k0 : Int) (n i : Nat) (h : i < (marksGate k0 n).length) : (marksGate k0 n)[i] = mkGate (k0 + 6 * (i : Int)) := by
  simp [marksGate]
theorem marksGate_len (k0 : Int) (n : Nat) : (marksGate k0 n).length = n := by simp [marksGate]



end Go.Proofs.YthabmofkjdiccaaGreatDoor

namespace Go.Proofs.YthabmofkjdiccaaGreatDoor
open Go.RowKit
set_option linter.unusedVariables false

/-- A pointer to a Gate that lies somewhere. -/
structure PGate (w : World) (pb po : Nat) (x : DGate) : Prop where
  c0 : w.cell? ⟨pb, po, none⟩ = some (.string x.id)
  c1 : w.cell? ⟨pb, po + 1, none⟩ = some (.int .i64 x.shut)
  c2 : w.cell? ⟨pb, po + 2, none⟩ = some (.int .i64 x.open_)
  c3 : w.cell? ⟨pb, po + 3, none⟩ = some (.int .i64 x.hold)
  c4 : w.cell? ⟨pb, po + 4, none⟩ = some (.bool x.shuts)
  c5 : w.cell? ⟨pb, po + 5, none⟩ = some (.int .i64 x.calm)
theorem PGate.below {w w' : World} {pb po : Nat} {x : DGate} {B : Nat} (h : PGate w pb po x) (hb : Below B w w') (hB : pb < B) : PGate w' pb po x :=
  ⟨(hb.cell (p := ⟨pb, _, none⟩) hB).trans h.c0, (hb.cell (p := ⟨pb, _, none⟩) hB).trans h.c1, (hb.cell (p := ⟨pb, _, none⟩) hB).trans h.c2, (hb.cell (p := ⟨pb, _, none⟩) hB).trans h.c3, (hb.cell (p := ⟨pb, _, none⟩) hB).trans h.c4, (hb.cell (p := ⟨pb, _, none⟩) hB).trans h.c5⟩
theorem PGate.drewN {w : World} {pb po : Nat} {x : DGate} (h : PGate w pb po x) (n : Nat) : PGate (w.drewN n) pb po x :=
  ⟨h.c0, h.c1, h.c2, h.c3, h.c4, h.c5⟩
theorem PGate.lt {w : World} {pb po : Nat} {x : DGate} (h : PGate w pb po x) : pb < w.heap.size := block_lt_of_cell h.c0
theorem PGate.below' {w w' : World} {pb po : Nat} {x : DGate} (h : PGate w pb po x) (hb : Below w.heap.size w w') : PGate w' pb po x := h.below hb h.lt
theorem PGate.box (w : World) (x : DGate) (T : TypeId) : PGate (w.alloc (.cells #[.string x.id, .int .i64 x.shut, .int .i64 x.open_, .int .i64 x.hold, .bool x.shuts, .int .i64 x.calm] T)) w.heap.size 0 x := by
  constructor <;> simp
theorem PGate.elem {w : World} {A : Option Addr} {len cap : Nat} {xs : List DGate} {fp : List Nat} (h : Sl fGate.cod w (.slice A len cap) xs fp) {k : Nat} (hk : k < xs.length) :
    ∃ b off, A = some ⟨b, off, none⟩ ∧ b ∈ fp ∧ fGate.ok xs[k] ∧ PGate w b (off + k * 6) xs[k] := by
  obtain ⟨b, off, hA, hm, hok, hc, _⟩ := h.at_ hk
  exact ⟨b, off, hA, hm, hok, ⟨hc 0 (by decide), hc 1 (by decide), hc 2 (by decide), hc 3 (by decide), hc 4 (by decide), hc 5 (by decide)⟩⟩
end Go.Proofs.YthabmofkjdiccaaGreatDoor

namespace Go.Proofs.YthabmofkjdiccaaGreatDoor
open Go.RowKit
set_option linter.unusedVariables false

def gateB (x : DGate) : Bool := nameB x.id && inB x.shut 1 1000 && inB x.open_ 0 x.shut && inB x.hold 1 48 && inB x.calm 0 (x.hold - 1) && (x.shuts || decide (x.calm = 0))
theorem getD_of_ltG {α : Type} {xs : List α} {k : Nat} {d : α} (h : k < xs.length) : xs.getD k d = xs[k] := by rw [List.getD_eq_getElem?_getD, List.getElem?_eq_getElem h]; rfl
def gt0 : DGate := ⟨⟨#[]⟩, 0, 0, 0, false, 0⟩
def gtOk (xs : List DGate) (i : Nat) : Bool := gateB (xs.getD i gt0) && (decide (i = 0) || ltS (xs.getD (i - 1) gt0).id (xs.getD i gt0).id)
def gatesB (xs : List DGate) : Bool := allIdx (gtOk xs) xs.length && decide (xs.length ≤ 8)
theorem gtOk_zero {xs : List DGate} (h : 0 < xs.length) : gtOk xs 0 = gateB xs[0] := by simp [gtOk, h]
theorem gtOk_succ {xs : List DGate} {m : Nat} (h : m + 1 < xs.length) : gtOk xs (m + 1) = (gateB xs[m + 1] && ltS xs[m].id xs[m + 1].id) := by
  have h1 : m < xs.length := by omega
  simp [gtOk, h, h1]
theorem gatesB_bad {xs : List DGate} {k : Nat} (h : k < xs.length) (h1 : gtOk xs k = false) : gatesB xs = false := by
  unfold gatesB; rw [allIdx_bad h h1]; rfl
theorem gatesB_one {xs : List DGate} (h : gatesB xs = true) {k : Nat} (hk : k < xs.length) : gateB xs[k] = true := by
  unfold gatesB at h
  simp only [Bool.and_eq_true] at h
  have := allIdx_true.1 h.1 k hk
  unfold gtOk at this
  simp only [Bool.and_eq_true] at this
  rw [getD_of_ltG hk] at this
  exact this.1
theorem gatesB_len {xs : List DGate} (h : gatesB xs = true) : xs.length ≤ 8 := by
  unfold gatesB at h; simp at h; exact h.2

end Go.Proofs.YthabmofkjdiccaaGreatDoor

namespace Go.Proofs.YthabmofkjdiccaaGreatDoor
open Go.RowKit
set_option linter.unusedVariables false

def totInt64S (xs : List Int) : Nat := xs.length




def mkInt64 (k : Int) : Int := k
def marksInt64 (k : Int) (n : Nat) : List Int := (List.range n).map fun (i : Nat) => mkInt64 (k + 1 * (i : Int))

theorem marksInt64_get (k0 : Int) (n i : Nat) (h : i < (marksInt64 k0 n).length) : (marksInt64 k0 n)[i] = mkInt64 (k0 + 1 * (i : Int)) := by
  simp [marksInt64]
theorem marksInt64_len (k0 : Int) (n : Nat) : (marksInt64 k0 n).length = n := by simp [marksInt64]



end Go.Proofs.YthabmofkjdiccaaGreatDoor

namespace Go.Proofs.YthabmofkjdiccaaGreatDoor
open Go.RowKit
set_option linter.unusedVariables false

theorem bytesL_append (a b : List UInt8) : (ByteArray.mk a.toArray ++ ByteArray.mk b.toArray) = ⟨(a ++ b).toArray⟩ := ByteArray.mk_append_mk a b
theorem bytesL_self (s : ByteArray) : s = ⟨s.data.toList.toArray⟩ := by cases s; simp
theorem mkL_size (l : List UInt8) : (ByteArray.mk l.toArray).size = l.length := by show l.toArray.size = _; simp
theorem dataL_len (s : ByteArray) : s.data.toList.length = s.size := by simp
def joinX : List (List UInt8) → List UInt8
  | [] => []
  | x :: r => x ++ r.flatMap (fun y => 44 :: y)
theorem joinX_one (x : List UInt8) : joinX [x] = x := by simp [joinX]
theorem joinX_snoc {xs : List (List UInt8)} (h : xs ≠ []) (y : List UInt8) : joinX (xs ++ [y]) = joinX xs ++ 44 :: y := by
  cases xs with
  | nil => exact absurd rfl h
  | cons x r => simp [joinX]
theorem joinX_len {n : Nat} : ∀ xs : List (List UInt8), (∀ x ∈ xs, x.length ≤ n) → (joinX xs).length ≤ (n + 1) * xs.length
  | [], _ => by simp [joinX]
  | x :: r, h => by
    have hr : ∀ r : List (List UInt8), (∀ y ∈ r, y.length ≤ n) → (r.flatMap (fun y => 44 :: y)).length ≤ (n + 1) * r.length := by
      intro r hr
      induction r with
      | nil => simp
      | cons a r ih =>
        have h1 := hr a (by simp)
        have h2 := ih (fun y hy => hr y (by simp [hy]))
        rw [List.flatMap_cons, List.length_append, List.length_cons, List.length_cons, Nat.mul_succ]
        omega
    have h1 := h x (by simp)
    have h2 := hr r (fun y hy => h y (by simp [hy]))
    show (x ++ _).length ≤ _
    rw [List.length_append, List.length_cons, Nat.mul_succ]
    omega
def listS (xs : List Int) : ByteArray := ⟨(if xs = [] then [45] else joinX (xs.map Lib.itoa)).toArray⟩
theorem itoaL_len {x : Int} (h : fInt.ok x) : (Lib.itoa x).length ≤ 21 := itoa_len20 h.1 h.2
theorem listS_size {xs : List Int} (h : ∀ x ∈ xs, fInt.ok x) : (listS xs).size ≤ 22 * xs.length + 1 := by
  unfold listS; rw [mkL_size]
  split
  · simp
  · have := joinX_len (n := 21) (xs.map Lib.itoa) (fun y hy => by obtain ⟨x, hx, rfl⟩ := List.mem_map.1 hy; exact itoaL_len (h x hx))
    rw [List.length_map] at this
    omega
theorem take_map_step {α β : Type} (f : α → β) {xs : List α} {k : Nat} (hk : k < xs.length) : (xs.take (k + 1)).map f = (xs.take k).map f ++ [f xs[k]] := by
  rw [List.take_succ_eq_append_getElem hk, List.map_append]; rfl
theorem join_first {xs : List Int} (h : 0 < xs.length) {t : ByteArray} (ht : t = ⟨(joinX ((xs.take 0).map Lib.itoa)).toArray⟩) : t ++ decS xs[0] = ⟨(joinX ((xs.take 1).map Lib.itoa)).toArray⟩ := by
  rw [ht, take_map_step Lib.itoa h]
  exact bytesL_append [] _ |>.trans (by simp [joinX])
theorem join_next {xs : List Int} {k : Nat} (h : k < xs.length) (hk : 0 < k) {t : ByteArray} (ht : t = ⟨(joinX ((xs.take k).map Lib.itoa)).toArray⟩) : t ++ ⟨#[44]⟩ ++ decS xs[k] = ⟨(joinX ((xs.take (k + 1)).map Lib.itoa)).toArray⟩ := by
  rw [ht, take_map_step Lib.itoa h, joinX_snoc (by
    intro e
    have := congrArg List.length e
    rw [List.length_map, List.length_take, List.length_nil] at this
    omega)]
  rw [show (ByteArray.mk #[44]) = ⟨([44] : List UInt8).toArray⟩ from rfl, bytesL_append]
  exact (bytesL_append _ _).trans (by simp)
def dataX (Xs : List ByteArray) : List (List UInt8) := Xs.map (fun x : ByteArray => x.data.toList)
def joinS (Xs : List ByteArray) : ByteArray := ⟨(joinX (dataX Xs)).toArray⟩
theorem joinX_dlen {Xs : List ByteArray} (h : ∀ x ∈ Xs, x.size ≤ 1000) (k : Nat) : (joinX (dataX (Xs.take k))).length ≤ 1001 * k := by
  have h1 := joinX_len (n := 1000) (dataX (Xs.take k)) (fun y hy => by
    unfold dataX at hy
    obtain ⟨x, hx, rfl⟩ := List.mem_map.1 hy
    have := h x (List.mem_of_mem_take hx)
    rw [dataL_len]; exact this)
  have h2 : (dataX (Xs.take k)).length ≤ k := by unfold dataX; rw [List.length_map, List.length_take]; omega
  have h3 : (1000 + 1) * (dataX (Xs.take k)).length ≤ (1000 + 1) * k := Nat.mul_le_mul_left _ h2
  omega
theorem joinX_step {Xs : List ByteArray} {k : Nat} (hk : k < Xs.length) (h0 : 0 < k) : joinX (dataX (Xs.take (k + 1))) = (joinX (dataX (Xs.take k)) ++ [44]) ++ Xs[k].data.toList := by
  unfold dataX
  rw [take_map_step _ hk, joinX_snoc (by
    intro e
    have := congrArg List.length e
    rw [List.length_map, List.length_take, List.length_nil] at this
    omega)]
  simp
set_option maxRecDepth 100000 in
set_option maxHeartbeats 4000000 in
theorem join_any (v : Value) (Xs : List ByteArray) (fp : List Nat) (w : World) (hx : Sl fStr.cod w v Xs fp) (hl : Xs.length ≤ 1000) (hsz : ∀ x ∈ Xs, x.size ≤ 1000) :
    Calls Tryz.prog 106 #[v, .string ⟨#[44]⟩] w fun e w' => e = .returned (.string (joinS Xs)) ∧ Below w.heap.size w w' := by
  obtain ⟨A, cap, rfl, hle, hca⟩ := hx.form
  rcases Nat.lt_or_ge Xs.length 2 with h2 | h2
  · match Xs, h2 with
    | [], _ =>
      go_enter Tryz.func106, Tryz.ntmps106
      go_wp2
      go_ret
      exact ⟨rfl, Below.refl _ _⟩
    | [a], _ =>
      obtain ⟨b, off, rfl, _, hok, hc, _⟩ := hx.cell1 rfl (k := 0) (by simp) rfl
      have hc0 : w.cell? ⟨b, off, none⟩ = some (.string a) := by simpa using hc
      have hj : joinS [a] = a := by unfold joinS dataX; rw [List.map_cons, List.map_nil, joinX_one]
      have HJ := Lib.hid hj
      clear hc hj
      go_enter Tryz.func106, Tryz.ntmps106
      go_wp2
      go_ret
      exact ⟨by rw [HJ.out]; rfl, Below.refl _ _⟩
    | _ :: _ :: _, h => exact absurd h (by simp)
  · obtain ⟨p, hp⟩ : ∃ p, Xs.length = p + 1 := ⟨Xs.length - 1, by omega⟩
    have hx0 := hx
    obtain ⟨b, off, rfl, _, hok, hc, _⟩ := hx.cell1 rfl (k := 0) (by omega) rfl
    have hc0 : w.cell? ⟨b, off, none⟩ = some (.string Xs[0]) := by simpa using hc
    have hs0 := hsz Xs[0] (List.getElem_mem (by omega))
    rw [hp] at hx hle ⊢
    have e0 : (((p + 1 : Nat) : Int) == 0) = false := by rw [beq_eq_false_iff_ne]; omega
    have e1 : (((p + 1 : Nat) : Int) == 1) = false := by rw [beq_eq_false_iff_ne]; omega
    have e2 : ((p : Int) == 0) = false := by rw [beq_eq_false_iff_ne]; omega
    have hq : ¬ (9223372036854775807 : Int) / (p : Int) ≤ 1 := by
      have : (2 : Int) ≤ 9223372036854775807 / (p : Int) := Int.le_ediv_of_mul_le (by omega) (by omega)
      omega
    have hnp : ¬ (p : Int) = 0 := by omega
    clear hc
    go_enter Tryz.func106, Tryz.ntmps106
    go_wp2
    go_loop [5, 41] (fun n i => ∃ k : Nat, k ≤ p + 1 ∧ i = .int .i64 k ∧ ∃ u : Nat, n = .int .i64 u ∧ u ≤ p + 1000 * k) (fun _ i => p + 1 - (intOf i).toNat)
    case atStart => exact ⟨0, Nat.zero_le _, rfl, p, by first | rfl | (congr 1; omega), by omega⟩
    case round =>
      obtain ⟨k, hk, rfl, u, rfl, hu⟩ := hrel
      by_cases hlt : k < p + 1
      · obtain ⟨b', off', hA, _, _, hck, _⟩ := hx.cell1 rfl (k := k) (by omega) rfl
        injection hA with hA; injection hA with hA1 hA2 _; subst hA1 hA2
        have hsk := hsz Xs[k] (List.getElem_mem (by omega))
        go_wp2
        go_round
        case rel => exact ⟨k + 1, by omega, by go_num, u + Xs[k].size, by go_num, by omega⟩
        case measure => simp [intOf]; omega
      · obtain rfl : k = p + 1 := by omega
        have hbk : (w.alloc (.cells #[.pointer none, .slice none 0 0] 149)).heap[w.heap.size]? = some (.cells #[.pointer none, .slice none 0 0] 149 (0, 0)) := heap_alloc_new w _
        have hJ1 : Hid (joinX (dataX (Xs.take 1)) = Xs[0].data.toList) := by
          show _ = _
          unfold dataX
          rw [take_map_step _ (by omega : 0 < Xs.length)]
          simp [joinX]
        have hjl := joinX_dlen hsz
        have HJL := Lib.hid hjl
        have HSZ := Lib.hid hsz
        clear hjl hsz
        go_wp2_with fail
        refine (Tryz.Builder_Grow_fresh w.heap.size w.heap.size u _ (Nat.le_refl _) hbk (by simp) (by omega)).mono ?_
        rintro e w1 ⟨rfl, hI, hb1⟩
        have hB1 : Below w.heap.size w w1 := ((Below.refl _ _).alloc (Nat.le_refl _) _).trans hb1
        have hx1 := hx0.below' hB1
        obtain ⟨b', off', hA, _, _, hc1, _⟩ := hx1.cell1 rfl (k := 0) (by omega) rfl
        injection hA with hA; injection hA with hA1 hA2 _; subst hA1 hA2
        have hc01 : w1.cell? ⟨b, off, none⟩ = some (.string Xs[0]) := by simpa using hc1
        clear hc1
        go_wp2_with fail
        refine (writeString_any w.heap.size w.heap.size [] _ _ (.inr hI) (by simp; omega) hB1.size).mono ?_
        rintro e w2 ⟨rfl, hI2, hb2⟩
        have hB2 := hB1.trans hb2
        rw [List.nil_append, Lib.strCells_eq, ← hJ1.out] at hI2
        have hcap : ¬ cap = 1 := by omega
        go_wp2
        go_loopw [65] (fun i wr => ∃ j : Nat, j ≤ p ∧ i = .int .i64 j ∧ Lib.IsBuilder 149 5 w.heap.size w.heap.size (Lib.byteCells (joinX (dataX (Xs.take (j + 1))))) wr ∧ Below w.heap.size w wr) (fun i _ => p - (intOf i).toNat)
        case atStart => exact ⟨0, Nat.zero_le _, rfl, hI2, hB2⟩
        case round =>
          obtain ⟨j, hj, rfl, hI3, hb⟩ := hrel
          have hbs := hb.size
          by_cases hjp : j < p
          · obtain ⟨b', off', hA, _, _, hcj, _⟩ := (hx0.below' hb).cell1 rfl (k := j + 1) (by omega) rfl
            injection hA with hA; injection hA with hA1 hA2 _; subst hA1 hA2
            have hcj0 : wr.cell? ⟨b, off + 1 + j, none⟩ = some (.string Xs[j + 1]) := by rw [Nat.add_assoc, Nat.add_comm 1 j]; exact hcj
            have hsj := HSZ.out Xs[j + 1] (List.getElem_mem (by omega))
            have hl1 := HJL.out (j + 1)
            have HST := Lib.hid (joinX_step (Xs := Xs) (k := j + 1) (by omega) (by omega))
            clear hcj
            go_wp2_with fail
            refine (writeString_any w.heap.size w.heap.size _ _ _ hI3 (by rw [Lib.byteCells_length]; show _ + 1 ≤ _; omega) hbs).mono ?_
            rintro e w5 ⟨rfl, hI5, hb5⟩
            have hB5 := hb.trans hb5
            rw [Lib.strCells_eq, ← Lib.byteCells_append] at hI5
            go_wp2_with fail
            refine (writeString_any w.heap.size w.heap.size _ _ _ hI5 (by rw [Lib.byteCells_length, List.length_append]; show _ + 1 + _ ≤ _; omega) hB5.size).mono ?_
            rintro e w6 ⟨rfl, hI6, hb6⟩
            rw [Lib.strCells_eq, ← Lib.byteCells_append] at hI6
            have hI7 : Lib.IsBuilder 149 5 w.heap.size w.heap.size (Lib.byteCells (joinX (dataX (Xs.take (j + 1 + 1))))) w6 := by rw [HST.out]; exact hI6
            clear hI5 hI6
            go_wp2
            go_roundw
            case rel => exact ⟨j + 1, by omega, by go_num, hI7, hB5.trans hb6⟩
            case measure => simp [intOf]; omega
          · obtain rfl : j = p := by omega
            rw [← hp, List.take_length] at hI3
            go_wp2_with fail
            refine (Tryz.Builder_String_any w.heap.size w.heap.size _ _ hI3 hbs).mono ?_
            rintro e w5 ⟨rfl, hb5⟩
            go_wp2
            go_ret
            exact ⟨rfl, hb.trans hb5⟩
def fitsL (xs : List Int) : Bool := decide (xs.length ≤ 64) && xs.all (fun x => inB x (-1000000000000) 1000000000000)
def listT (xs : List Int) : ByteArray := if fitsL xs then listS xs else ⟨#[]⟩
def decL (xs : List Int) : List ByteArray := xs.map decS
theorem decL_data (xs : List Int) : dataX (decL xs) = xs.map Lib.itoa := by
  unfold dataX decL; rw [List.map_map]; congr 1
theorem infoStrL : (Tryz.prog.info? 9).map (fun i => (i.zero, i.size, i.bytes)) = some (some (.string ⟨#[]⟩), 1, 16) := by kernel_rfl
theorem own_made {α : Type} {E : Flat α} {w : World} {base : Nat} (hb : base ≤ w.heap.size) {e : TypeId} {z : Array Value} {c : Nat} (hc : c ≤ 9223372036854775807) :
    Own E (w.alloc (.cells (madeCells z (c * E.n)) e)) base e (.slice (some ⟨w.heap.size, 0, none⟩) 0 c) [] := by
  refine ⟨by simp, .inr ⟨w.heap.size, c, madeCells z (c * E.n), rfl, hb, heap_alloc_new w _, Nat.zero_le _, by unfold maxLen; exact hc, size_madeCells _ _, ?_⟩⟩
  simp
set_option maxRecDepth 100000 in
set_option maxHeartbeats 4000000 in
theorem ListText_any (v : Value) (xs : List Int) (fp : List Nat) (w : World) (hx : Sl fInt.cod w v xs fp) (ht : Tab10 w) :
    Calls Tryz.prog 74 #[v] w fun e w' => e = .returned (.string (listT xs)) ∧ Below w.heap.size w w' := by
  obtain ⟨A, cap, rfl, hle, hca⟩ := hx.form
  obtain ⟨i0, hi, hz0, hz1, hz2⟩ := info_parts infoStrL
  have hoks := hx.oks
  by_cases h64 : xs.length ≤ 64
  · rcases Nat.eq_zero_or_pos xs.length with h0 | h0
    · obtain rfl := List.eq_nil_of_length_eq_zero h0
      go_enter Tryz.func74, Tryz.ntmps74
      go_wp2
      go_ret
      exact ⟨rfl, Below.refl _ _⟩
    · have e0 : ((xs.length : Int) == 0) = false := by rw [beq_eq_false_iff_ne]; omega
      have hne : ¬ xs = [] := by intro e; subst e; simp at h0
      have HN := Lib.hid hne
      have hmk : ∀ W : World, (Instr.makeSlice 53 (.int .i64 0) (.int .i64 (xs.length : Int))).run Tryz.prog W = .ok (.slice (some ⟨W.heap.size, 0, none⟩) 0 xs.length) (W.alloc (.cells (madeCells (Value.string ⟨#[]⟩).cells (xs.length * i0.size)) 9)) := fun W => run_make_rowN (P := Tryz.prog) 53 9 i0 _ Tryz.underlying53 hi hz0 .i64 .i64 0 xs.length (Nat.zero_le _) (by rw [hz2]; omega) (by omega) W
      rw [hz1] at hmk
      have hB0 : Below w.heap.size w (w.alloc (.cells (madeCells #[Value.string ⟨#[]⟩] xs.length) 9)) := (Below.refl _ _).alloc (Nat.le_refl _) _
      have hO0 : Own fStr (w.alloc (.cells (madeCells #[Value.string ⟨#[]⟩] xs.length) 9)) w.heap.size 9 (.slice (some ⟨w.heap.size, 0, none⟩) 0 xs.length) (decL (xs.take 0)) := by
        have h := own_made (E := fStr) (w := w) (base := w.heap.size) (e := 9) (z := #[Value.string ⟨#[]⟩]) (c := xs.length) (Nat.le_refl _) (by omega)
        rw [show xs.length * fStr.n = xs.length from Nat.mul_one _] at h
        exact h
      clear hne
      go_enter Tryz.func74, Tryz.ntmps74
      go_wp2
      go_loopw [3, 17] (fun v i wr => ∃ k : Nat, k ≤ xs.length ∧ i = .int .i64 k ∧ Hid ((xs.take k).all (fun x => inB x (-1000000000000) 1000000000000) = true) ∧ Own fStr wr w.heap.size 9 v (decL (xs.take k)) ∧ Below w.heap.size w wr) (fun _ i _ => xs.length - (intOf i).toNat)
      case atStart => exact ⟨0, Nat.zero_le _, rfl, rfl, hO0, hB0⟩
      case round =>
        obtain ⟨k, hk, rfl, HA, ho, hb⟩ := hrel
        by_cases hlt : k < xs.length
        · obtain ⟨b, off, rfl, _, hok, hc, _⟩ := (hx.below' hb).cell1 rfl hlt rfl
          obtain ⟨hk0, hk1⟩ : -9223372036854775808 ≤ xs[k] ∧ xs[k] ≤ 9223372036854775807 := hok
          cases hin : inB xs[k] (-1000000000000) 1000000000000
          · have hno : listT xs = ⟨#[]⟩ := by
              unfold listT fitsL
              rw [if_neg]
              intro h
              simp only [Bool.and_eq_true] at h
              have := List.all_eq_true.1 h.2 xs[k] (List.getElem_mem hlt)
              rw [hin] at this; cases this
            have HNO := Lib.hid hno
            clear hno ho
            go_wp2_with (go_at_call 100; refine (withinB_any _ _ _ _).mono ?_; rintro e w' ⟨rfl, rfl⟩)
            go_ret
            exact ⟨by rw [HNO.out]; rfl, hb⟩
          · have HA2 : Hid ((xs.take (k + 1)).all (fun x => inB x (-1000000000000) 1000000000000) = true) := by
              show _ = _
              rw [List.take_succ_eq_append_getElem hlt, List.all_append, HA.out]; simp [hin]
            have hst := take_map_step decS hlt
            have HST : Hid (decL (xs.take (k + 1)) = decL (xs.take k) ++ [decS xs[k]]) := hst
            have hkl : (decL (xs.take k)).length ≤ 64 := by unfold decL; rw [List.length_map, List.length_take]; omega
            clear hst
            go_wp2_with (go_at_call 100; refine (withinB_any _ _ _ _).mono ?_; rintro e w' ⟨rfl, rfl⟩)
            refine (Decimal_any xs[k] _ hk0 hk1 (ht.below hb)).mono ?_
            rintro e w2 ⟨rfl, hb2⟩
            have hB2 := hb.trans (hb2.mono hb.size)
            have ho3 : w2.ownsRow w.heap.size 9 1 u3 (decL (xs.take k)).length ((decL (xs.take k)).flatMap fStr.enc) := ho.below hb2
            have hs2 := hB2.size
            clear ho
            go_wp2_with (at_builtin; refine wpList_append_one rfl _ _ 53 rfl w.heap.size 9 i0 (.string ⟨#[]⟩) 1 16 Tryz.underlying53 hi hz0 hz1 hz2 rfl (by decide) u3 (decL (xs.take k)).length _ rfl ho3 [.string (decS xs[k])] rfl (by intro u hu; rw [List.mem_singleton] at hu; subst hu; rfl) rfl (by omega) (by decide) hs2 ?_)
            intro v' u hown hbu _ _
            have hbu' := hB2.trans hbu
            have ho4 : Own fStr u w.heap.size 9 v' (decL (xs.take (k + 1))) := by rw [HST.out]; exact Own.push _ rfl hown
            clear hown
            go_wp2
            go_roundw
            case rel => exact ⟨k + 1, by omega, by go_num, HA2, ho4, hbu'⟩
            case measure => simp [intOf]; omega
        · have hke : k = xs.length := by omega
          subst hke
          rw [List.take_length] at ho
          have hyes : listT xs = joinS (decL xs) := by
            have h := HA.out
            rw [List.take_length] at h
            unfold listT fitsL
            rw [decide_eq_true h64, h, if_pos (by rfl)]
            unfold listS joinS
            rw [if_neg HN.out, decL_data]
          have HY := Lib.hid hyes
          have hds : ∀ y ∈ decL xs, y.size ≤ 1000 := by
            intro y hy
            unfold decL at hy
            obtain ⟨x, hxm, rfl⟩ := List.mem_map.1 hy
            rw [decS_size]
            have := itoaL_len (hoks x hxm)
            omega
          obtain ⟨fpy, hsy, _, _⟩ := Sl.of_own (n := (decL xs).length) rfl ho (fun y hy => by have := hds y hy; show y.size ≤ 9223372036854775807; omega)
          have hdl : (decL xs).length ≤ 1000 := by unfold decL; rw [List.length_map]; omega
          clear ho hyes
          go_wp2_with fail
          refine (join_any _ (decL xs) fpy _ hsy hdl hds).mono ?_
          rintro e w2 ⟨rfl, hb2⟩
          go_wp2
          go_ret
          exact ⟨by rw [HY.out]; rfl, hb.trans (hb2.mono hb.size)⟩
  · have hno : listT xs = ⟨#[]⟩ := by unfold listT fitsL; rw [decide_eq_false h64]; rfl
    have HNO := Lib.hid hno
    clear hno
    go_enter Tryz.func74, Tryz.ntmps74
    go_wp2
    go_ret
    exact ⟨by rw [HNO.out]; rfl, Below.refl _ _⟩
theorem listT_size {xs : List Int} (h : ∀ x ∈ xs, fInt.ok x) (hl : xs.length ≤ 1000) : (listT xs).size ≤ 22001 := by
  unfold listT; split
  · have := listS_size h; omega
  · show 0 ≤ _; omega
set_option maxRecDepth 100000 in
set_option maxHeartbeats 2000000 in
theorem withId_any (id_ : ByteArray) (v : Value) (xs : List Int) (fp : List Nat) (w : World) (hx : Sl fInt.cod w v xs fp) (hl : xs.length ≤ 1000) (hid : id_.size ≤ 1048576) (ht : Tab10 w) :
    Calls Tryz.prog 57 #[.string id_, v] w fun e w' => e = .returned (.string (id_ ++ ⟨#[32]⟩ ++ listT xs)) ∧ Below w.heap.size w w' := by
  have hls := listT_size hx.oks hl
  have h1 : (id_ ++ ⟨#[32]⟩).size ≤ 1048577 := by rw [ByteArray.size_append]; show _ + 1 ≤ _; omega
  go_enter Tryz.func57, Tryz.ntmps57
  go_wp2_with fail
  refine (ListText_any v xs fp _ hx ht).mono ?_
  rintro e w1 ⟨rfl, hb⟩
  obtain ⟨T, hT⟩ : ∃ T, T = listT xs := ⟨_, rfl⟩
  rw [← hT] at hls ⊢
  have HT := Lib.hid hT
  clear hT
  go_wp2
  go_ret
  exact ⟨ret_str (by rw [HT.out]), hb⟩
def gtN (x : DGate) : List Int := [x.shut, x.open_, x.hold]
def gtS (x : DGate) : ByteArray := if x.shuts then x.id ++ ⟨#[32]⟩ ++ listS (gtN x) ++ ⟨#[32, 115, 104, 117, 116, 32]⟩ ++ decS x.calm else x.id ++ ⟨#[32]⟩ ++ listS (gtN x) ++ ⟨#[32, 111, 112, 101, 110]⟩
theorem gateB_parts {x : DGate} (h : gateB x = true) : x.id.size ≤ 10 ∧ (1 ≤ x.shut ∧ x.shut ≤ 1000) ∧ (0 ≤ x.open_ ∧ x.open_ ≤ x.shut) ∧ (1 ≤ x.hold ∧ x.hold ≤ 48) ∧ (0 ≤ x.calm ∧ x.calm ≤ x.hold - 1) := by
  unfold gateB inB nameB at h
  simp only [Bool.and_eq_true, decide_eq_true_eq] at h
  obtain ⟨⟨⟨⟨⟨h1, h2⟩, h3⟩, h4⟩, h5⟩, _⟩ := h
  exact ⟨h1.1.1, h2, h3, h4, h5⟩
theorem gtN_ok {x : DGate} (h : gateB x = true) : ∀ y ∈ gtN x, fInt.ok y := by
  obtain ⟨_, h1, h2, h3, _⟩ := gateB_parts h
  intro y hy
  unfold gtN at hy
  simp at hy
  rcases hy with rfl | rfl | rfl <;> (show _ ∧ _; omega)
theorem gtN_fits {x : DGate} (h : gateB x = true) : listT (gtN x) = listS (gtN x) := by
  obtain ⟨_, h1, h2, h3, _⟩ := gateB_parts h
  unfold listT
  rw [if_pos]
  unfold fitsL gtN inB
  simp
  omega
theorem gtS_size {x : DGate} (h : gateB x = true) : (gtS x).size ≤ 200 := by
  have h0 := (gateB_parts h).1
  have h1 := listS_size (gtN_ok h)
  have h2 : (decS x.calm).size ≤ 21 := by rw [decS_size]; obtain ⟨_, _, _, _, h5⟩ := gateB_parts h; obtain ⟨_, _, _, h4, _⟩ := gateB_parts h; exact itoa_len20 (by omega) (by omega)
  have h3 : (gtN x).length = 3 := rfl
  unfold gtS
  split
  · simp only [ByteArray.size_append]
    show x.id.size + 1 + _ + 6 + _ ≤ _; omega
  · simp only [ByteArray.size_append]
    show x.id.size + 1 + _ + 5 ≤ _; omega

end Go.Proofs.YthabmofkjdiccaaGreatDoor

namespace Go.Proofs.YthabmofkjdiccaaGreatDoor
open Go.RowKit
set_option linter.unusedVariables false

theorem rem4 {y : Int} (h : 0 ≤ y) : (y % 4 == 0) = (leapI y == 1) := by
  unfold leapI
  by_cases e : y % 4 = 0
  · rw [if_pos e, e]; rfl
  · rw [if_neg e, beq_eq_false_iff_ne.2 e]; rfl
/-- The days of a month of a year without a day more. -/
def lenT (m : Int) : Int := if m = 0 then 365 else if m = 2 then 28 else if m = 4 ∨ m = 6 ∨ m = 9 ∨ m = 11 then 30 else 31
theorem monthC0 {m : Int} (h1 : 0 ≤ m) (h2 : m ≤ 12) : m = 0 ∨ m = 1 ∨ m = 2 ∨ m = 3 ∨ m = 4 ∨ m = 5 ∨ m = 6 ∨ m = 7 ∨ m = 8 ∨ m = 9 ∨ m = 10 ∨ m = 11 ∨ m = 12 := by omega
theorem lenM_plain {y m : Int} (h : ¬ (leapI y = 1 ∧ (m = 0 ∨ m = 2))) : lenM y m = lenT m := by
  have := leapI_01 y
  unfold lenM lenT
  repeat' split
  all_goals omega
theorem lenM_more {y m : Int} (h : leapI y = 1 ∧ (m = 0 ∨ m = 2)) : lenM y m = lenT m + 1 := by
  unfold lenM lenT
  repeat' split
  all_goals omega
theorem lenT_range (m : Int) : 28 ≤ lenT m ∧ lenT m ≤ 365 := by
  unfold lenT
  repeat' split
  all_goals omega
theorem daysTab (m : Int) (h1 : 0 ≤ m) (h2 : m ≤ 12) (W : World) : (Instr.index 161 (.agg #[.int .i64 365, .int .i64 31, .int .i64 28, .int .i64 31, .int .i64 30, .int .i64 31, .int .i64 30, .int .i64 31, .int .i64 31, .int .i64 30, .int .i64 31, .int .i64 30, .int .i64 31]) (.int .i64 m)).run Tryz.prog W = .ok (.int .i64 (lenT m)) W := by
  rcases monthC0 h1 h2 with h | h | h | h | h | h | h | h | h | h | h | h | h <;> subst h <;> simp [Instr.index, run_underlying Tryz.underlying161, asIntOf, go_sem, lenT]
set_option maxRecDepth 100000 in
set_option maxHeartbeats 2000000 in
theorem daysIn_any (y m : Int) (w : World) (hy : 0 ≤ y) (hm : 0 ≤ m) (hm2 : m ≤ 12) :
    Calls Tryz.prog 115 #[.int .i64 y, .int .i64 m] w fun e w' => e = .returned (.int .i64 (lenM y m)) ∧ w = w' := by
  have hix := daysTab m hm hm2
  have hr := lenT_range m
  have h4 := rem4 hy
  by_cases hl : leapI y = 1
  · by_cases hc : m = 0 ∨ m = 2
    · have HR := Lib.hid (lenM_more ⟨hl, hc⟩)
      have e4 : (y % 4 == 0) = true := by rw [h4, hl]; rfl
      have e1 : wrap64 (lenT m + 1) = lenT m + 1 := by unfold wrap64; omega
      rcases hc with hc | hc
      · have e0 : (m == 0) = true := by rw [hc]; rfl
        clear h4 hl hc
        generalize lenT m = t at *
        go_enter Tryz.func115, Tryz.ntmps115
        go_wp2
        go_ret
        exact ⟨ret_int HR.out.symm, rfl⟩
      · have e0 : (m == 0) = false := by rw [hc]; rfl
        have e2 : (m == 2) = true := by rw [hc]; rfl
        clear h4 hl hc
        generalize lenT m = t at *
        go_enter Tryz.func115, Tryz.ntmps115
        go_wp2
        go_ret
        exact ⟨ret_int HR.out.symm, rfl⟩
    · have HR := Lib.hid (lenM_plain (y := y) (m := m) (fun h => hc h.2))
      have e4 : (y % 4 == 0) = true := by rw [h4, hl]; rfl
      have e0 : (m == 0) = false := by rw [beq_eq_false_iff_ne]; omega
      have e2 : (m == 2) = false := by rw [beq_eq_false_iff_ne]; omega
      clear h4 hl hc
      generalize lenT m = t at *
      go_enter Tryz.func115, Tryz.ntmps115
      go_wp2
      go_ret
      exact ⟨ret_int HR.out.symm, rfl⟩
  · have HR := Lib.hid (lenM_plain (y := y) (m := m) (fun h => hl h.1))
    have hl0 : leapI y = 0 := by rcases leapI_01 y with h | h; exact h; exact absurd h hl
    have e4 : (y % 4 == 0) = false := by rw [h4, hl0]; rfl
    clear h4 hl hl0
    generalize lenT m = t at *
    go_enter Tryz.func115, Tryz.ntmps115
    go_wp2
    go_ret
    exact ⟨ret_int HR.out.symm, rfl⟩
theorem two_cell {n : Int} (h0 : 0 ≤ n) (h1 : n < 100) : ((UInt8.ofNat (48 + n.toNat / 10)).toNat : Int) = 48 + n / 10 ∧ ((UInt8.ofNat (48 + n.toNat % 10)).toNat : Int) = 48 + n % 10 := by
  rw [UInt8.toNat_ofNat', UInt8.toNat_ofNat']
  omega
set_option maxRecDepth 100000 in
set_option maxHeartbeats 1000000 in
theorem twoDigits_any (n : Int) (w : World) (h0 : 0 ≤ n) (h1 : n < 100) :
    Calls Tryz.prog 94 #[.int .i64 n] w fun e w' => e = .returned (.string ⟨(two n).toArray⟩) ∧ Below w.heap.size w w' := by
  obtain ⟨e1, e2⟩ := two_cell h0 h1
  have hown : Own fByte (w.alloc (.cells #[.int .u8 ((UInt8.ofNat (48 + n.toNat / 10)).toNat : Int), .int .u8 ((UInt8.ofNat (48 + n.toNat % 10)).toNat : Int)] 5)) w.heap.size 5 (.slice (some ⟨w.heap.size, 0, none⟩) 2 2) (two n) := World.ownsRow_lit w _ 2 (Nat.le_refl _) (by unfold maxLen; omega) rfl
  have hcv := hown.text
  rw [e1, e2] at hcv
  clear hown e1 e2
  generalize two n = t at *
  go_enter Tryz.func94, Tryz.ntmps94
  go_wp2
  go_ret
  exact ⟨rfl, (Below.refl _ _).alloc (Nat.le_refl _) _⟩
theorem dgt_bad {l : List UInt8} {k : Nat} (hk : k < l.length) (h : digB l[k] = false) : fN l = -1 := fN_bad (by
  rw [← Bool.not_eq_true, List.all_eq_true]
  intro e
  have := e l[k] (List.getElem_mem hk)
  rw [h] at this; cases this)
theorem valL_take {l : List UInt8} {k : Nat} (hk : k < l.length) : ((valL 0 (l.take (k + 1)) : Nat) : Int) = 10 * ((valL 0 (l.take k) : Nat) : Int) + ((l[k].toNat - 48 : Nat) : Int) := by
  rw [List.take_succ_eq_append_getElem hk, valL_snoc]; omega
theorem all_take {l : List UInt8} {k : Nat} (hk : k < l.length) (h : (l.take k).all digB = true) (h1 : digB l[k] = true) : (l.take (k + 1)).all digB = true := by
  rw [List.take_succ_eq_append_getElem hk, List.all_append, h]; simp [h1]
theorem valL_small {l : List UInt8} {k : Nat} (h : l.all digB = true) (hl : l.length ≤ 4) (hk : k ≤ l.length) : valL 0 (l.take k) < 10000 := by
  have h1 : (l.take k).all digB = true := by rw [List.all_eq_true] at h ⊢; exact fun x hx => h x (List.mem_of_mem_take hx)
  have := valL_lt (l.take k) 0 0 h1 (by decide)
  rw [List.length_take] at this
  have h2 : 10 ^ (0 + min k l.length) ≤ 10 ^ 4 := Nat.pow_le_pow_right (by decide) (by omega)
  have h3 : (10 : Nat) ^ 4 = 10000 := by decide
  omega
theorem valL_small' {l : List UInt8} (h : l.all digB = true) (hl : l.length ≤ 4) : valL 0 l < 10000 := by
  have := valL_small (k := l.length) h hl (Nat.le_refl _)
  rwa [List.take_length] at this
set_option maxRecDepth 100000 in
set_option maxHeartbeats 1000000 in
theorem digitsOf_any (s : ByteArray) (w : World) (hs : s.size ≤ 4) :
    Calls Tryz.prog 91 #[.string s] w fun e w' => e = .returned (.int .i64 (fN s.data.toList)) ∧ w = w' := by
  have HS : Hid (∀ k (h : k < s.data.toList.length), s.data.toList[k] = s[k]'(by simpa using h)) := fun k h => rfl
  have hlen : s.data.toList.length = s.size := by simp
  go_enter Tryz.func91, Tryz.ntmps91
  go_wp2
  go_loop [3, 7] (fun n i => ∃ k : Nat, k ≤ s.size ∧ i = .int .i64 k ∧ ∃ q : Nat, n = .int .i64 q ∧ q < 10000 ∧ Hid (q = valL 0 (s.data.toList.take k)) ∧ Hid ((s.data.toList.take k).all digB = true)) (fun _ i => s.size - (intOf i).toNat)
  case atStart => exact ⟨0, Nat.zero_le _, rfl, 0, rfl, by decide, rfl, rfl⟩
  case round =>
    obtain ⟨k, hk, rfl, q, rfl, hq, HQ, HA⟩ := hrel
    by_cases hlt : k < s.size
    · have hkl : k < s.data.toList.length := by omega
      have HE : Hid (s.data.toList[k] = s[k]) := rfl
      have hlt256 := s[k].toNat_lt
      cases hd : digB s[k]
      · have hq2 : s[k].toNat < 48 ∨ 57 < s[k].toNat := by
          rcases Nat.lt_or_ge s[k].toNat 48 with h | h
          · exact .inl h
          · rcases Nat.lt_or_ge 57 s[k].toNat with h2 | h2
            · exact .inr h2
            · exact absurd (digB_iff.2 ⟨h, h2⟩) (by rw [hd]; decide)
        have HB_ := Lib.hid (dgt_bad hkl (by rw [HE.out]; exact hd))
        clear hd
        rcases Nat.lt_or_ge s[k].toNat 48 with h48 | h48
        · go_wp2
          go_ret
          exact ⟨ret_int HB_.out.symm, rfl⟩
        · have h57 : 57 < s[k].toNat := by omega
          go_wp2
          go_ret
          exact ⟨ret_int HB_.out.symm, rfl⟩
      · obtain ⟨h48, h57⟩ := digB_iff.1 hd
        have HV := Lib.hid (valL_take hkl)
        have HA2 := Lib.hid (all_take hkl HA.out (by rw [HE.out]; exact hd))
        have hsm : ∀ r : Nat, r = 10 * q + (s[k].toNat - 48) → r < 10000 := by
          intro r hr
          have h1 := valL_small' HA2.out (by rw [List.length_take]; omega)
          have h2 := HV.out
          rw [← HQ.out, HE.out] at h2
          omega
        clear hd
        have hr := hsm _ rfl
        clear hsm
        go_wp2
        go_round
        case rel => exact ⟨k + 1, by omega, by go_num, 10 * q + (s[k].toNat - 48), by go_num, hr, by have := HV.out; rw [← HQ.out, HE.out] at this; show _ = _; omega, HA2⟩
        case measure => simp [intOf]; omega
    · obtain rfl : k = s.size := by omega
      have hall := HA.out
      rw [← hlen, List.take_length] at hall
      have hq3 := HQ.out
      rw [← hlen, List.take_length] at hq3
      have HF := Lib.hid (fN_ok hall)
      have HQ3 := Lib.hid hq3
      clear hall hq3
      go_wp2
      go_ret
      exact ⟨ret_int (by rw [HF.out, ← HQ3.out]), rfl⟩
theorem dateB {y m d : Int} : dateOk y m d ↔ (inB y 2000 2099 = true ∧ inB m 1 12 = true ∧ inB d 1 (lenM y m) = true) := by unfold dateOk; rw [inB_true, inB_true, inB_true]
/-- The day of a date, 0 if there is none; the error's number. -/
def dnV (y m d : Int) : Int := if dateOk y m d then numD y m d else 0
def dnC (y m d : Int) : Int := if dateOk y m d then 0 else 2
set_option maxRecDepth 100000 in
set_option maxHeartbeats 2000000 in
theorem DayNumber_any (y m d : Int) (w : World) (hy : -1 ≤ y ∧ y ≤ 1000000) (hm : -1 ≤ m ∧ m ≤ 1000000) (hd : -1 ≤ d ∧ d ≤ 1000000) :
    Calls Tryz.prog 90 #[.int .i64 y, .int .i64 m, .int .i64 d] w fun e w' => e = .returned (.tuple #[.int .i64 (dnV y m d), .int .i64 (dnC y m d)]) ∧ w = w' := by
  cases hb1 : inB y 2000 2099
  · have hn : ¬ dateOk y m d := fun h => by have := (dateB.1 h).1; rw [hb1] at this; cases this
    have e1 : dnV y m d = 0 := if_neg hn
    have e2 : dnC y m d = 2 := if_neg hn
    rw [e1, e2]
    clear hn e1 e2
    go_enter Tryz.func90, Tryz.ntmps90
    go_wp2_with (go_at_call 100; refine (withinB_any _ _ _ _).mono ?_; rintro e w' ⟨rfl, rfl⟩)
    go_ret2
    exact ⟨rfl, rfl⟩
  · cases hb2 : inB m 1 12
    · have hn : ¬ dateOk y m d := fun h => by have := (dateB.1 h).2.1; rw [hb2] at this; cases this
      have e1 : dnV y m d = 0 := if_neg hn
      have e2 : dnC y m d = 2 := if_neg hn
      rw [e1, e2]
      clear hn e1 e2
      go_enter Tryz.func90, Tryz.ntmps90
      go_wp2_with (go_at_call 100; refine (withinB_any _ _ _ _).mono ?_; rintro e w' ⟨rfl, rfl⟩)
      go_ret2
      exact ⟨rfl, rfl⟩
    · obtain ⟨hy0, hy1⟩ := inB_true.1 hb1
      obtain ⟨hm0, hm1⟩ := inB_true.1 hb2
      cases hb3 : inB d 1 (lenM y m)
      · have hn : ¬ dateOk y m d := fun h => by have := (dateB.1 h).2.2; rw [hb3] at this; cases this
        have e1 : dnV y m d = 0 := if_neg hn
        have e2 : dnC y m d = 2 := if_neg hn
        rw [e1, e2]
        clear hn e1 e2
        go_enter Tryz.func90, Tryz.ntmps90
        go_wp2_with first | (go_at_call 100; refine (withinB_any _ _ _ _).mono ?_; rintro e w' ⟨rfl, rfl⟩) | (go_at_call 115; refine (daysIn_any _ _ _ (by omega) (by omega) (by omega)).mono ?_; rintro e w' ⟨rfl, rfl⟩)
        go_ret2
        exact ⟨rfl, rfl⟩
      · have hok : dateOk y m d := dateB.2 ⟨hb1, hb2, hb3⟩
        have e1 : dnV y m d = numD y m d := if_pos hok
        have e2 : dnC y m d = 0 := if_pos hok
        have hlen := lenM_pos y hm0 hm1
        obtain ⟨hd0, hd1⟩ := inB_true.1 hb3
        have HD := Lib.hid (show numD y m d = yB y + cumM y m + d - 1 from rfl)
        have hcum := cumM_bounds y hm0 hm1
        have hl01 := leapI_01 y
        have H4 := Lib.hid (yB_four y)
        have hyb : Hid (∀ t : Int, 2000 ≤ t → t ≤ 2099 → 0 ≤ yB t ∧ yB t ≤ 36525) := fun t h1 h2 => by unfold yB; omega
        have hst : Hid (∀ t : Int, yB (t + 1) = yB t + lenM t 0) := yB_step
        have hcs : Hid (∀ t : Int, 1 ≤ t → t ≤ 12 → cumM y (t + 1) = cumM y t + lenM y t) := fun t h1 h2 => cumM_step y h1 h2
        have hcb : Hid (∀ t : Int, 1 ≤ t → t ≤ 12 → 0 ≤ cumM y t ∧ cumM y t ≤ 366) := fun t h1 h2 => by
          obtain ⟨p1, p2⟩ := cumM_bounds y h1 h2
          have := lenM_pos y h1 h2
          omega
        have hl0b : Hid (∀ t : Int, 365 ≤ lenM t 0 ∧ lenM t 0 ≤ 366) := fun t => by rw [lenM_zero]; have := leapI_01 t; omega
        have hlb : Hid (∀ t : Int, 1 ≤ t → t ≤ 12 → 28 ≤ lenM y t ∧ lenM y t ≤ 31) := fun t h1 h2 => lenM_pos y h1 h2
        rw [e1, e2]
        clear hok e1 e2
        go_enter Tryz.func90, Tryz.ntmps90
        go_wp2_with first | (go_at_call 100; refine (withinB_any _ _ _ _).mono ?_; rintro e w' ⟨rfl, rfl⟩) | (go_at_call 115; refine (daysIn_any _ _ _ (by omega) (by omega) (by omega)).mono ?_; rintro e w' ⟨rfl, rfl⟩)
        go_loop [8, 9] (fun n i => ∃ t : Int, i = .int .i64 t ∧ 2000 ≤ t ∧ t ≤ y ∧ ∃ q : Int, n = .int .i64 q ∧ 0 ≤ q ∧ q ≤ 40000 ∧ Hid (q = yB t + d - 1)) (fun _ i => (y - intOf i).toNat)
        case atStart =>
          have h1 := H4.out
          have h2 := hyb.out (y / 4 * 4) (by omega) (by omega)
          exact ⟨_, rfl, by omega, by omega, _, rfl, by omega, by omega, by show _ = _; omega⟩
        case round =>
          obtain ⟨t, rfl, ht0, ht1, q, rfl, hq0, hq1, HQ⟩ := hrel
          by_cases hlt : t < y
          · have h2 := hyb.out (t + 1) (by omega) (by omega)
            have h3 := hst.out t
            have h5 := hl0b.out t
            have h6 := HQ.out
            have hq2 : q + lenM t 0 ≤ 40000 := by omega
            clear h2 h3 h6
            go_wp2_with (go_at_call 115; refine (daysIn_any _ _ _ (by omega) (by omega) (by omega)).mono ?_; rintro e w' ⟨rfl, rfl⟩)
            go_round
            case rel => exact ⟨t + 1, by go_num, by omega, by omega, q + lenM t 0, by go_num, by omega, by omega, by have := HQ.out; have := hst.out t; show _ = _; omega⟩
            case measure => simp [intOf]; omega
          · obtain rfl : t = y := by omega
            go_wp2_with (go_at_call 115; refine (daysIn_any _ _ _ (by omega) (by omega) (by omega)).mono ?_; rintro e w' ⟨rfl, rfl⟩)
            go_loop [8, 10] (fun n i => ∃ u : Int, i = .int .i64 u ∧ 1 ≤ u ∧ u ≤ m ∧ ∃ q : Int, n = .int .i64 q ∧ 0 ≤ q ∧ q ≤ 40000 ∧ Hid (q = yB t + cumM t u + d - 1)) (fun _ i => (m - intOf i).toNat)
            case atStart => exact ⟨1, rfl, by omega, by omega, _, rfl, by omega, by omega, by have := HQ.out; have := cumM_one t; show _ = _; omega⟩
            case round =>
              obtain ⟨u, rfl, hu0, hu1, q2, rfl, hq20, hq21, HQ2⟩ := hrel
              by_cases hlt : u < m
              · have h2 := hcs.out u (by omega) (by omega)
                have h3 := hlb.out u (by omega) (by omega)
                have h4 := hcb.out (u + 1) (by omega) (by omega)
                have h5 := hyb.out t (by omega) (by omega)
                have h6 := HQ2.out
                have hq2 : q2 + lenM t u ≤ 40000 := by omega
                clear h2 h4 h5 h6
                go_wp2_with (go_at_call 115; refine (daysIn_any _ _ _ (by omega) (by omega) (by omega)).mono ?_; rintro e w' ⟨rfl, rfl⟩)
                go_round
                case rel => exact ⟨u + 1, by go_num, by omega, by omega, q2 + lenM t u, by go_num, by omega, by omega, by have := HQ2.out; have := hcs.out u (by omega) (by omega); show _ = _; omega⟩
                case measure => simp [intOf]; omega
              · obtain rfl : u = m := by omega
                obtain rfl : q2 = numD t u d := by have := HQ2.out; have := HD.out; omega
                go_wp2_with (go_at_call 115; refine (daysIn_any _ _ _ (by omega) (by omega) (by omega)).mono ?_; rintro e w' ⟨rfl, rfl⟩)
                go_ret2
                exact ⟨rfl, rfl⟩
set_option maxRecDepth 100000 in
set_option maxHeartbeats 2000000 in
theorem dayValid_any (n : Int) (w : World) : Calls Tryz.prog 85 #[.int .i64 n] w fun e w' => e = .returned (.bool (inB n 0 36524)) ∧ w = w' := by
  go_enter Tryz.func85, Tryz.ntmps85
  go_wp2_with (go_at_call 100; refine (withinB_any _ _ _ _).mono ?_; rintro e w' ⟨rfl, rfl⟩)
  go_ret
  exact ⟨rfl, rfl⟩
set_option maxRecDepth 100000 in
set_option maxHeartbeats 2000000 in
theorem DateOf_any (y m d n : Int) (w : World) (h : dateOk y m d) (hn : n = numD y m d) :
    Calls Tryz.prog 92 #[.int .i64 n] w fun e w' => e = .returned (.tuple #[.int .i64 y, .int .i64 m, .int .i64 d, .int .i64 0]) ∧ w = w' := by
  have hb := numD_bounds h
  have hin : inB n 0 36524 = true := inB_true.2 (by omega)
  have hyl := year_le h
  have HY := Lib.hid (fun (t r : Int) (ht : t ≤ y) (hr : r = numD y m d - yB t) => year_go h ht hr)
  have HM := Lib.hid (fun (t r : Int) (h0 : 1 ≤ t) (ht : t ≤ m) (hr : r = cumM y m + d - 1 - cumM y t) => month_go h h0 ht hr)
  have HR := Lib.hid (yB_rest n)
  obtain ⟨⟨hy0, hy1⟩, ⟨hm0, hm1⟩, hd0, hd1⟩ := h
  have hst : Hid (∀ t : Int, yB (t + 1) = yB t + lenM t 0) := yB_step
  have hcs : Hid (∀ t : Int, 1 ≤ t → t ≤ 12 → cumM y (t + 1) = cumM y t + lenM y t) := fun t h1 h2 => cumM_step y h1 h2
  have hl0b : Hid (∀ t : Int, 365 ≤ lenM t 0 ∧ lenM t 0 ≤ 366) := fun t => by rw [lenM_zero]; have := leapI_01 t; omega
  have hlb : Hid (∀ t : Int, 1 ≤ t → t ≤ 12 → 28 ≤ lenM y t ∧ lenM y t ≤ 31) := fun t h1 h2 => lenM_pos y h1 h2
  have hlen := lenM_pos y hm0 hm1
  have HD := Lib.hid (show numD y m d = yB y + cumM y m + d - 1 from rfl)
  have HN := Lib.hid hn
  rw [← hn] at hb hyl
  clear hn
  go_enter Tryz.func92, Tryz.ntmps92
  go_wp2_with first | (go_at_call 85; refine (dayValid_any _ _).mono ?_; rintro e w' ⟨rfl, rfl⟩) | (go_at_call 115; refine (daysIn_any _ _ _ (by omega) (by omega) (by omega)).mono ?_; rintro e w' ⟨rfl, rfl⟩)
  go_loop [6, 7] (fun a b => ∃ t : Int, a = .int .i64 t ∧ 2000 ≤ t ∧ t ≤ y ∧ ∃ r : Int, b = .int .i64 r ∧ 0 ≤ r ∧ r ≤ 40000 ∧ Hid (r = numD y m d - yB t)) (fun a _ => (y - intOf a).toNat)
  case atStart => exact ⟨_, rfl, by omega, by omega, _, rfl, by omega, by omega, by have := HR.out; have := HN.out; show _ = _; omega⟩
  case round =>
    obtain ⟨t, rfl, ht0, ht1, r, rfl, hr0, hr1, HQ⟩ := hrel
    have hg := (HY.out t r ht1 HQ.out).2
    have hl := hl0b.out t
    by_cases hlt : t < y
    · have hge : lenM t 0 ≤ r := hg.2 hlt
      clear hg
      go_wp2_with (go_at_call 115; refine (daysIn_any _ _ _ (by omega) (by omega) (by omega)).mono ?_; rintro e w' ⟨rfl, rfl⟩)
      go_round
      case rel => exact ⟨t + 1, by go_num, by omega, by omega, r - lenM t 0, by go_num, by omega, by omega, by have := HQ.out; have := hst.out t; show _ = _; omega⟩
      case measure => simp [intOf]; omega
    · have hge : ¬ lenM t 0 ≤ r := fun e => hlt (hg.1 e)
      clear hg
      obtain rfl : t = y := by omega
      have HQ1 : Hid (r = cumM t m + d - 1 - cumM t 1) := by have := HQ.out; have := HD.out; have := cumM_one t; show _ = _; omega
      go_wp2_with (go_at_call 115; refine (daysIn_any _ _ _ (by omega) (by omega) (by omega)).mono ?_; rintro e w' ⟨rfl, rfl⟩)
      go_loop [7, 8] (fun b a => ∃ u : Int, a = .int .i64 u ∧ 1 ≤ u ∧ u ≤ m ∧ ∃ r : Int, b = .int .i64 r ∧ 0 ≤ r ∧ r ≤ 40000 ∧ Hid (r = cumM t m + d - 1 - cumM t u)) (fun _ a => (m - intOf a).toNat)
      case atStart => exact ⟨1, rfl, by omega, by omega, _, rfl, by omega, by omega, HQ1⟩
      case round =>
        obtain ⟨u, rfl, hu0, hu1, r2, rfl, hr20, hr21, HQ2⟩ := hrel
        have hg := (HM.out u r2 hu0 hu1 HQ2.out).2
        have hl2 := hlb.out u (by omega) (by omega)
        by_cases hlt : u < m
        · have hge : lenM t u ≤ r2 := hg.2 hlt
          clear hg
          go_wp2_with (go_at_call 115; refine (daysIn_any _ _ _ (by omega) (by omega) (by omega)).mono ?_; rintro e w' ⟨rfl, rfl⟩)
          go_round
          case rel => exact ⟨u + 1, by go_num, by omega, by omega, r2 - lenM t u, by go_num, by omega, by omega, by have := HQ2.out; have := hcs.out u (by omega) (by omega); show _ = _; omega⟩
          case measure => simp [intOf]; omega
        · have hge : ¬ lenM t u ≤ r2 := fun e => hlt (hg.1 e)
          clear hg
          obtain rfl : u = m := by omega
          obtain rfl : r2 = d - 1 := by have := HQ2.out; omega
          have e1 : wrap64 (d - 1 + 1) = d := by unfold wrap64; omega
          have e2 : d - 1 + 1 = d := by omega
          go_wp2_with (go_at_call 115; refine (daysIn_any _ _ _ (by omega) (by omega) (by omega)).mono ?_; rintro e w' ⟨rfl, rfl⟩)
          exact bodyPost_ret (v := .tuple #[.int .i64 t, .int .i64 u, .int .i64 d, .int .i64 0]) (by simp [results, *, Tryz.results92, go_sem]) rfl ⟨rfl, rfl⟩
def dayS (y m d : Int) : ByteArray := ⟨(dayL y m d).toArray⟩
theorem dayS_size {y m d : Int} (h : dateOk y m d) : (dayS y m d).size = 10 := by unfold dayS; rw [mkL_size, dayL_len h]
theorem dayS_cat (y m d : Int) : decS y ++ ⟨#[45]⟩ ++ ⟨(two m).toArray⟩ ++ ⟨#[45]⟩ ++ ⟨(two d).toArray⟩ = dayS y m d := by
  have e45 : (⟨#[45]⟩ : ByteArray) = ⟨([45] : List UInt8).toArray⟩ := rfl
  unfold dayS dayL decS
  rw [e45, bytesL_append, bytesL_append, bytesL_append, bytesL_append]
theorem two_size (n : Int) : (⟨(two n).toArray⟩ : ByteArray).size = 2 := rfl
set_option maxRecDepth 100000 in
set_option maxHeartbeats 2000000 in
theorem DateText_any (y m d n : Int) (w : World) (h : dateOk y m d) (hn : n = numD y m d) (ht : Tab10 w) :
    Calls Tryz.prog 58 #[.int .i64 n] w fun e w' => e = .returned (.string (dayS y m d)) ∧ Below w.heap.size w w' := by
  have hy := h.1
  have hm := h.2.1
  have hd := h.2.2
  have hl := lenM_pos y hm.1 hm.2
  have HC := Lib.hid (dayS_cat y m d)
  generalize dayS y m d = RES at *
  have hs4 : (decS y).size = 4 := by rw [decS_size, yearL hy.1 hy.2]; rfl
  have hsm := two_size m
  have hsd := two_size d
  have hDO := fun w => DateOf_any y m d n w h hn
  obtain ⟨hy1, hy2⟩ := hy
  obtain ⟨hm1, hm2⟩ := hm
  obtain ⟨hd1, hd2⟩ := hd
  have hd3 : d ≤ 31 := by omega
  clear h hn hd2 hl
  go_enter Tryz.func58, Tryz.ntmps58
  go_wp2_with fail
  refine (hDO _).mono ?_
  rintro e w' ⟨rfl, rfl⟩
  go_wp2_with fail
  refine (Decimal_any y _ (by omega) (by omega) ht).mono ?_
  rintro e w1 ⟨rfl, hb1⟩
  generalize decS y = Y at *
  go_wp2_with fail
  refine (twoDigits_any m _ (by omega) (by omega)).mono ?_
  rintro e w2 ⟨rfl, hb2⟩
  generalize (⟨(two m).toArray⟩ : ByteArray) = M at *
  go_wp2_with fail
  refine (twoDigits_any d _ (by omega) (by omega)).mono ?_
  rintro e w3 ⟨rfl, hb3⟩
  generalize (⟨(two d).toArray⟩ : ByteArray) = Z at *
  go_wp2
  go_ret
  exact ⟨ret_str HC.out, hb1.trans ((hb2.mono hb1.size).trans (hb3.mono (Nat.le_trans hb1.size hb2.size)))⟩
theorem fN_range {l : List UInt8} (h : l.length ≤ 4) : -1 ≤ fN l ∧ fN l ≤ 1000000 := by
  cases hd : l.all digB
  · rw [fN_bad hd]; omega
  · rw [fN_ok hd]
    have := valL_lt l 0 0 hd (by decide)
    have h2 : 10 ^ (0 + l.length) ≤ 10 ^ 4 := Nat.pow_le_pow_right (by decide) (by omega)
    have h3 : (10 : Nat) ^ 4 = 10000 := by decide
    omega
theorem ex_y (s : ByteArray) : (s.extract 0 4).data.toList = s.data.toList.take 4 := by rw [extract_toList, List.drop_zero]
theorem ex_m (s : ByteArray) : (s.extract 5 7).data.toList = (s.data.toList.take 7).drop 5 := by rw [extract_toList]
theorem ex_d (s : ByteArray) : (s.extract 8 s.size).data.toList = s.data.toList.drop 8 := by rw [extract_toList, List.take_of_length_le (by simp)]
theorem f_range (s : ByteArray) (h : s.size = 10) : (-1 ≤ yF s.data.toList ∧ yF s.data.toList ≤ 1000000) ∧ (-1 ≤ mF s.data.toList ∧ mF s.data.toList ≤ 1000000) ∧ (-1 ≤ dF s.data.toList ∧ dF s.data.toList ≤ 1000000) := by
  have hl : s.data.toList.length = 10 := by simpa using h
  unfold yF mF dF
  exact ⟨fN_range (by rw [List.length_take]; omega), fN_range (by rw [List.length_drop, List.length_take]; omega), fN_range (by rw [List.length_drop]; omega)⟩
theorem digY_any (s : ByteArray) (w : World) (h : s.size = 10) : Calls Tryz.prog 91 #[.string (s.extract 0 4)] w fun e w' => e = .returned (.int .i64 (yF s.data.toList)) ∧ w = w' := by
  have := digitsOf_any (s.extract 0 4) w (by rw [ByteArray.size_extract]; omega)
  rw [ex_y] at this; exact this
theorem digM_any (s : ByteArray) (w : World) (h : s.size = 10) : Calls Tryz.prog 91 #[.string (s.extract 5 7)] w fun e w' => e = .returned (.int .i64 (mF s.data.toList)) ∧ w = w' := by
  have := digitsOf_any (s.extract 5 7) w (by rw [ByteArray.size_extract]; omega)
  rw [ex_m] at this; exact this
theorem digD_any (s : ByteArray) (w : World) (h : s.size = 10) : Calls Tryz.prog 91 #[.string (s.extract 8 10)] w fun e w' => e = .returned (.int .i64 (dF s.data.toList)) ∧ w = w' := by
  have := digitsOf_any (s.extract 8 s.size) w (by rw [ByteArray.size_extract]; omega)
  rw [ex_d, h] at this; exact this
def RdR (s : ByteArray) (w : World) (e : Ending) (w' : World) : Prop := e = .returned (.tuple #[.int .i64 ((rdF s).getD 0), .bool (rdF s).isSome]) ∧ Below w.heap.size w w'
theorem RdR.no {s : ByteArray} {w w' : World} (h : rdF s = none) (hb : Below w.heap.size w w') : RdR s w (.returned (.tuple #[.int .i64 0, .bool false])) w' := ⟨by rw [h]; rfl, hb⟩
theorem RdR.yes {s : ByteArray} {w w' : World} {n : Int} (h : rdF s = some n) (hb : Below w.heap.size w w') : RdR s w (.returned (.tuple #[.int .i64 n, .bool true])) w' := ⟨by rw [h]; rfl, hb⟩
set_option maxRecDepth 100000 in
set_option maxHeartbeats 4000000 in
theorem implReadDate_any (s : ByteArray) (w : World) (hs : s.size ≤ 1048576) (ht : Tab10 w) :
    Calls Tryz.prog 56 #[.string s] w fun e w' => RdR s w e w' := by
  by_cases h10 : s.size = 10
  · have e0 : ((s.size : Int) == 10) = true := by rw [beq_iff_eq]; omega
    obtain ⟨hry, hrm, hrd⟩ := f_range s h10
    have HT := Lib.hid (fun hd => rdF_text (s := s) h10 hd)
    have HN := Lib.hid (fun hd => rdF_date (s := s) hd)
    have hcy := fun w => digY_any s w h10
    have hcm := fun w => digM_any s w h10
    have hcd := fun w => digD_any s w h10
    generalize yF s.data.toList = Y at *
    generalize mF s.data.toList = M at *
    generalize dF s.data.toList = Z at *
    go_enter Tryz.func56, Tryz.ntmps56
    go_wp2
    refine wp_region_mixed [0, 1, 3, 4, 6, 7, 2, 5, 8, 9, 10, 11, 12, 13, 14] (C := fun w' => ∃ p : Regrown, w' = Go.Sort.grow (redrawn w p.d) p.os) [true, true, true, true, true, true, false, false, false, false, true, true, true, true, true] (by kernel_rfl) (by kernel_rfl) (by kernel_rfl) (fun _ _ d _ _ h => by cases d <;> exact h) (regrown_of_below (Below.drew (Below.refl _ _))) ?_
    simp only [List.map_cons, List.map_nil, List.getD_cons_zero, List.getD_cons_succ]
    have hS0 : Below (w.heap.size) w w.drew := Below.drew (Below.refl _ _)
    refine wpMix_pure (by kernel_rfl) (fun K hK => ?_); go_big_quiet_op; refine hK _ ?_; clear hK K
    refine wpMix_pure (by kernel_rfl) (fun K hK => ?_); go_big_quiet_op; refine hK _ ?_; clear hK K
    refine wpMix_pure (by kernel_rfl) (fun K hK => ?_); go_big_quiet_op; refine hK _ ?_; clear hK K
    refine wpMix_pure (by kernel_rfl) (fun K hK => ?_); go_big_quiet_op; refine hK _ ?_; clear hK K
    refine wpMix_pure (by kernel_rfl) (fun K hK => ?_); go_big_quiet_op; refine hK _ ?_; clear hK K
    refine wpMix_pure (by kernel_rfl) (fun K hK => ?_); go_big_quiet_op; refine hK _ ?_; clear hK K
    refine wpMix_act (by kernel_rfl) (fun K hK => ?_)
    go_big_op
    refine (hcy _).mono ?_
    rintro e w' ⟨rfl, rfl⟩
    refine hK _ _ (regrown_of_below hS0) ?_
    clear hK K
    refine wpMix_act (by kernel_rfl) (fun K hK => ?_)
    go_big_op
    refine (hcm _).mono ?_
    rintro e w' ⟨rfl, rfl⟩
    refine hK _ _ (regrown_of_below hS0) ?_
    clear hK K
    refine wpMix_act (by kernel_rfl) (fun K hK => ?_)
    go_big_op
    refine (hcd _).mono ?_
    rintro e w' ⟨rfl, rfl⟩
    refine hK _ _ (regrown_of_below hS0) ?_
    clear hK K
    refine wpMix_act (by kernel_rfl) (fun K hK => ?_)
    go_big_op
    refine (DayNumber_any _ _ _ _ hry hrm hrd).mono ?_
    rintro e w' ⟨rfl, rfl⟩
    refine hK _ _ (regrown_of_below hS0) ?_
    clear hK K
    refine wpMix_pure (by kernel_rfl) (fun K hK => ?_); go_big_quiet_op; refine hK _ ?_; clear hK K
    refine wpMix_pure (by kernel_rfl) (fun K hK => ?_); go_big_quiet_op; refine hK _ ?_; clear hK K
    refine wpMix_pure (by kernel_rfl) (fun K hK => ?_); go_big_quiet_op; refine hK _ ?_; clear hK K
    refine wpMix_pure (by kernel_rfl) (fun K hK => ?_); go_big_quiet_op; refine hK _ ?_; clear hK K
    refine wpMix_pure (by kernel_rfl) (fun K hK => ?_); go_big_quiet_op; refine hK _ ?_; clear hK K
    refine wpMix_nil ?_
    have hS := hS0
    by_cases hok : dateOk Y M Z
    · have e1 : dnV Y M Z = numD Y M Z := if_pos hok
      have e2 : dnC Y M Z = 0 := if_pos hok
      rw [e1, e2]
      obtain ⟨hy1, hy2⟩ := HT.out hok
      have h10s := dayS_size hok
      have HQ1 : Hid (dayS Y M Z = s → dayL Y M Z = s.data.toList) := fun e => congrArg (fun x : ByteArray => x.data.toList) e
      have HQ2 : Hid (dayL Y M Z = s.data.toList → dayS Y M Z = s) := fun e => data_inj e
      clear e1 e2
      go_wp2_with fail
      refine (DateText_any _ _ _ _ _ hok rfl (ht.below hS)).mono ?_
      rintro e w9 ⟨rfl, hb9⟩
      generalize dayS Y M Z = T at *
      have hB := hS.trans (hb9.mono hS.size)
      by_cases hq : T = s
      · have e3 : (T.toList == s.toList) = true := eqS_true.2 hq
        have HY := Lib.hid (hy1 (HQ1.out hq))
        clear hy1 hy2 hq
        go_wp2
        go_ret2
        exact RdR.yes HY.out hB
      · have e3 : (T.toList == s.toList) = false := bytes_beq_false hq
        have HX := Lib.hid (hy2 (fun e => hq (HQ2.out e)))
        clear hy1 hy2 hq
        go_wp2
        go_ret2
        exact RdR.no HX.out hB
    · have e1 : dnV Y M Z = 0 := if_neg hok
      have e2 : dnC Y M Z = 2 := if_neg hok
      have HX := Lib.hid (HN.out hok)
      rw [e1, e2]
      clear e1 e2
      go_wp2
      go_ret2
      exact RdR.no HX.out hS
  · have e0 : ((s.size : Int) == 10) = false := by rw [beq_eq_false_iff_ne]; omega
    have HZ := Lib.hid (rdF_size h10)
    go_enter Tryz.func56, Tryz.ntmps56
    go_wp2
    go_ret2
    exact RdR.no HZ.out (Below.refl _ _)

end Go.Proofs.YthabmofkjdiccaaGreatDoor

namespace Go.Proofs.YthabmofkjdiccaaGreatDoor
open Go.RowKit
set_option linter.unusedVariables false

set_option maxRecDepth 100000 in
set_option maxHeartbeats 2000000 in
theorem l02DayV_any (n : Int) (w : World) : Calls Tryz.prog 117 #[.int .i64 n] w fun e w' => e = .returned (.bool (inB n 0 36524)) ∧ w = w' := by
  go_enter Tryz.func117, Tryz.ntmps117
  go_wp2_with (go_at_call 132; refine (l00InB_any _ _ _ _).mono ?_; rintro e w' ⟨rfl, rfl⟩)
  go_ret
  exact ⟨rfl, rfl⟩
set_option maxRecDepth 100000 in
set_option maxHeartbeats 2000000 in
theorem l17IsV_any (n : Int) (w : World) : Calls Tryz.prog 118 #[.int .i64 n] w fun e w' => e = .returned (.bool (inB n 1 5)) ∧ w = w' := by
  go_enter Tryz.func118, Tryz.ntmps118
  go_wp2_with (go_at_call 132; refine (l00InB_any _ _ _ _).mono ?_; rintro e w' ⟨rfl, rfl⟩)
  go_ret
  exact ⟨rfl, rfl⟩
set_option maxRecDepth 100000 in
set_option maxHeartbeats 2000000 in
theorem levelOkV_any (n : Int) (w : World) : Calls Tryz.prog 80 #[.int .i64 n] w fun e w' => e = .returned (.bool (inB n 1 5)) ∧ w = w' := by
  go_enter Tryz.func80, Tryz.ntmps80
  go_wp2_with (go_at_call 100; refine (withinB_any _ _ _ _).mono ?_; rintro e w' ⟨rfl, rfl⟩)
  go_ret
  exact ⟨rfl, rfl⟩
end Go.Proofs.YthabmofkjdiccaaGreatDoor

namespace Go.Proofs.YthabmofkjdiccaaGreatDoor
open Go.RowKit
set_option linter.unusedVariables false

def incB (x : DIncident) : Bool := inB x.day 0 36524 && nameB x.place && nameB x.cause && inB x.level 1 5 && inB x.caught 0 20 && inB x.buried 0 x.caught
def n00 : DIncident := ⟨0, ⟨#[]⟩, ⟨#[]⟩, 0, 0, 0⟩
def iAg (x : DIncident) : Value := .agg #[.int .i64 x.day, .string x.place, .string x.cause, .int .i64 x.level, .int .i64 x.caught, .int .i64 x.buried]
theorem incV (x : DIncident) : incB x = (inB x.day 0 36524 && (nameB x.place && (nameB x.cause && (inB x.level 1 5 && (inB x.caught 0 20 && inB x.buried 0 x.caught))))) := by
  unfold incB; simp only [Bool.and_assoc]
set_option maxRecDepth 100000 in
set_option maxHeartbeats 4000000 in
theorem l28One_any (pb po : Nat) (x : DIncident) (w : World) (hp : PIncident w pb po x) (hok : fIncident.ok x) :
    Calls Tryz.prog 107 #[.pointer (some ⟨pb, po, none⟩)] w fun e w' => e = .returned (.bool (incB x)) ∧ Below w.heap.size w w' := by
  obtain ⟨c0, c1, c2, c3, c4, c5⟩ := id hp
  obtain ⟨_, k1, k2, _⟩ := id hok
  have k1' : x.place.size ≤ 9223372036854775807 := k1
  have k2' : x.cause.size ≤ 9223372036854775807 := k2
  clear k1 k2 hok hp
  go_enter Tryz.func107, Tryz.ntmps107
  go_wp2
  have gc0 := cell_regrown c0
  have gc1 := cell_regrown c1
  have gc2 := cell_regrown c2
  have gc3 := cell_regrown c3
  have gc4 := cell_regrown c4
  have gc5 := cell_regrown c5
  refine wp_region_mix (C := fun w' => ∃ p : Regrown, w' = Go.Sort.grow (redrawn w p.d) p.os) [true, true, true, true, false, true, true, true, true, true, false, true, true, true, true, true, true, false, true, true, true, true, true, true, false, true, true, true, true, true, true, false, true, true, true, true, true, true, true, true, true, true, false, true, true] (by kernel_rfl) (by kernel_rfl) (by kernel_rfl) (fun _ _ d _ _ h => by cases d <;> exact h) (regrown_of_below (Below.drew (Below.refl _ _))) ?_
  have hS0 : Below (w.heap.size) w w.drew := Below.drew (Below.refl _ _)
  refine wpMix_pure (by kernel_rfl) (fun K hK => ?_); go_big_quiet_op; refine hK _ ?_; clear hK K
  refine wpMix_pure (by kernel_rfl) (fun K hK => ?_); go_big_quiet_op; refine hK _ ?_; clear hK K
  refine wpMix_pure (by kernel_rfl) (fun K hK => ?_); go_big_quiet_op; refine hK _ ?_; clear hK K
  refine wpMix_pure (by kernel_rfl) (fun K hK => ?_); go_big_quiet_op; refine hK _ ?_; clear hK K
  refine wpMix_act (by kernel_rfl) (fun K hK => ?_)
  go_big_op
  refine (l02DayV_any _ _).mono ?_
  rintro e w' ⟨rfl, rfl⟩
  refine hK _ _ (regrown_of_below hS0) ?_
  clear hK K
  cases hq4 : inB x.day 0 36524
  · skip
    refine wpMix_pure (by kernel_rfl) (fun K hK => ?_); go_big_quiet_op; refine hK _ ?_; clear hK K
    refine wpMix_skip (by kernel_rfl) (fun K hK => ?_)
    simp only [Act.put, List.setIfInBounds_toArray, List.set_cons_zero, List.set_cons_succ]
    refine hK _ ?_; clear hK K
    refine wpMix_skip (by kernel_rfl) (fun K hK => ?_)
    simp only [Act.put, List.setIfInBounds_toArray, List.set_cons_zero, List.set_cons_succ]
    refine hK _ ?_; clear hK K
    refine wpMix_skip (by kernel_rfl) (fun K hK => ?_)
    simp only [Act.put, List.setIfInBounds_toArray, List.set_cons_zero, List.set_cons_succ]
    refine hK _ ?_; clear hK K
    refine wpMix_skip (by kernel_rfl) (fun K hK => ?_)
    simp only [Act.put, List.setIfInBounds_toArray, List.set_cons_zero, List.set_cons_succ]
    refine hK _ ?_; clear hK K
    refine wpMix_skip (by kernel_rfl) (fun K hK => ?_)
    simp only [Act.put, List.setIfInBounds_toArray, List.set_cons_zero, List.set_cons_succ]
    refine hK _ ?_; clear hK K
    refine wpMix_pure (by kernel_rfl) (fun K hK => ?_); go_big_quiet_op; refine hK _ ?_; clear hK K
    refine wpMix_pure (by kernel_rfl) (fun K hK => ?_); go_big_quiet_op; refine hK _ ?_; clear hK K
    refine wpMix_skip (by kernel_rfl) (fun K hK => ?_)
    simp only [Act.put, List.setIfInBounds_toArray, List.set_cons_zero, List.set_cons_succ]
    refine hK _ ?_; clear hK K
    refine wpMix_skip (by kernel_rfl) (fun K hK => ?_)
    simp only [Act.put, List.setIfInBounds_toArray, List.set_cons_zero, List.set_cons_succ]
    refine hK _ ?_; clear hK K
    refine wpMix_skip (by kernel_rfl) (fun K hK => ?_)
    simp only [Act.put, List.setIfInBounds_toArray, List.set_cons_zero, List.set_cons_succ]
    refine hK _ ?_; clear hK K
    refine wpMix_skip (by kernel_rfl) (fun K hK => ?_)
    simp only [Act.put, List.setIfInBounds_toArray, List.set_cons_zero, List.set_cons_succ]
    refine hK _ ?_; clear hK K
    refine wpMix_skip (by kernel_rfl) (fun K hK => ?_)
    simp only [Act.put, List.setIfInBounds_toArray, List.set_cons_zero, List.set_cons_succ]
    refine hK _ ?_; clear hK K
    refine wpMix_pure (by kernel_rfl) (fun K hK => ?_); go_big_quiet_op; refine hK _ ?_; clear hK K
    refine wpMix_pure (by kernel_rfl) (fun K hK => ?_); go_big_quiet_op; refine hK _ ?_; clear hK K
    refine wpMix_skip (by kernel_rfl) (fun K hK => ?_)
    simp only [Act.put, List.setIfInBounds_toArray, List.set_cons_zero, List.set_cons_succ]
    refine hK _ ?_; clear hK K
    refine wpMix_skip (by kernel_rfl) (fun K hK => ?_)
    simp only [Act.put, List.setIfInBounds_toArray, List.set_cons_zero, List.set_cons_succ]
    refine hK _ ?_; clear hK K
    refine wpMix_skip (by kernel_rfl) (fun K hK => ?_)
    simp only [Act.put, List.setIfInBounds_toArray, List.set_cons_zero, List.set_cons_succ]
    refine hK _ ?_; clear hK K
    refine wpMix_skip (by kernel_rfl) (fun K hK => ?_)
    simp only [Act.put, List.setIfInBounds_toArray, List.set_cons_zero, List.set_cons_succ]
    refine hK _ ?_; clear hK K
    refine wpMix_skip (by kernel_rfl) (fun K hK => ?_)
    simp only [Act.put, List.setIfInBounds_toArray, List.set_cons_zero, List.set_cons_succ]
    refine hK _ ?_; clear hK K
    refine wpMix_pure (by kernel_rfl) (fun K hK => ?_); go_big_quiet_op; refine hK _ ?_; clear hK K
    refine wpMix_pure (by kernel_rfl) (fun K hK => ?_); go_big_quiet_op; refine hK _ ?_; clear hK K
    refine wpMix_skip (by kernel_rfl) (fun K hK => ?_)
    simp only [Act.put, List.setIfInBounds_toArray, List.set_cons_zero, List.set_cons_succ]
    refine hK _ ?_; clear hK K
    refine wpMix_skip (by kernel_rfl) (fun K hK => ?_)
    simp only [Act.put, List.setIfInBounds_toArray, List.set_cons_zero, List.set_cons_succ]
    refine hK _ ?_; clear hK K
    refine wpMix_skip (by kernel_rfl) (fun K hK => ?_)
    simp only [Act.put, List.setIfInBounds_toArray, List.set_cons_zero, List.set_cons_succ]
    refine hK _ ?_; clear hK K
    refine wpMix_skip (by kernel_rfl) (fun K hK => ?_)
    simp only [Act.put, List.setIfInBounds_toArray, List.set_cons_zero, List.set_cons_succ]
    refine hK _ ?_; clear hK K
    refine wpMix_skip (by kernel_rfl) (fun K hK => ?_)
    simp only [Act.put, List.setIfInBounds_toArray, List.set_cons_zero, List.set_cons_succ]
    refine hK _ ?_; clear hK K
    refine wpMix_pure (by kernel_rfl) (fun K hK => ?_); go_big_quiet_op; refine hK _ ?_; clear hK K
    refine wpMix_pure (by kernel_rfl) (fun K hK => ?_); go_big_quiet_op; refine hK _ ?_; clear hK K
    refine wpMix_skip (by kernel_rfl) (fun K hK => ?_)
    simp only [Act.put, List.setIfInBounds_toArray, List.set_cons_zero, List.set_cons_succ]
    refine hK _ ?_; clear hK K
    refine wpMix_skip (by kernel_rfl) (fun K hK => ?_)
    simp only [Act.put, List.setIfInBounds_toArray, List.set_cons_zero, List.set_cons_succ]
    refine hK _ ?_; clear hK K
    refine wpMix_skip (by kernel_rfl) (fun K hK => ?_)
    simp only [Act.put, List.setIfInBounds_toArray, List.set_cons_zero, List.set_cons_succ]
    refine hK _ ?_; clear hK K
    refine wpMix_skip (by kernel_rfl) (fun K hK => ?_)
    simp only [Act.put, List.setIfInBounds_toArray, List.set_cons_zero, List.set_cons_succ]
    refine hK _ ?_; clear hK K
    refine wpMix_skip (by kernel_rfl) (fun K hK => ?_)
    simp only [Act.put, List.setIfInBounds_toArray, List.set_cons_zero, List.set_cons_succ]
    refine hK _ ?_; clear hK K
    refine wpMix_skip (by kernel_rfl) (fun K hK => ?_)
    simp only [Act.put, List.setIfInBounds_toArray, List.set_cons_zero, List.set_cons_succ]
    refine hK _ ?_; clear hK K
    refine wpMix_skip (by kernel_rfl) (fun K hK => ?_)
    simp only [Act.put, List.setIfInBounds_toArray, List.set_cons_zero, List.set_cons_succ]
    refine hK _ ?_; clear hK K
    refine wpMix_skip (by kernel_rfl) (fun K hK => ?_)
    simp only [Act.put, List.setIfInBounds_toArray, List.set_cons_zero, List.set_cons_succ]
    refine hK _ ?_; clear hK K
    refine wpMix_skip (by kernel_rfl) (fun K hK => ?_)
    simp only [Act.put, List.setIfInBounds_toArray, List.set_cons_zero, List.set_cons_succ]
    refine hK _ ?_; clear hK K
    refine wpMix_pure (by kernel_rfl) (fun K hK => ?_); go_big_quiet_op; refine hK _ ?_; clear hK K
    refine wpMix_pure (by kernel_rfl) (fun K hK => ?_); go_big_quiet_op; refine hK _ ?_; clear hK K
    refine wpMix_nil ?_
    go_wp2
    go_ret
    exact ⟨ret_bool (by simp [incB, *]), hS0⟩
  · skip
    refine wpMix_pure (by kernel_rfl) (fun K hK => ?_); go_big_quiet_op; refine hK _ ?_; clear hK K
    refine wpMix_pure (by kernel_rfl) (fun K hK => ?_); go_big_quiet_op; refine hK _ ?_; clear hK K
    refine wpMix_pure (by kernel_rfl) (fun K hK => ?_); go_big_quiet_op; refine hK _ ?_; clear hK K
    refine wpMix_pure (by kernel_rfl) (fun K hK => ?_); go_big_quiet_op; refine hK _ ?_; clear hK K
    refine wpMix_pure (by kernel_rfl) (fun K hK => ?_); go_big_quiet_op; refine hK _ ?_; clear hK K
    refine wpMix_act (by kernel_rfl) (fun K hK => ?_)
    go_big_op
    refine (l01Name_any _ _ k1').mono ?_
    rintro e w' ⟨rfl, rfl⟩
    refine hK _ _ (regrown_of_below hS0) ?_
    clear hK K
    cases hq10 : nameB x.place
    · skip
      refine wpMix_pure (by kernel_rfl) (fun K hK => ?_); go_big_quiet_op; refine hK _ ?_; clear hK K
      refine wpMix_pure (by kernel_rfl) (fun K hK => ?_); go_big_quiet_op; refine hK _ ?_; clear hK K
      refine wpMix_skip (by kernel_rfl) (fun K hK => ?_)
      simp only [Act.put, List.setIfInBounds_toArray, List.set_cons_zero, List.set_cons_succ]
      refine hK _ ?_; clear hK K
      refine wpMix_skip (by kernel_rfl) (fun K hK => ?_)
      simp only [Act.put, List.setIfInBounds_toArray, List.set_cons_zero, List.set_cons_succ]
      refine hK _ ?_; clear hK K
      refine wpMix_skip (by kernel_rfl) (fun K hK => ?_)
      simp only [Act.put, List.setIfInBounds_toArray, List.set_cons_zero, List.set_cons_succ]
      refine hK _ ?_; clear hK K
      refine wpMix_skip (by kernel_rfl) (fun K hK => ?_)
      simp only [Act.put, List.setIfInBounds_toArray, List.set_cons_zero, List.set_cons_succ]
      refine hK _ ?_; clear hK K
      refine wpMix_skip (by kernel_rfl) (fun K hK => ?_)
      simp only [Act.put, List.setIfInBounds_toArray, List.set_cons_zero, List.set_cons_succ]
      refine hK _ ?_; clear hK K
      refine wpMix_pure (by kernel_rfl) (fun K hK => ?_); go_big_quiet_op; refine hK _ ?_; clear hK K
      refine wpMix_pure (by kernel_rfl) (fun K hK => ?_); go_big_quiet_op; refine hK _ ?_; clear hK K
      refine wpMix_skip (by kernel_rfl) (fun K hK => ?_)
      simp only [Act.put, List.setIfInBounds_toArray, List.set_cons_zero, List.set_cons_succ]
      refine hK _ ?_; clear hK K
      refine wpMix_skip (by kernel_rfl) (fun K hK => ?_)
      simp only [Act.put, List.setIfInBounds_toArray, List.set_cons_zero, List.set_cons_succ]
      refine hK _ ?_; clear hK K
      refine wpMix_skip (by kernel_rfl) (fun K hK => ?_)
      simp only [Act.put, List.setIfInBounds_toArray, List.set_cons_zero, List.set_cons_succ]
      refine hK _ ?_; clear hK K
      refine wpMix_skip (by kernel_rfl) (fun K hK => ?_)
      simp only [Act.put, List.setIfInBounds_toArray, List.set_cons_zero, List.set_cons_succ]
      refine hK _ ?_; clear hK K
      refine wpMix_skip (by kernel_rfl) (fun K hK => ?_)
      simp only [Act.put, List.setIfInBounds_toArray, List.set_cons_zero, List.set_cons_succ]
      refine hK _ ?_; clear hK K
      refine wpMix_pure (by kernel_rfl) (fun K hK => ?_); go_big_quiet_op; refine hK _ ?_; clear hK K
      refine wpMix_pure (by kernel_rfl) (fun K hK => ?_); go_big_quiet_op; refine hK _ ?_; clear hK K
      refine wpMix_skip (by kernel_rfl) (fun K hK => ?_)
      simp only [Act.put, List.setIfInBounds_toArray, List.set_cons_zero, List.set_cons_succ]
      refine hK _ ?_; clear hK K
      refine wpMix_skip (by kernel_rfl) (fun K hK => ?_)
      simp only [Act.put, List.setIfInBounds_toArray, List.set_cons_zero, List.set_cons_succ]
      refine hK _ ?_; clear hK K
      refine wpMix_skip (by kernel_rfl) (fun K hK => ?_)
      simp only [Act.put, List.setIfInBounds_toArray, List.set_cons_zero, List.set_cons_succ]
      refine hK _ ?_; clear hK K
      refine wpMix_skip (by kernel_rfl) (fun K hK => ?_)
      simp only [Act.put, List.setIfInBounds_toArray, List.set_cons_zero, List.set_cons_succ]
      refine hK _ ?_; clear hK K
      refine wpMix_skip (by kernel_rfl) (fun K hK => ?_)
      simp only [Act.put, List.setIfInBounds_toArray, List.set_cons_zero, List.set_cons_succ]
      refine hK _ ?_; clear hK K
      refine wpMix_pure (by kernel_rfl) (fun K hK => ?_); go_big_quiet_op; refine hK _ ?_; clear hK K
      refine wpMix_pure (by kernel_rfl) (fun K hK => ?_); go_big_quiet_op; refine hK _ ?_; clear hK K
      refine wpMix_skip (by kernel_rfl) (fun K hK => ?_)
      simp only [Act.put, List.setIfInBounds_toArray, List.set_cons_zero, List.set_cons_succ]
      refine hK _ ?_; clear hK K
      refine wpMix_skip (by kernel_rfl) (fun K hK => ?_)
      simp only [Act.put, List.setIfInBounds_toArray, List.set_cons_zero, List.set_cons_succ]
      refine hK _ ?_; clear hK K
      refine wpMix_skip (by kernel_rfl) (fun K hK => ?_)
      simp only [Act.put, List.setIfInBounds_toArray, List.set_cons_zero, List.set_cons_succ]
      refine hK _ ?_; clear hK K
      refine wpMix_skip (by kernel_rfl) (fun K hK => ?_)
      simp only [Act.put, List.setIfInBounds_toArray, List.set_cons_zero, List.set_cons_succ]
      refine hK _ ?_; clear hK K
      refine wpMix_skip (by kernel_rfl) (fun K hK => ?_)
      simp only [Act.put, List.setIfInBounds_toArray, List.set_cons_zero, List.set_cons_succ]
      refine hK _ ?_; clear hK K
      refine wpMix_skip (by kernel_rfl) (fun K hK => ?_)
      simp only [Act.put, List.setIfInBounds_toArray, List.set_cons_zero, List.set_cons_succ]
      refine hK _ ?_; clear hK K
      refine wpMix_skip (by kernel_rfl) (fun K hK => ?_)
      simp only [Act.put, List.setIfInBounds_toArray, List.set_cons_zero, List.set_cons_succ]
      refine hK _ ?_; clear hK K
      refine wpMix_skip (by kernel_rfl) (fun K hK => ?_)
      simp only [Act.put, List.setIfInBounds_toArray, List.set_cons_zero, List.set_cons_succ]
      refine hK _ ?_; clear hK K
      refine wpMix_skip (by kernel_rfl) (fun K hK => ?_)
      simp only [Act.put, List.setIfInBounds_toArray, List.set_cons_zero, List.set_cons_succ]
      refine hK _ ?_; clear hK K
      refine wpMix_pure (by kernel_rfl) (fun K hK => ?_); go_big_quiet_op; refine hK _ ?_; clear hK K
      refine wpMix_pure (by kernel_rfl) (fun K hK => ?_); go_big_quiet_op; refine hK _ ?_; clear hK K
      refine wpMix_nil ?_
      go_wp2
      go_ret
      exact ⟨ret_bool (by simp [incB, *]), hS0⟩
    · skip
      refine wpMix_pure (by kernel_rfl) (fun K hK => ?_); go_big_quiet_op; refine hK _ ?_; clear hK K
      refine wpMix_pure (by kernel_rfl) (fun K hK => ?_); go_big_quiet_op; refine hK _ ?_; clear hK K
      refine wpMix_pure (by kernel_rfl) (fun K hK => ?_); go_big_quiet_op; refine hK _ ?_; clear hK K
      refine wpMix_pure (by kernel_rfl) (fun K hK => ?_); go_big_quiet_op; refine hK _ ?_; clear hK K
      refine wpMix_pure (by kernel_rfl) (fun K hK => ?_); go_big_quiet_op; refine hK _ ?_; clear hK K
      refine wpMix_pure (by kernel_rfl) (fun K hK => ?_); go_big_quiet_op; refine hK _ ?_; clear hK K
      refine wpMix_act (by kernel_rfl) (fun K hK => ?_)
      go_big_op
      refine (l01Name_any _ _ k2').mono ?_
      rintro e w' ⟨rfl, rfl⟩
      refine hK _ _ (regrown_of_below hS0) ?_
      clear hK K
      cases hq17 : nameB x.cause
      · skip
        refine wpMix_pure (by kernel_rfl) (fun K hK => ?_); go_big_quiet_op; refine hK _ ?_; clear hK K
        refine wpMix_pure (by kernel_rfl) (fun K hK => ?_); go_big_quiet_op; refine hK _ ?_; clear hK K
        refine wpMix_skip (by kernel_rfl) (fun K hK => ?_)
        simp only [Act.put, List.setIfInBounds_toArray, List.set_cons_zero, List.set_cons_succ]
        refine hK _ ?_; clear hK K
        refine wpMix_skip (by kernel_rfl) (fun K hK => ?_)
        simp only [Act.put, List.setIfInBounds_toArray, List.set_cons_zero, List.set_cons_succ]
        refine hK _ ?_; clear hK K
        refine wpMix_skip (by kernel_rfl) (fun K hK => ?_)
        simp only [Act.put, List.setIfInBounds_toArray, List.set_cons_zero, List.set_cons_succ]
        refine hK _ ?_; clear hK K
        refine wpMix_skip (by kernel_rfl) (fun K hK => ?_)
        simp only [Act.put, List.setIfInBounds_toArray, List.set_cons_zero, List.set_cons_succ]
        refine hK _ ?_; clear hK K
        refine wpMix_skip (by kernel_rfl) (fun K hK => ?_)
        simp only [Act.put, List.setIfInBounds_toArray, List.set_cons_zero, List.set_cons_succ]
        refine hK _ ?_; clear hK K
        refine wpMix_pure (by kernel_rfl) (fun K hK => ?_); go_big_quiet_op; refine hK _ ?_; clear hK K
        refine wpMix_pure (by kernel_rfl) (fun K hK => ?_); go_big_quiet_op; refine hK _ ?_; clear hK K
        refine wpMix_skip (by kernel_rfl) (fun K hK => ?_)
        simp only [Act.put, List.setIfInBounds_toArray, List.set_cons_zero, List.set_cons_succ]
        refine hK _ ?_; clear hK K
        refine wpMix_skip (by kernel_rfl) (fun K hK => ?_)
        simp only [Act.put, List.setIfInBounds_toArray, List.set_cons_zero, List.set_cons_succ]
        refine hK _ ?_; clear hK K
        refine wpMix_skip (by kernel_rfl) (fun K hK => ?_)
        simp only [Act.put, List.setIfInBounds_toArray, List.set_cons_zero, List.set_cons_succ]
        refine hK _ ?_; clear hK K
        refine wpMix_skip (by kernel_rfl) (fun K hK => ?_)
        simp only [Act.put, List.setIfInBounds_toArray, List.set_cons_zero, List.set_cons_succ]
        refine hK _ ?_; clear hK K
        refine wpMix_skip (by kernel_rfl) (fun K hK => ?_)
        simp only [Act.put, List.setIfInBounds_toArray, List.set_cons_zero, List.set_cons_succ]
        refine hK _ ?_; clear hK K
        refine wpMix_pure (by kernel_rfl) (fun K hK => ?_); go_big_quiet_op; refine hK _ ?_; clear hK K
        refine wpMix_pure (by kernel_rfl) (fun K hK => ?_); go_big_quiet_op; refine hK _ ?_; clear hK K
        refine wpMix_skip (by kernel_rfl) (fun K hK => ?_)
        simp only [Act.put, List.setIfInBounds_toArray, List.set_cons_zero, List.set_cons_succ]
        refine hK _ ?_; clear hK K
        refine wpMix_skip (by kernel_rfl) (fun K hK => ?_)
        simp only [Act.put, List.setIfInBounds_toArray, List.set_cons_zero, List.set_cons_succ]
        refine hK _ ?_; clear hK K
        refine wpMix_skip (by kernel_rfl) (fun K hK => ?_)
        simp only [Act.put, List.setIfInBounds_toArray, List.set_cons_zero, List.set_cons_succ]
        refine hK _ ?_; clear hK K
        refine wpMix_skip (by kernel_rfl) (fun K hK => ?_)
        simp only [Act.put, List.setIfInBounds_toArray, List.set_cons_zero, List.set_cons_succ]
        refine hK _ ?_; clear hK K
        refine wpMix_skip (by kernel_rfl) (fun K hK => ?_)
        simp only [Act.put, List.setIfInBounds_toArray, List.set_cons_zero, List.set_cons_succ]
        refine hK _ ?_; clear hK K
        refine wpMix_skip (by kernel_rfl) (fun K hK => ?_)
        simp only [Act.put, List.setIfInBounds_toArray, List.set_cons_zero, List.set_cons_succ]
        refine hK _ ?_; clear hK K
        refine wpMix_skip (by kernel_rfl) (fun K hK => ?_)
        simp only [Act.put, List.setIfInBounds_toArray, List.set_cons_zero, List.set_cons_succ]
        refine hK _ ?_; clear hK K
        refine wpMix_skip (by kernel_rfl) (fun K hK => ?_)
        simp only [Act.put, List.setIfInBounds_toArray, List.set_cons_zero, List.set_cons_succ]
        refine hK _ ?_; clear hK K
        refine wpMix_skip (by kernel_rfl) (fun K hK => ?_)
        simp only [Act.put, List.setIfInBounds_toArray, List.set_cons_zero, List.set_cons_succ]
        refine hK _ ?_; clear hK K
        refine wpMix_pure (by kernel_rfl) (fun K hK => ?_); go_big_quiet_op; refine hK _ ?_; clear hK K
        refine wpMix_pure (by kernel_rfl) (fun K hK => ?_); go_big_quiet_op; refine hK _ ?_; clear hK K
        refine wpMix_nil ?_
        go_wp2
        go_ret
        exact ⟨ret_bool (by simp [incB, *]), hS0⟩
      · skip
        refine wpMix_pure (by kernel_rfl) (fun K hK => ?_); go_big_quiet_op; refine hK _ ?_; clear hK K
        refine wpMix_pure (by kernel_rfl) (fun K hK => ?_); go_big_quiet_op; refine hK _ ?_; clear hK K
        refine wpMix_pure (by kernel_rfl) (fun K hK => ?_); go_big_quiet_op; refine hK _ ?_; clear hK K
        refine wpMix_pure (by kernel_rfl) (fun K hK => ?_); go_big_quiet_op; refine hK _ ?_; clear hK K
        refine wpMix_pure (by kernel_rfl) (fun K hK => ?_); go_big_quiet_op; refine hK _ ?_; clear hK K
        refine wpMix_pure (by kernel_rfl) (fun K hK => ?_); go_big_quiet_op; refine hK _ ?_; clear hK K
        refine wpMix_act (by kernel_rfl) (fun K hK => ?_)
        go_big_op
        refine (l17IsV_any _ _).mono ?_
        rintro e w' ⟨rfl, rfl⟩
        refine hK _ _ (regrown_of_below hS0) ?_
        clear hK K
        cases hq24 : inB x.level 1 5
        · skip
          refine wpMix_pure (by kernel_rfl) (fun K hK => ?_); go_big_quiet_op; refine hK _ ?_; clear hK K
          refine wpMix_pure (by kernel_rfl) (fun K hK => ?_); go_big_quiet_op; refine hK _ ?_; clear hK K
          refine wpMix_skip (by kernel_rfl) (fun K hK => ?_)
          simp only [Act.put, List.setIfInBounds_toArray, List.set_cons_zero, List.set_cons_succ]
          refine hK _ ?_; clear hK K
          refine wpMix_skip (by kernel_rfl) (fun K hK => ?_)
          simp only [Act.put, List.setIfInBounds_toArray, List.set_cons_zero, List.set_cons_succ]
          refine hK _ ?_; clear hK K
          refine wpMix_skip (by kernel_rfl) (fun K hK => ?_)
          simp only [Act.put, List.setIfInBounds_toArray, List.set_cons_zero, List.set_cons_succ]
          refine hK _ ?_; clear hK K
          refine wpMix_skip (by kernel_rfl) (fun K hK => ?_)
          simp only [Act.put, List.setIfInBounds_toArray, List.set_cons_zero, List.set_cons_succ]
          refine hK _ ?_; clear hK K
          refine wpMix_skip (by kernel_rfl) (fun K hK => ?_)
          simp only [Act.put, List.setIfInBounds_toArray, List.set_cons_zero, List.set_cons_succ]
          refine hK _ ?_; clear hK K
          refine wpMix_pure (by kernel_rfl) (fun K hK => ?_); go_big_quiet_op; refine hK _ ?_; clear hK K
          refine wpMix_pure (by kernel_rfl) (fun K hK => ?_); go_big_quiet_op; refine hK _ ?_; clear hK K
          refine wpMix_skip (by kernel_rfl) (fun K hK => ?_)
          simp only [Act.put, List.setIfInBounds_toArray, List.set_cons_zero, List.set_cons_succ]
          refine hK _ ?_; clear hK K
          refine wpMix_skip (by kernel_rfl) (fun K hK => ?_)
          simp only [Act.put, List.setIfInBounds_toArray, List.set_cons_zero, List.set_cons_succ]
          refine hK _ ?_; clear hK K
          refine wpMix_skip (by kernel_rfl) (fun K hK => ?_)
          simp only [Act.put, List.setIfInBounds_toArray, List.set_cons_zero, List.set_cons_succ]
          refine hK _ ?_; clear hK K
          refine wpMix_skip (by kernel_rfl) (fun K hK => ?_)
          simp only [Act.put, List.setIfInBounds_toArray, List.set_cons_zero, List.set_cons_succ]
          refine hK _ ?_; clear hK K
          refine wpMix_skip (by kernel_rfl) (fun K hK => ?_)
          simp only [Act.put, List.setIfInBounds_toArray, List.set_cons_zero, List.set_cons_succ]
          refine hK _ ?_; clear hK K
          refine wpMix_skip (by kernel_rfl) (fun K hK => ?_)
          simp only [Act.put, List.setIfInBounds_toArray, List.set_cons_zero, List.set_cons_succ]
          refine hK _ ?_; clear hK K
          refine wpMix_skip (by kernel_rfl) (fun K hK => ?_)
          simp only [Act.put, List.setIfInBounds_toArray, List.set_cons_zero, List.set_cons_succ]
          refine hK _ ?_; clear hK K
          refine wpMix_skip (by kernel_rfl) (fun K hK => ?_)
          simp only [Act.put, List.setIfInBounds_toArray, List.set_cons_zero, List.set_cons_succ]
          refine hK _ ?_; clear hK K
          refine wpMix_skip (by kernel_rfl) (fun K hK => ?_)
          simp only [Act.put, List.setIfInBounds_toArray, List.set_cons_zero, List.set_cons_succ]
          refine hK _ ?_; clear hK K
          refine wpMix_pure (by kernel_rfl) (fun K hK => ?_); go_big_quiet_op; refine hK _ ?_; clear hK K
          refine wpMix_pure (by kernel_rfl) (fun K hK => ?_); go_big_quiet_op; refine hK _ ?_; clear hK K
          refine wpMix_nil ?_
          go_wp2
          go_ret
          exact ⟨ret_bool (by simp [incB, *]), hS0⟩
        · skip
          refine wpMix_pure (by kernel_rfl) (fun K hK => ?_); go_big_quiet_op; refine hK _ ?_; clear hK K
          refine wpMix_pure (by kernel_rfl) (fun K hK => ?_); go_big_quiet_op; refine hK _ ?_; clear hK K
          refine wpMix_pure (by kernel_rfl) (fun K hK => ?_); go_big_quiet_op; refine hK _ ?_; clear hK K
          refine wpMix_pure (by kernel_rfl) (fun K hK => ?_); go_big_quiet_op; refine hK _ ?_; clear hK K
          refine wpMix_pure (by kernel_rfl) (fun K hK => ?_); go_big_quiet_op; refine hK _ ?_; clear hK K
          refine wpMix_pure (by kernel_rfl) (fun K hK => ?_); go_big_quiet_op; refine hK _ ?_; clear hK K
          refine wpMix_act (by kernel_rfl) (fun K hK => ?_)
          go_big_op
          refine (l00InB_any _ _ _ _).mono ?_
          rintro e w' ⟨rfl, rfl⟩
          refine hK _ _ (regrown_of_below hS0) ?_
          clear hK K
          cases hq31 : inB x.caught 0 20
          · skip
            refine wpMix_pure (by kernel_rfl) (fun K hK => ?_); go_big_quiet_op; refine hK _ ?_; clear hK K
            refine wpMix_pure (by kernel_rfl) (fun K hK => ?_); go_big_quiet_op; refine hK _ ?_; clear hK K
            refine wpMix_skip (by kernel_rfl) (fun K hK => ?_)
            simp only [Act.put, List.setIfInBounds_toArray, List.set_cons_zero, List.set_cons_succ]
            refine hK _ ?_; clear hK K
            refine wpMix_skip (by kernel_rfl) (fun K hK => ?_)
            simp only [Act.put, List.setIfInBounds_toArray, List.set_cons_zero, List.set_cons_succ]
            refine hK _ ?_; clear hK K
            refine wpMix_skip (by kernel_rfl) (fun K hK => ?_)
            simp only [Act.put, List.setIfInBounds_toArray, List.set_cons_zero, List.set_cons_succ]
            refine hK _ ?_; clear hK K
            refine wpMix_skip (by kernel_rfl) (fun K hK => ?_)
            simp only [Act.put, List.setIfInBounds_toArray, List.set_cons_zero, List.set_cons_succ]
            refine hK _ ?_; clear hK K
            refine wpMix_skip (by kernel_rfl) (fun K hK => ?_)
            simp only [Act.put, List.setIfInBounds_toArray, List.set_cons_zero, List.set_cons_succ]
            refine hK _ ?_; clear hK K
            refine wpMix_skip (by kernel_rfl) (fun K hK => ?_)
            simp only [Act.put, List.setIfInBounds_toArray, List.set_cons_zero, List.set_cons_succ]
            refine hK _ ?_; clear hK K
            refine wpMix_skip (by kernel_rfl) (fun K hK => ?_)
            simp only [Act.put, List.setIfInBounds_toArray, List.set_cons_zero, List.set_cons_succ]
            refine hK _ ?_; clear hK K
            refine wpMix_skip (by kernel_rfl) (fun K hK => ?_)
            simp only [Act.put, List.setIfInBounds_toArray, List.set_cons_zero, List.set_cons_succ]
            refine hK _ ?_; clear hK K
            refine wpMix_skip (by kernel_rfl) (fun K hK => ?_)
            simp only [Act.put, List.setIfInBounds_toArray, List.set_cons_zero, List.set_cons_succ]
            refine hK _ ?_; clear hK K
            refine wpMix_pure (by kernel_rfl) (fun K hK => ?_); go_big_quiet_op; refine hK _ ?_; clear hK K
            refine wpMix_pure (by kernel_rfl) (fun K hK => ?_); go_big_quiet_op; refine hK _ ?_; clear hK K
            refine wpMix_nil ?_
            go_wp2
            go_ret
            exact ⟨ret_bool (by simp [incB, *]), hS0⟩
          · skip
            refine wpMix_pure (by kernel_rfl) (fun K hK => ?_); go_big_quiet_op; refine hK _ ?_; clear hK K
            refine wpMix_pure (by kernel_rfl) (fun K hK => ?_); go_big_quiet_op; refine hK _ ?_; clear hK K
            refine wpMix_pure (by kernel_rfl) (fun K hK => ?_); go_big_quiet_op; refine hK _ ?_; clear hK K
            refine wpMix_pure (by kernel_rfl) (fun K hK => ?_); go_big_quiet_op; refine hK _ ?_; clear hK K
            refine wpMix_pure (by kernel_rfl) (fun K hK => ?_); go_big_quiet_op; refine hK _ ?_; clear hK K
            refine wpMix_pure (by kernel_rfl) (fun K hK => ?_); go_big_quiet_op; refine hK _ ?_; clear hK K
            refine wpMix_pure (by kernel_rfl) (fun K hK => ?_); go_big_quiet_op; refine hK _ ?_; clear hK K
            refine wpMix_pure (by kernel_rfl) (fun K hK => ?_); go_big_quiet_op; refine hK _ ?_; clear hK K
            refine wpMix_pure (by kernel_rfl) (fun K hK => ?_); go_big_quiet_op; refine hK _ ?_; clear hK K
            refine wpMix_pure (by kernel_rfl) (fun K hK => ?_); go_big_quiet_op; refine hK _ ?_; clear hK K
            refine wpMix_act (by kernel_rfl) (fun K hK => ?_)
            go_big_op
            refine (l00InB_any _ _ _ _).mono ?_
            rintro e w' ⟨rfl, rfl⟩
            refine hK _ _ (regrown_of_below hS0) ?_
            clear hK K
            cases hq42 : inB x.buried 0 x.caught
            · skip
              refine wpMix_pure (by kernel_rfl) (fun K hK => ?_); go_big_quiet_op; refine hK _ ?_; clear hK K
              refine wpMix_pure (by kernel_rfl) (fun K hK => ?_); go_big_quiet_op; refine hK _ ?_; clear hK K
              refine wpMix_nil ?_
              go_wp2
              go_ret
              exact ⟨ret_bool (by simp [incB, *]), hS0⟩
            · skip
              refine wpMix_pure (by kernel_rfl) (fun K hK => ?_); go_big_quiet_op; refine hK _ ?_; clear hK K
              refine wpMix_pure (by kernel_rfl) (fun K hK => ?_); go_big_quiet_op; refine hK _ ?_; clear hK K
              refine wpMix_nil ?_
              go_wp2
              go_ret
              exact ⟨ret_bool (by simp [incB, *]), hS0⟩
set_option maxRecDepth 100000 in
set_option maxHeartbeats 4000000 in
theorem incValid_any (x : DIncident) (w : World) (hok : fIncident.ok x) :
    Calls Tryz.prog 66 #[.agg #[.int .i64 x.day, .string x.place, .string x.cause, .int .i64 x.level, .int .i64 x.caught, .int .i64 x.buried]] w fun e w' => e = .returned (.bool (incB x)) ∧ Below w.heap.size w w' := by
  obtain ⟨_, k1, k2, _⟩ := id hok
  have k1' : x.place.size ≤ 9223372036854775807 := k1
  have k2' : x.cause.size ≤ 9223372036854775807 := k2
  clear k1 k2 hok
  have HV := Lib.hid (incV x)
  go_enter Tryz.func66, Tryz.ntmps66
  go_wp2_with fail
  refine (dayValid_any _ _).mono ?_
  rintro e w' ⟨rfl, rfl⟩
  cases hq0 : inB x.day 0 36524
  · have HX : Hid (incB x = false) := by show _ = _; rw [HV.out, hq0]; rfl
    go_wp2
    go_ret
    exact ⟨ret_bool HX.out.symm, (Below.refl _ _).alloc (Nat.le_refl _) _⟩
  · have HX : Hid (incB x = (nameB x.place && (nameB x.cause && (inB x.level 1 5 && (inB x.caught 0 20 && (inB x.buried 0 x.caught)))))) := by show _ = _; rw [HV.out, hq0]; rfl
    go_wp2_with fail
    refine (implIsName_any _ _ k1').mono ?_
    rintro e w' ⟨rfl, rfl⟩
    cases hq1 : nameB x.place
    · have HX : Hid (incB x = false) := by show _ = _; rw [HV.out, hq0, hq1]; rfl
      go_wp2
      go_ret
      exact ⟨ret_bool HX.out.symm, (Below.refl _ _).alloc (Nat.le_refl _) _⟩
    · have HX : Hid (incB x = (nameB x.cause && (inB x.level 1 5 && (inB x.caught 0 20 && (inB x.buried 0 x.caught))))) := by show _ = _; rw [HV.out, hq0, hq1]; rfl
      go_wp2_with fail
      refine (implIsName_any _ _ k2').mono ?_
      rintro e w' ⟨rfl, rfl⟩
      cases hq2 : nameB x.cause
      · have HX : Hid (incB x = false) := by show _ = _; rw [HV.out, hq0, hq1, hq2]; rfl
        go_wp2
        go_ret
        exact ⟨ret_bool HX.out.symm, (Below.refl _ _).alloc (Nat.le_refl _) _⟩
      · have HX : Hid (incB x = (inB x.level 1 5 && (inB x.caught 0 20 && (inB x.buried 0 x.caught)))) := by show _ = _; rw [HV.out, hq0, hq1, hq2]; rfl
        go_wp2_with fail
        refine (levelOkV_any _ _).mono ?_
        rintro e w' ⟨rfl, rfl⟩
        cases hq3 : inB x.level 1 5
        · have HX : Hid (incB x = false) := by show _ = _; rw [HV.out, hq0, hq1, hq2, hq3]; rfl
          go_wp2
          go_ret
          exact ⟨ret_bool HX.out.symm, (Below.refl _ _).alloc (Nat.le_refl _) _⟩
        · have HX : Hid (incB x = (inB x.caught 0 20 && (inB x.buried 0 x.caught))) := by show _ = _; rw [HV.out, hq0, hq1, hq2, hq3]; rfl
          go_wp2_with fail
          refine (withinB_any _ _ _ _).mono ?_
          rintro e w' ⟨rfl, rfl⟩
          cases hq4 : inB x.caught 0 20
          · have HX : Hid (incB x = false) := by show _ = _; rw [HV.out, hq0, hq1, hq2, hq3, hq4]; rfl
            go_wp2
            go_ret
            exact ⟨ret_bool HX.out.symm, (Below.refl _ _).alloc (Nat.le_refl _) _⟩
          · have HX : Hid (incB x = (inB x.buried 0 x.caught)) := by show _ = _; rw [HV.out, hq0, hq1, hq2, hq3, hq4]; rfl
            go_wp2_with fail
            refine (withinB_any _ _ _ _).mono ?_
            rintro e w' ⟨rfl, rfl⟩
            rw [← HX.out]
            go_wp2
            go_ret
            exact ⟨rfl, (Below.refl _ _).alloc (Nat.le_refl _) _⟩
end Go.Proofs.YthabmofkjdiccaaGreatDoor

namespace Go.Proofs.YthabmofkjdiccaaGreatDoor
open Go.RowKit
set_option linter.unusedVariables false

def cmT (a b : ByteArray) : Int := if ltS a b then -1 else if ltS b a then 1 else 0
theorem cmT_zero {a b : ByteArray} : cmT a b = 0 ↔ a = b := by
  unfold cmT
  constructor
  · intro h
    cases h1 : ltS a b with
    | true => rw [h1] at h; simp at h
    | false =>
      cases h2 : ltS b a with
      | true => rw [h1, h2] at h; simp at h
      | false => exact ltS_tri h1 h2
  · rintro rfl; simp [ltS_irrefl]
theorem cmT_lt {a b : ByteArray} : cmT a b < 0 ↔ ltS a b = true := by
  unfold cmT
  cases h1 : ltS a b with
  | true => simp
  | false => cases h2 : ltS b a <;> simp
theorem cmT_bounds (a b : ByteArray) : -1 ≤ cmT a b ∧ cmT a b ≤ 1 := by
  unfold cmT
  cases ltS a b <;> cases ltS b a <;> simp
def cmI (a b : Int) : Int := if a < b then -1 else if b < a then 1 else 0
theorem cmI_zero {a b : Int} : cmI a b = 0 ↔ a = b := by
  unfold cmI
  split
  · constructor
    · intro h; cases h
    · intro h; omega
  · split
    · constructor
      · intro h; cases h
      · intro h; omega
    · constructor
      · intro _; omega
      · intro _; rfl
theorem cmI_lt {a b : Int} : cmI a b < 0 ↔ a < b := by
  unfold cmI
  split
  · rename_i h; simp [h]
  · rename_i h
    split <;> simp <;> omega
theorem cmI_bounds (a b : Int) : -1 ≤ cmI a b ∧ cmI a b ≤ 1 := by
  unfold cmI
  (repeat' split) <;> simp
set_option maxRecDepth 100000 in
set_option maxHeartbeats 400000 in
theorem isNaNT_any (a : ByteArray) (w : World) : Calls Tryz.prog 119 #[.string a] w fun e w' => e = .returned (.bool false) ∧ w = w' := by
  have e1 : (a.toList == a.toList) = true := by simp
  go_enter Tryz.func119, Tryz.ntmps119
  go_wp2
  go_ret
  exact ⟨rfl, rfl⟩
set_option maxRecDepth 100000 in
set_option maxHeartbeats 1000000 in
theorem compareT_any (a b : ByteArray) (w : World) : Calls Tryz.prog 98 #[.string a, .string b] w fun e w' => e = .returned (.int .i64 (cmT a b)) ∧ w = w' := by
  cases h1 : ltS a b
  · have e1 : Op.bytesLess a.toList b.toList = false := h1
    cases h2 : ltS b a
    · have e2 : (Op.bytesLess a.toList b.toList || a.toList == b.toList) = true := by rw [leS_eq, h2]; rfl
      have e3 : (a.toList == b.toList) = true := eqS_true.2 (ltS_tri h1 h2)
      go_enter Tryz.func98, Tryz.ntmps98
      go_wp2_with (go_at_call 119; refine (isNaNT_any _ _).mono ?_; rintro e w' ⟨rfl, rfl⟩)
      go_ret
      exact ⟨ret_int (by unfold cmT; rw [h1, h2]; rfl), rfl⟩
    · have e2 : (Op.bytesLess a.toList b.toList || a.toList == b.toList) = false := by rw [leS_eq, h2]; rfl
      have e3 : (a.toList == b.toList) = false := bytes_beq_false (fun e => by subst e; rw [ltS_irrefl] at h2; cases h2)
      go_enter Tryz.func98, Tryz.ntmps98
      go_wp2_with (go_at_call 119; refine (isNaNT_any _ _).mono ?_; rintro e w' ⟨rfl, rfl⟩)
      go_ret
      exact ⟨ret_int (by unfold cmT; rw [h1, h2]; rfl), rfl⟩
  · have e1 : Op.bytesLess a.toList b.toList = true := h1
    go_enter Tryz.func98, Tryz.ntmps98
    go_wp2_with (go_at_call 119; refine (isNaNT_any _ _).mono ?_; rintro e w' ⟨rfl, rfl⟩)
    go_ret
    exact ⟨ret_int (by unfold cmT; rw [h1]; rfl), rfl⟩
set_option maxRecDepth 100000 in
set_option maxHeartbeats 400000 in
theorem isNaNI_any (a : Int) (w : World) : Calls Tryz.prog 84 #[.int .i64 a] w fun e w' => e = .returned (.bool false) ∧ w = w' := by
  go_enter Tryz.func84, Tryz.ntmps84
  go_wp2
  go_ret
  exact ⟨rfl, rfl⟩
set_option maxRecDepth 100000 in
set_option maxHeartbeats 1000000 in
theorem compareI_any (a b : Int) (w : World) : Calls Tryz.prog 51 #[.int .i64 a, .int .i64 b] w fun e w' => e = .returned (.int .i64 (cmI a b)) ∧ w = w' := by
  by_cases h1 : a < b
  · go_enter Tryz.func51, Tryz.ntmps51
    go_wp2_with (go_at_call 84; refine (isNaNI_any _ _).mono ?_; rintro e w' ⟨rfl, rfl⟩)
    go_ret
    exact ⟨ret_int (by unfold cmI; rw [if_pos h1]), rfl⟩
  · by_cases h2 : b < a
    · go_enter Tryz.func51, Tryz.ntmps51
      go_wp2_with (go_at_call 84; refine (isNaNI_any _ _).mono ?_; rintro e w' ⟨rfl, rfl⟩)
      go_ret
      exact ⟨ret_int (by unfold cmI; rw [if_neg (Int.not_lt.2 h1), if_pos h2]), rfl⟩
    · go_enter Tryz.func51, Tryz.ntmps51
      go_wp2_with (go_at_call 84; refine (isNaNI_any _ _).mono ?_; rintro e w' ⟨rfl, rfl⟩)
      go_ret
      exact ⟨ret_int (by unfold cmI; rw [if_neg (Int.not_lt.2 h1), if_neg (Int.not_lt.2 h2)]), rfl⟩
def orI : List Int → Int
  | [] => 0
  | x :: xs => if x = 0 then orI xs else x
theorem orI_cons (x : Int) (xs : List Int) : orI (x :: xs) = if x = 0 then orI xs else x := rfl
theorem orI_two (a b : Int) : orI [a, b] = if a = 0 then b else a := by
  unfold orI; split
  · unfold orI orI; split <;> simp_all
  · rfl
set_option maxRecDepth 100000 in
set_option maxHeartbeats 1000000 in
theorem orJ_any (v : Value) (xs : List Int) (fp : List Nat) (w : World) (hx : Sl fInt.cod w v xs fp) :
    Calls Tryz.prog 76 #[v] w fun e w' => e = .returned (.int .i64 (orI xs)) ∧ w = w' := by
  obtain ⟨A, cap, rfl, hlen, hcap⟩ := hx.form
  go_enter Tryz.func76, Tryz.ntmps76
  go_wp2
  go_loop [8] (fun i => ∃ k : Nat, k ≤ xs.length ∧ i = .int .i64 k ∧ Hid (orI xs = orI (xs.drop k))) (fun i => xs.length - (intOf i).toNat)
  case atStart => exact ⟨0, Nat.zero_le _, rfl, rfl⟩
  case round =>
    obtain ⟨k, hk, rfl, H0⟩ := hrel
    by_cases hlt : k < xs.length
    · obtain ⟨b, off, rfl, _, hok, hc, _⟩ := hx.cell1 rfl hlt rfl
      have hd : xs.drop k = xs[k] :: xs.drop (k + 1) := List.drop_eq_getElem_cons hlt
      by_cases hz : xs[k] = 0
      · have HN : Hid (orI xs = orI (xs.drop (k + 1))) := by show _ = _; rw [H0.out, hd, orI_cons, if_pos hz]
        have e1 : (xs[k] == 0) = true := by simpa using hz
        have e2 : (xs[k] != 0) = false := by simpa using hz
        clear hd hz H0
        go_wp2
        go_round
        case rel => exact ⟨k + 1, by omega, by go_num, HN⟩
        case measure => simp [intOf]; omega
      · have HN : Hid (orI xs = xs[k]) := by show _ = _; rw [H0.out, hd, orI_cons, if_neg hz]
        have e1 : (xs[k] == 0) = false := by simpa using hz
        have e2 : (xs[k] != 0) = true := by simpa using hz
        clear hd hz H0
        go_wp2
        go_ret
        exact ⟨ret_int HN.out.symm, rfl⟩
    · have HN : Hid (orI xs = 0) := by show _ = _; rw [H0.out, List.drop_of_length_le (by omega)]; rfl
      clear H0
      go_wp2
      go_ret
      exact ⟨ret_int HN.out.symm, rfl⟩
theorem orI_three (a b c : Int) : orI [a, b, c] = if a = 0 then (if b = 0 then c else b) else a := by
  rw [orI_cons]
  split
  · exact orI_two b c
  · rfl
theorem cmT_ok (a b : ByteArray) : fInt.ok (cmT a b) := by
  have := cmT_bounds a b
  show _ ∧ _
  omega
theorem cmI_ok (a b : Int) : fInt.ok (cmI a b) := by
  have := cmI_bounds a b
  show _ ∧ _
  omega
end Go.Proofs.YthabmofkjdiccaaGreatDoor
