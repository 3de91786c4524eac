/- LoadBlocks: contracts. Written by wip/gen/lb.py. -/
import Derived.Test.YtaaholabodchaaaGreatDoorLd
import Derived.Test.YtaaholabodchaaaGreatDoorRd
namespace Go.Proofs.YtaaholabodchaaaGreatDoor
open Go.RowKit
set_option linter.unusedVariables false

theorem infoBlockL : (Tryz.prog.info? 43).map (fun i => (i.zero, i.size, i.bytes)) = some (some (.agg #[.string ⟨#[]⟩, .string ⟨#[]⟩, .string ⟨#[]⟩]), 3, 48) := by kernel_rfl
def LdR (w : World) (s : ByteArray) (e : Ending) (w' : World) : Prop := ∃ v, e = .returned (.tuple #[v, .int .i64 (ldRes s).2.1, .int .i64 (ldRes s).2.2]) ∧ New fBlock.cod w v (ldRes s).1 w'
theorem LdR.of {w w' : World} {s : ByteArray} {v : Value} {l : List DBlock} {a c : Int} (h : ldRes s = (l, a, c)) (hn : New fBlock.cod w v l w') : LdR w s (.returned (.tuple #[v, .int .i64 a, .int .i64 c])) w' := ⟨v, by rw [h], by rw [h]; exact hn⟩
theorem LdR.of2 {w w' : World} {s : ByteArray} {v : Value} {l : List DBlock} {a a' c c' : Int} (h : ldRes s = (l, a, c)) (ha : a = a') (hc : c = c') (hn : New fBlock.cod w v l w') : LdR w s (.returned (.tuple #[v, .int .i64 a', .int .i64 c'])) w' := by subst ha hc; exact LdR.of h hn
theorem spl_size (c : UInt8) (s : ByteArray) : ∀ x ∈ splS c s, x.size ≤ s.size := by
  intro x hx
  obtain ⟨P, q, h1, h2⟩ := splS_cut c s
  have h3 := congrArg List.length h2
  rw [List.length_append, data_len, data_len] at h3
  rw [h1, List.mem_append] at hx
  rcases hx with hx | hx
  · obtain ⟨A, B, e⟩ := List.append_of_mem hx
    rw [e, List.flatMap_append, List.flatMap_cons, List.length_append, List.length_append, List.length_append, data_len] at h3
    omega
  · rw [List.mem_singleton] at hx; subst hx; omega
set_option maxRecDepth 100000 in
set_option maxHeartbeats 2000000 in
theorem l29Head_any (line : ByteArray) (w : World) (hs : line.size ≤ 1048576) :
    Calls Tryz.prog 18 #[.string line] w fun e w' => ∃ n, e = .returned (.tuple #[.int .i64 n, .bool (ldHead line).isSome]) ∧ (∀ m, ldHead line = some m → n = m) ∧ Below w.heap.size w w' := by
  have hsz := spl_size 32 line
  have hh2 : ∀ a b, splS 32 line = [a, b] → ldHead line = if a = ⟨#[97, 114, 99, 104, 105, 118, 101]⟩ then (match numL b.data.toList with | some n => if inHead n then some n else none | none => none) else none := fun a b h => head_two h
  have hh0 : (splS 32 line).length ≠ 2 → ldHead line = none := head_other
  go_enter Tryz.func18, Tryz.ntmps18
  go_wp2_with fail
  refine (l01Split_any line 32 _ hs).mono ?_
  rintro e w1 ⟨v1, rfl, hown, hb1⟩
  have hok : ∀ x ∈ splS 32 line, fStr.ok x := fun x hx => by have := hsz x hx; show _ ≤ _; omega
  obtain ⟨fp1, hsl, _, _⟩ := Sl.of_own (n := (splS 32 line).length) rfl hown hok
  generalize splS 32 line = X at *
  obtain ⟨A, cap, rfl, hle, hca⟩ := hsl.form
  clear hown hok
  by_cases h2 : X.length = 2
  · obtain ⟨a, b, rfl⟩ : ∃ a b, X = [a, b] := by
      match X, h2 with
      | [a, b], _ => exact ⟨a, b, rfl⟩
    have hH := hh2 a b rfl
    have hbs := hsz b (by simp)
    obtain ⟨g, off, rfl, _, _, c0, _⟩ := hsl.cell1 rfl (k := 0) (by simp) rfl
    obtain ⟨g', off', hA, _, _, c1, _⟩ := hsl.cell1 rfl (k := 1) (by simp) rfl
    injection hA with hA; injection hA with hA1 hA2 _; subst hA1 hA2
    have c00 : w1.cell? ⟨g, off, none⟩ = some (.string a) := by simpa using c0
    have c11 : w1.cell? ⟨g, off + 1, none⟩ = some (.string b) := c1
    clear c0 c1 hsz hh2 hh0 hsl
    by_cases ha : a = ⟨#[97, 114, 99, 104, 105, 118, 101]⟩
    · rw [if_pos ha] at hH
      have HH := Lib.hid hH
      subst ha
      clear hH
      go_wp2_with fail
      refine (l01Number_any b _ (by omega)).mono ?_
      rintro e w2 ⟨rfl, hb2⟩
      have hB2 := hb1.trans (hb2.mono hb1.size)
      cases hn : numL b.data.toList with
      | none =>
        obtain ⟨hn1, hn2⟩ := num_none hn
        have HH2 : Hid (ldHead line = none) := by show _ = _; rw [HH.out, hn]
        rw [hn1]
        clear hn hn1
        go_wp2
        go_ret2
        exact ⟨_, by rw [HH2.out]; rfl, fun m hm => (by rw [HH2.out] at hm; cases hm), hB2⟩
      | some v =>
        obtain ⟨hn1, hn2⟩ := num_some hn
        cases hi : inHead v
        · have HH2 : Hid (ldHead line = none) := by show _ = _; rw [HH.out, hn]; simp [hi]
          have e2 : inB v 0 32 = false := hi
          rw [hn1, hn2]
          clear hn hn1 hn2
          go_wp2_with (go_at_call 40; refine (l00InB_any _ _ _ _).mono ?_; rintro e w' ⟨rfl, rfl⟩)
          go_ret2
          exact ⟨_, by rw [HH2.out]; first | rfl | (rw [e2]; rfl) | (simp [e2]; done), fun m hm => (by rw [HH2.out] at hm; cases hm), hB2⟩
        · have HH2 : Hid (ldHead line = some v) := by show _ = _; rw [HH.out, hn]; simp [hi]
          have e2 : inB v 0 32 = true := hi
          rw [hn1, hn2]
          clear hn hn1 hn2
          go_wp2_with (go_at_call 40; refine (l00InB_any _ _ _ _).mono ?_; rintro e w' ⟨rfl, rfl⟩)
          go_ret2
          exact ⟨_, by rw [HH2.out]; first | rfl | (rw [e2]; rfl) | (simp [e2]; done), fun m hm => (by rw [HH2.out] at hm; exact Option.some.inj hm), hB2⟩
    · rw [if_neg ha] at hH
      have e1 : (a.toList == [97, 114, 99, 104, 105, 118, 101]) = false := by rw [show ([97, 114, 99, 104, 105, 118, 101] : List UInt8) = (ByteArray.mk #[97, 114, 99, 104, 105, 118, 101]).toList from by rw [ByteArray.toList_eq]]; exact bytes_beq_false ha
      have e2 : (a.toList == [97, 114, 99, 104, 105, 118, 101]) = false := e1
      have e3 : (a.toList != [97, 114, 99, 104, 105, 118, 101]) = true := by unfold bne; rw [e2]; rfl
      have HH := Lib.hid hH
      clear hH ha
      go_wp2
      go_ret2
      exact ⟨_, by rw [HH.out]; rfl, fun m hm => (by rw [HH.out] at hm; cases hm), hb1⟩
  · have hH := hh0 h2
    have HH := Lib.hid hH
    have e1 : ((X.length : Int) == 2) = false := by rw [beq_eq_false_iff_ne]; omega
    clear hH hh2 hh0
    go_wp2
    go_ret2
    exact ⟨_, by rw [HH.out]; rfl, fun m hm => (by rw [HH.out] at hm; cases hm), hb1⟩
set_option maxRecDepth 100000 in
set_option maxHeartbeats 8000000 in
theorem specLoadBlocks_any (s : ByteArray) (w : World) (hs : s.size ≤ 1048576) :
    Calls Tryz.prog 5 #[.string s] w fun e w' => LdR w s e w' := by
  obtain ⟨i0, hi, hz0, hz1, hz2⟩ := info_parts infoBlockL
  have hlen := lin_len s
  have hszs : ∀ x ∈ linL s, x.size ≤ s.size := fun x hx => linL_size hx
  cases hgo : ldGo s
  · have HNO := Lib.hid (ldRes_no hgo)
    go_enter Tryz.func5, Tryz.ntmps5
    go_wp2_with fail
    refine (l29Lines_any s _ hs).mono ?_
    rintro e w1 ⟨v1, fp1, rfl, hsl, hb1⟩
    obtain ⟨A, cap, rfl, hle, hca⟩ := hsl.form
    unfold ldGo at hgo
    cases he : emptyB (linQ s)
    · clear hgo
      go_wp2
      go_ret3
      exact LdR.of HNO.out (New.nil hb1)
    · rw [he] at hgo
      have h0 : (linL s).length = 0 := by
        cases hL : linL s with
        | nil => rfl
        | cons a l => rw [hL] at hgo; simp at hgo
      have e1 : (((linL s).length : Int) == 0) = true := by rw [h0]; rfl
      clear hgo
      go_wp2
      go_ret3
      exact LdR.of HNO.out (New.nil hb1)
  · have hpos : emptyB (linQ s) = true ∧ 0 < (linL s).length := by
      unfold ldGo at hgo
      simp only [Bool.and_eq_true, Bool.not_eq_true', List.isEmpty_eq_false_iff] at hgo
      exact ⟨hgo.1, List.length_pos_iff.2 hgo.2⟩
    have HG := Lib.hid hgo
    clear hgo
    go_enter Tryz.func5, Tryz.ntmps5
    go_wp2_with fail
    refine (l29Lines_any s _ hs).mono ?_
    rintro e w1 ⟨v1, fp1, rfl, hsl, hb1⟩
    rw [hpos.1]
    obtain ⟨L, hL⟩ : ∃ L, L = linL s := ⟨_, rfl⟩
    rw [← hL] at hsl hlen hszs hpos
    have HL := Lib.hid hL
    have h0 := hpos.2
    clear hL hpos
    obtain ⟨A, cap, rfl, hle, hca⟩ := hsl.form
    have e1 : ((L.length : Int) == 0) = false := by rw [beq_eq_false_iff_ne]; omega
    obtain ⟨b, off, rfl, _, _, hc0, _⟩ := hsl.cell1 rfl h0 rfl
    have hc00 : w1.cell? ⟨b, off, none⟩ = some (.string L[0]) := by simpa using hc0
    have hls0 := hszs L[0] (List.getElem_mem h0)
    have hl0 : lineAt L 0 = L[0] := lineAt_get h0
    clear hc0
    go_wp2_with fail
    refine (l29Head_any L[0] _ (by omega)).mono ?_
    rintro e w2 ⟨n, rfl, hn, hb2⟩
    have hB2 := hb1.trans (hb2.mono hb1.size)
    have hsl2 := hsl.below' hb2
    cases hh : ldHead L[0] with
    | none =>
      have HR := Lib.hid (ldRes_head HG.out (by rw [← HL.out, hl0]; exact hh))
      rw [show (none : Option Int).isSome = false from rfl]
      clear hh hn
      go_wp2
      go_ret3
      exact LdR.of HR.out (New.nil hB2)
    | some m =>
      obtain rfl := hn m hh
      have HH : Hid (ldHead (lineAt (linL s) 0) = some n) := by show _ = _; rw [← HL.out, hl0]; exact hh
      rw [show (some n : Option Int).isSome = true from rfl]
      have hB0 : Below w2.heap.size w2 (w2.alloc (.cells #[] 43)) := (Below.refl _ _).alloc (Nat.le_refl _) _
      clear hh hn hl0 hc00
      go_wp2
      go_loopw [9, 10] (fun v i wr => ∃ k : Nat, 1 ≤ k ∧ k ≤ L.length ∧ i = .int .i64 k ∧ Hid (ldFine L k) ∧ Own fBlock wr w2.heap.size 43 v (ldRows L k) ∧ Below w2.heap.size w2 wr) (fun _ i _ => L.length - (intOf i).toNat)
      case atStart =>
        refine ⟨1, Nat.le_refl _, by omega, rfl, ldFine_one L, ?_, hB0⟩
        rw [ldRows_one]
        exact Own.lit0m fBlock (Nat.le_refl _)
      case round =>
        obtain ⟨k, hk1, hk2, rfl, HF, ho, hb⟩ := hrel
        by_cases hlt : k < L.length
        · obtain ⟨b', off', hA', _, _, hc0, _⟩ := (hsl2.below' hb).cell1 rfl hlt rfl
          injection hA' with hA'; injection hA' with hA1 hA2 _; subst hA1 hA2
          have hls := hszs L[k] (List.getElem_mem hlt)
          go_wp2_with fail
          refine (l29Parse_any L[k] _ (by omega)).mono ?_
          rintro e w3 ⟨he, hb3⟩
          unfold PRet bAgg at he
          subst he
          have hla : lineAt L k = L[k] := lineAt_get hlt
          have hC : ldC L k = if parseC L[k] ≠ 0 then parseC L[k] else if 1 < k ∧ beforeB (parseB (lineAt L (k - 1))) (parseB L[k]) = false then 7 else 0 := by unfold ldC; rw [hla]
          have hst := ldRows_step hlt hk1
          have hokn : parseC L[k] = 0 → fBlock.ok (parseB L[k]) := fun h => blockB_ok (parse_valid h)
          generalize parseC L[k] = cc at *
          generalize parseB L[k] = bb at *
          have hB3 := hb.trans (hb3.mono hb.size)
          have hBa : Below w2.heap.size w2 (w3.alloc (.cells #[.string bb.kind, .string bb.name, .string bb.text] 43)) := hB3.alloc hB3.size _
          have ho3 := (ho.below hb3)
          have hrl := ldRows_len (L := L) (k := k) (by omega)
          have HST := Lib.hid hst
          have hpos9 : Below w.heap.size w (w3.alloc (.cells #[.string bb.kind, .string bb.name, .string bb.text] 43)) := hB2.trans (hBa.mono hB2.size)
          clear hla ho hst
          by_cases h0c : cc = 0
          · subst h0c
            have hokb := hokn rfl
            rw [if_neg (by simp)] at hC
            rcases Nat.lt_or_ge 1 k with hgt | hle1
            · obtain ⟨j, rfl⟩ : ∃ j, k = j + 2 := ⟨k - 2, by omega⟩
              have hrl2 : (ldRows L (j + 2)).length = j + 1 := by omega
              have hpl := ldRows_last (L := L) (k := j + 2) (by omega) (by omega)
              obtain ⟨g, gcap, rfl⟩ := ho3.addr (by omega)
              have hoB : Own fBlock (w3.alloc (.cells #[.string bb.kind, .string bb.name, .string bb.text] 43)) w2.heap.size 43 (.slice (some ⟨g, 0, none⟩) (ldRows L (j + 2)).length gcap) (ldRows L (j + 2)) := World.ownsRow.alloc ho3 _
              have hoks := ldRows_ok (L := L) (k := j + 2) (by omega) HF.out
              obtain ⟨fpB, hsB, _, _⟩ := Sl.of_own (n := (ldRows L (j + 2)).length) rfl hoB hoks
              obtain ⟨g', o', hgA, _, _, hpm⟩ := PBlock.elem hsB (k := j) (by omega)
              injection hgA with hgA; injection hgA with hg1 hg2 _; subst hg1 hg2
              have hpx : (ldRows L (j + 2))[j]'(by omega) = parseB (lineAt L (j + 1)) := hpl
              rw [hpx, Nat.zero_add] at hpm
              obtain ⟨x, hx⟩ : ∃ x, parseB (lineAt L (j + 1)) = x := ⟨_, rfl⟩
              rw [hx] at hpm
              rw [show j + 2 - 1 = j + 1 from rfl, hx] at hC
              have hbx := PBlock.box w3 bb 43
              rw [hrl2] at ho3 hoB ⊢
              clear hsB hpl hpx hx hoks
              go_wp2_with fail
              refine (l29Before_any _ _ _ _ x bb _ hpm hbx).mono ?_
              rintro e w4 ⟨rfl, hb4⟩
              have hB4 := hBa.trans (hb4.mono hBa.size)
              obtain ⟨c0, c1, c2⟩ := hbx.below' hb4
              cases hbf : beforeB x bb
              · have hC7 : ldC L (j + 2) = 7 := by rw [hC, if_pos ⟨by omega, hbf⟩]
                have HR := Lib.hid (ldRes_bad HG.out HH.out (by rw [← HL.out]; exact ldBad_some hlt hk1 HF.out (by rw [hC7]; decide)))
                have HC := Lib.hid hC7
                clear hC hC7 hoB hpm hbx
                go_wp2
                go_ret3
                exact LdR.of2 HR.out (by first | rfl | (push_cast; omega)) (by rw [← HL.out]; exact HC.out) (New.nil (hB2.trans (hB4.mono hB2.size)))
              · have hC0 : ldC L (j + 2) = 0 := by rw [hC, if_neg (by rw [hbf]; rintro ⟨_, h⟩; cases h)]
                have HF2 : Hid (ldFine L (j + 2 + 1)) := ldFine_step HF.out hC0
                have ho3 : w4.ownsRow w2.heap.size 43 3 (.slice (some ⟨g, 0, none⟩) (j + 1) gcap) (j + 1) ((ldRows L (j + 2)).flatMap fBlock.enc) := by
                  have h := hoB.below hb4
                  unfold Own at h
                  rw [hrl2] at h
                  exact h
                have hs2 := hB4.size
                clear hC hC0 hoB hpm hbx hbf
                go_wp2_with (at_builtin; refine wpList_append_one rfl _ _ 22 rfl w2.heap.size 43 i0 (.agg #[.string ⟨#[]⟩, .string ⟨#[]⟩, .string ⟨#[]⟩]) 3 48 Tryz.underlying22 hi hz0 hz1 hz2 rfl (by decide) (.slice (some ⟨g, 0, none⟩) (j + 1) gcap) (j + 1) _ rfl ho3 [.string bb.kind, .string bb.name, .string bb.text] rfl (by intro u hu; simp at hu; rcases hu with rfl | rfl | rfl <;> rfl) rfl (by omega) (by decide) hs2 ?_)
                intro v' u hown hbu _ _
                have hbu' := hB4.trans hbu
                have ho5 : Own fBlock u w2.heap.size 43 v' (ldRows L (j + 2 + 1)) := by rw [HST.out]; exact Own.push _ (by omega) hown
                clear hown
                go_wp2
                go_roundw
                case rel => exact ⟨j + 2 + 1, by omega, by omega, by go_num, HF2, ho5, hbu'⟩
                case measure => simp [intOf]; omega
            · obtain rfl : k = 1 := by omega
              have hC0 : ldC L 1 = 0 := by rw [hC, if_neg (by omega)]
              have HF2 : Hid (ldFine L (1 + 1)) := ldFine_step HF.out hC0
              have hoB : Own fBlock (w3.alloc (.cells #[.string bb.kind, .string bb.name, .string bb.text] 43)) w2.heap.size 43 u9 (ldRows L 1) := World.ownsRow.alloc ho3 _
              rw [ldRows_one] at hoB
              obtain ⟨A9, cap9, rfl⟩ := hoB.form
              have ho3 : (w3.alloc (.cells #[.string bb.kind, .string bb.name, .string bb.text] 43)).ownsRow w2.heap.size 43 3 (.slice A9 0 cap9) 0 (([] : List DBlock).flatMap fBlock.enc) := hoB
              rw [List.length_nil] at *
              have hs2 := hBa.size
              clear hC hC0 hoB
              go_wp2_with (at_builtin; refine wpList_append_oneA (w3.heap.size + 1) (by simp) rfl _ _ 22 rfl w2.heap.size 43 i0 (.agg #[.string ⟨#[]⟩, .string ⟨#[]⟩, .string ⟨#[]⟩]) 3 48 Tryz.underlying22 hi hz0 hz1 hz2 rfl (by decide) (.slice A9 0 cap9) 0 _ rfl ho3 [.string bb.kind, .string bb.name, .string bb.text] rfl (by intro u hu; simp at hu; rcases hu with rfl | rfl | rfl <;> rfl) rfl (by omega) (by decide) hs2 ?_)
              intro v' u hown hbu _ _
              have hbu' := hBa.trans hbu
              have ho5 : Own fBlock u w2.heap.size 43 v' (ldRows L (1 + 1)) := by rw [HST.out, ldRows_one]; exact Own.push (L := []) _ rfl hown
              clear hown
              go_wp2
              go_roundw
              case rel => exact ⟨1 + 1, by omega, by omega, by go_num, HF2, ho5, hbu'⟩
              case measure => simp [intOf] <;> omega
          · rw [if_pos h0c] at hC
            have HR := Lib.hid (ldRes_bad HG.out HH.out (by rw [← HL.out]; exact ldBad_some hlt hk1 HF.out (by rw [hC]; exact h0c)))
            have HC := Lib.hid hC
            have e2 : (cc != 0) = true := by rw [bne_iff_ne]; exact h0c
            clear hC ho3
            go_wp2
            go_ret3
            exact LdR.of2 HR.out (by first | rfl | (push_cast; omega)) (by rw [← HL.out]; exact HC.out) (New.nil hpos9)
        · obtain rfl : k = L.length := by omega
          have hoks := ldRows_ok (L := L) (k := L.length) (Nat.le_refl _) HF.out
          have hbn : ldBad (linL s) = none := by rw [← HL.out]; exact ldBad_none HF.out
          have hB9 := hB2.trans (hb.mono hB2.size)
          obtain ⟨A9, cap9, rfl⟩ := ho.form
          by_cases hq : ((ldRows L L.length).length : Int) = n
          · have HR := Lib.hid (ldRes_ok HG.out HH.out hbn (by rw [← HL.out]; exact hq))
            have hnew := (ho.new hb hoks).later hB2
            have e2 : (((ldRows L L.length).length : Int) == n) = true := by rw [beq_iff_eq]; exact hq
            have e3 : (((ldRows L L.length).length : Int) != n) = false := by rw [hq]; simp
            clear hbn ho
            go_wp2
            go_ret3
            exact LdR.of (by rw [HR.out, ← HL.out]) hnew
          · have HR := Lib.hid (ldRes_short HG.out HH.out hbn (by rw [← HL.out]; exact hq))
            have e2 : (((ldRows L L.length).length : Int) == n) = false := by rw [beq_eq_false_iff_ne]; exact hq
            have e3 : (((ldRows L L.length).length : Int) != n) = true := by rw [bne_iff_ne]; exact hq
            clear hbn ho
            go_wp2
            go_ret3
            exact LdR.of HR.out (New.nil hB9)
theorem trim_size (s : ByteArray) : (⟨(Lib.trimSuffix s.data.toList [10]).toArray⟩ : ByteArray).size ≤ s.size := by
  rw [mk_size]
  unfold Lib.trimSuffix
  split
  · rw [List.length_take, data_len]; omega
  · rw [data_len]; omega
theorem trimP_size (s : ByteArray) (p : List UInt8) : (⟨(Lib.trimPrefix s.data.toList p).toArray⟩ : ByteArray).size ≤ s.size := by
  rw [mk_size]
  unfold Lib.trimPrefix
  split
  · rw [List.length_drop, data_len]; omega
  · rw [data_len]; omega
set_option maxRecDepth 100000 in
set_option maxHeartbeats 8000000 in
theorem implLoadBlocks_any (s : ByteArray) (m : Int) (w : World) (hs : s.size ≤ 1048576) (hm : w.cell? ⟨0, 0, none⟩ = some (.int .i64 m)) (ht : RdTabs w) :
    Calls Tryz.prog 6 #[.string s] w fun e w' => LdR w s e w' := by
  obtain ⟨i0, hi, hz0, hz1, hz2⟩ := info_parts infoBlockL
  have hlen := lin_len s
  have hszs : ∀ x ∈ linL s, x.size ≤ s.size := fun x hx => linL_size hx
  have hsuf : Lib.hasSuffix s.data.toList (ByteArray.mk #[10]).data.toList = ldGo s := ldGo_suffix s
  cases hgo : ldGo s
  · have HNO := Lib.hid (ldRes_no hgo)
    rw [hgo] at hsuf
    go_enter Tryz.func6, Tryz.ntmps6
    go_wp2_with fail
    refine (Tryz.strings_HasSuffix s _ _ (by omega)).mono ?_
    rintro e w' ⟨rfl, hw⟩
    rw [hw, hsuf]
    go_wp2
    go_ret3
    exact LdR.of HNO.out (New.nil (Below.refl _ _))
  · have hpos : 0 < (linL s).length := by
      have h := hgo
      unfold ldGo at h
      simp only [Bool.and_eq_true, Bool.not_eq_true', List.isEmpty_eq_false_iff] at h
      exact List.length_pos_iff.2 h.2
    have htr := lin_trim hgo
    have hts := trim_size s
    have HG := Lib.hid hgo
    rw [hgo] at hsuf
    clear hgo
    go_enter Tryz.func6, Tryz.ntmps6
    go_wp2_with fail
    refine (Tryz.strings_HasSuffix s _ _ (by omega)).mono ?_
    rintro e w' ⟨rfl, hw⟩
    rw [hw, hsuf]
    clear hw w' hsuf
    go_wp2_with fail
    refine (Tryz.strings_TrimSuffix s _ _ (by omega)).mono ?_
    rintro e w' ⟨rfl, hw⟩
    rw [hw, show (ByteArray.mk #[10]).data.toList = [10] from rfl]
    clear hw w'
    generalize (⟨(Lib.trimSuffix s.data.toList [10]).toArray⟩ : ByteArray) = T at *
    go_wp2_with fail
    refine (splitD_any T 10 m _ (by omega) hm).mono ?_
    rintro e w1 ⟨v1, rfl, hown, hb1⟩
    rw [htr] at hown
    have hoks0 : ∀ x ∈ linL s, fStr.ok x := fun x hx => by have := hszs x hx; show _ ≤ _; omega
    obtain ⟨fp1, hsl, _, _⟩ := Sl.of_own (n := (linL s).length) rfl hown hoks0
    obtain ⟨L, hL⟩ : ∃ L, L = linL s := ⟨_, rfl⟩
    rw [← hL] at hsl hlen hszs hpos
    have HL := Lib.hid hL
    clear hL htr hown hoks0
    have hm1 := cell_below hb1 hm
    have ht1 := ht.below hb1
    obtain ⟨A, cap, rfl, hle, hca⟩ := hsl.form
    obtain ⟨p, hp⟩ : ∃ p, L.length = p + 1 := ⟨L.length - 1, by omega⟩
    obtain ⟨b, off, rfl, _, _, hc0, _⟩ := hsl.cell1 rfl hpos rfl
    have hc00 : w1.cell? ⟨b, off, none⟩ = some (.string L[0]) := by simpa using hc0
    have hls0 := hszs L[0] (List.getElem_mem hpos)
    have hl0 : lineAt L 0 = L[0] := lineAt_get hpos
    rw [hp] at hsl hle ⊢
    clear hc0
    go_wp2_with fail
    refine (Tryz.strings_CutPrefix L[0] _ _).mono ?_
    rintro e w' ⟨rfl, hw⟩
    rw [hw, show (ByteArray.mk #[97, 114, 99, 104, 105, 118, 101, 32]).data.toList = arcL from rfl]
    clear hw w'
    have hcts := trimP_size L[0] arcL
    have hctd : Lib.hasPrefix L[0].data.toList arcL = true → (⟨(Lib.trimPrefix L[0].data.toList arcL).toArray⟩ : ByteArray).data.toList = L[0].data.toList.drop 8 := fun h => by
      unfold Lib.trimPrefix; rw [if_pos h]; rfl
    generalize (⟨(Lib.trimPrefix L[0].data.toList arcL).toArray⟩ : ByteArray) = ct at *
    have hhead : ldHead L[0] = if Lib.hasPrefix L[0].data.toList arcL = true then (match numL (L[0].data.toList.drop 8) with | some n => if inHead n then some n else none | none => none) else none := rfl
    go_wp2_with fail
    refine (ReadDecimal_any ct _ (by omega) ht1).mono ?_
    rintro e w2 ⟨rfl, hb2⟩
    have hB2 := hb1.trans (hb2.mono hb1.size)
    have hsl2 := hsl.below' hb2
    have hm2 := cell_below hb2 hm1
    have ht2 := ht1.below hb2
    have HNONE : Hid (ldHead L[0] = none → ldRes s = ([], 1, 9)) := fun h => ldRes_head HG.out (by rw [← HL.out, hl0]; exact h)
    have HSOME : Hid (∀ n, ldHead L[0] = some n → ldHead (lineAt (linL s) 0) = some n) := fun n h => by rw [← HL.out, hl0]; exact h
    clear hc00 hl0
    cases hpf : Lib.hasPrefix L[0].data.toList arcL
    · have hh : ldHead L[0] = none := by rw [hhead, hpf]; rfl
      have HR := Lib.hid (HNONE.out hh)
      clear hh hhead hpf hctd
      go_wp2
      go_ret3
      exact LdR.of HR.out (New.nil hB2)
    · have hd8 := hctd hpf
      rw [if_pos hpf, ← hd8] at hhead
      clear hd8 hctd hpf
      cases hn : numL ct.data.toList with
      | none =>
        rw [hn] at hhead
        obtain ⟨hn1, hn2⟩ := num_none hn
        have HR := Lib.hid (HNONE.out hhead)
        rw [hn1]
        clear hhead hn hn1 hn2
        go_wp2
        go_ret3
        exact LdR.of HR.out (New.nil hB2)
      | some n =>
        rw [hn] at hhead
        obtain ⟨hn1, hn2⟩ := num_some hn
        rw [hn1, hn2]
        cases hin : inHead n
        · have hh : ldHead L[0] = none := by rw [hhead]; simp [hin]
          have HR := Lib.hid (HNONE.out hh)
          have e2 : inB n 0 32 = false := hin
          clear hh hhead hn hn1 hn2
          go_wp2_with (go_at_call 26; refine (withinB_any _ _ _ _).mono ?_; rintro e w' ⟨rfl, rfl⟩)
          go_ret3
          exact LdR.of HR.out (New.nil hB2)
        · have hh : ldHead L[0] = some n := by rw [hhead]; simp [hin]
          have HH := Lib.hid (HSOME.out n hh)
          have e2 : inB n 0 32 = true := hin
          clear hh hhead hn hn1 hn2 hb2 ht1 hm1
          go_wp2_with (go_at_call 26; refine (withinB_any _ _ _ _).mono ?_; rintro e w' ⟨rfl, rfl⟩)
          · skip
            go_loopw [10, 47] (fun v i wr => ∃ j : Nat, j ≤ p ∧ i = .int .i64 j ∧ Hid (ldFine L (j + 1)) ∧ Own fBlock wr w2.heap.size 43 v (ldRows L (j + 1)) ∧ Below w2.heap.size w2 wr) (fun _ i _ => p - (intOf i).toNat)
            case atStart =>
              refine ⟨0, Nat.zero_le _, rfl, ldFine_one L, ?_, Below.refl _ _⟩
              rw [ldRows_one]
              exact Own.nil fBlock _ _ _
            case round =>
              obtain ⟨j, hj, rfl, HF, ho, hb⟩ := hrel
              by_cases hjp : j < p
              · exact absurd hjp (by omega)
              · obtain rfl : j = p := by omega
                have hoks := ldRows_ok (L := L) (k := j + 1) (by omega) HF.out
                have hbn : ldBad (linL s) = none := by rw [← HL.out]; exact ldBad_none (by rw [hp]; exact HF.out)
                have hB9 := hB2.trans (hb.mono hB2.size)
                obtain ⟨A9, cap9, rfl⟩ := ho.form
                by_cases hq : ((ldRows L (j + 1)).length : Int) = n
                · have HR := Lib.hid (ldRes_ok HG.out HH.out hbn (by rw [← HL.out, hp]; exact hq))
                  have hnew := (ho.new hb hoks).later hB2
                  have e5 : (((ldRows L (j + 1)).length : Int) == n) = true := by rw [beq_iff_eq]; exact hq
                  have e6 : (((ldRows L (j + 1)).length : Int) != n) = false := by rw [hq]; simp
                  clear hbn ho
                  go_wp2
                  go_ret3
                  exact LdR.of (by rw [HR.out, ← HL.out, hp]) hnew
                · have HR := Lib.hid (ldRes_short HG.out HH.out hbn (by rw [← HL.out, hp]; exact hq))
                  have e5 : (((ldRows L (j + 1)).length : Int) == n) = false := by rw [beq_eq_false_iff_ne]; exact hq
                  have e6 : (((ldRows L (j + 1)).length : Int) != n) = true := by rw [bne_iff_ne]; exact hq
                  clear hbn ho
                  go_wp2
                  go_ret3
                  exact LdR.of HR.out (New.nil hB9)
          · skip
            go_loopw [10, 47] (fun v i wr => ∃ j : Nat, j ≤ p ∧ i = .int .i64 j ∧ Hid (ldFine L (j + 1)) ∧ Own fBlock wr w2.heap.size 43 v (ldRows L (j + 1)) ∧ Below w2.heap.size w2 wr) (fun _ i _ => p - (intOf i).toNat)
            case atStart =>
              refine ⟨0, Nat.zero_le _, rfl, ldFine_one L, ?_, Below.refl _ _⟩
              rw [ldRows_one]
              exact Own.nil fBlock _ _ _
            case round =>
              obtain ⟨j, hj, rfl, HF, ho, hb⟩ := hrel
              by_cases hjp : j < p
              · have hlt : j + 1 < L.length := by omega
                obtain ⟨b', off', hA', _, _, hc1, _⟩ := (hsl2.below' hb).cell1 rfl hlt rfl
                injection hA' with hA'; injection hA' with hA1 hA2 _; subst hA1 hA2
                have hc0 : wr.cell? ⟨b, off + 1 + j, none⟩ = some (.string L[j + 1]) := by rw [Nat.add_assoc, Nat.add_comm 1 j]; exact hc1
                have hls := hszs L[j + 1] (List.getElem_mem hlt)
                clear hc1
                go_wp2_with fail
                refine (blockOf_any L[j + 1] m _ (by omega) (cell_below hb hm2) (ht2.below hb).tab).mono ?_
                rintro e w3 ⟨he, hb3⟩
                unfold PRet bAgg at he
                subst he
                have hla : lineAt L (j + 1) = L[j + 1] := lineAt_get hlt
                have hC : ldC L (j + 1) = if parseC L[j + 1] ≠ 0 then parseC L[j + 1] else if 1 < j + 1 ∧ beforeB (parseB (lineAt L j)) (parseB L[j + 1]) = false then 7 else 0 := by unfold ldC; rw [hla]; rfl
                have hst := ldRows_step hlt (by omega)
                have hokn : parseC L[j + 1] = 0 → fBlock.ok (parseB L[j + 1]) := fun h => blockB_ok (parse_valid h)
                generalize parseC L[j + 1] = cc at *
                generalize parseB L[j + 1] = bb at *
                have hB3 := hb.trans (hb3.mono hb.size)
                have hBa : Below w2.heap.size w2 (w3.alloc (.cells #[.string bb.kind, .string bb.name, .string bb.text] 43)) := hB3.alloc hB3.size _
                have hoA : Own fBlock (w3.alloc (.cells #[.string bb.kind, .string bb.name, .string bb.text] 43)) w2.heap.size 43 u10 (ldRows L (j + 1)) := World.ownsRow.alloc (ho.below hb3) _
                have hrl := ldRows_len (L := L) (k := j + 1) (by omega)
                have HST := Lib.hid hst
                have hbx := PBlock.box w3 bb 43
                clear hla ho hst hc0
                by_cases h0c : cc = 0
                · subst h0c
                  have hokb := hokn rfl
                  rw [if_neg (by simp)] at hC
                  rcases Nat.eq_zero_or_pos j with rfl | hjpos
                  · have hC0 : ldC L (0 + 1) = 0 := by rw [hC, if_neg (by omega)]
                    have HF2 : Hid (ldFine L (0 + 1 + 1)) := ldFine_step HF.out hC0
                    have hoB := hoA
                    rw [show ldRows L (0 + 1) = [] from ldRows_one L] at hoB
                    obtain ⟨A9, cap9, rfl⟩ := hoB.form
                    rw [List.length_nil] at hoB ⊢
                    clear hC hC0 hoA
                    go_wp2
                    refine at_world (fun W => Below w2.heap.size w2 W ∧ PBlock W w3.heap.size 0 bb ∧ Own fBlock W w2.heap.size 43 (.slice A9 0 cap9) []) ⟨hBa, hbx, hoB⟩ ?_
                    clear hbx hoB hBa
                    rintro W ⟨hBW, hbW, hoW⟩
                    obtain ⟨c0, c1, c2⟩ := id hbW
                    have gc0 := cell_regrown c0
                    have gc1 := cell_regrown c1
                    have gc2 := cell_regrown c2
                    refine wp_region_mix (C := fun w' => ∃ p : Regrown, w' = Go.Sort.grow (redrawn W p.d) p.os) [true, true, true, true, true, true, true, true, true, true, true, true, true, false, true, true] (by kernel_rfl) (by kernel_rfl) (by kernel_rfl) (fun _ _ d _ _ h => by cases d <;> exact h) (regrown_of_below (Below.drew (Below.refl _ _))) ?_
                    have hS0 : Below W.heap.size W W.drew := Below.drew (Below.refl _ _)
                    refine wpMix_pure (by kernel_rfl) (fun K hK => ?_)
                    go_big_quiet_op
                    refine hK _ ?_; clear hK K
                    refine wpMix_pure (by kernel_rfl) (fun K hK => ?_)
                    go_big_quiet_op
                    refine hK _ ?_; clear hK K
                    refine wpMix_pure (by kernel_rfl) (fun K hK => ?_)
                    go_big_quiet_op
                    refine hK _ ?_; clear hK K
                    refine wpMix_pure (by kernel_rfl) (fun K hK => ?_)
                    go_big_quiet_op
                    refine hK _ ?_; clear hK K
                    refine wpMix_pure (by kernel_rfl) (fun K hK => ?_)
                    go_big_quiet_op
                    refine hK _ ?_; clear hK K
                    refine wpMix_pure (by kernel_rfl) (fun K hK => ?_)
                    go_big_quiet_op
                    refine hK _ ?_; clear hK K
                    refine wpMix_pure (by kernel_rfl) (fun K hK => ?_)
                    go_big_quiet_op
                    refine hK _ ?_; clear hK K
                    refine wpMix_skip (by kernel_rfl) (fun K hK => ?_)
                    simp only [Act.put, List.setIfInBounds_toArray, List.set_cons_zero, List.set_cons_succ]
                    refine hK _ ?_; clear hK K
                    refine wpMix_skip (by kernel_rfl) (fun K hK => ?_)
                    simp only [Act.put, List.setIfInBounds_toArray, List.set_cons_zero, List.set_cons_succ]
                    refine hK _ ?_; clear hK K
                    refine wpMix_skip (by kernel_rfl) (fun K hK => ?_)
                    simp only [Act.put, List.setIfInBounds_toArray, List.set_cons_zero, List.set_cons_succ]
                    refine hK _ ?_; clear hK K
                    refine wpMix_skip (by kernel_rfl) (fun K hK => ?_)
                    simp only [Act.put, List.setIfInBounds_toArray, List.set_cons_zero, List.set_cons_succ]
                    refine hK _ ?_; clear hK K
                    refine wpMix_skip (by kernel_rfl) (fun K hK => ?_)
                    simp only [Act.put, List.setIfInBounds_toArray, List.set_cons_zero, List.set_cons_succ]
                    refine hK _ ?_; clear hK K
                    refine wpMix_skip (by kernel_rfl) (fun K hK => ?_)
                    simp only [Act.put, List.setIfInBounds_toArray, List.set_cons_zero, List.set_cons_succ]
                    refine hK _ ?_; clear hK K
                    refine wpMix_skip (by kernel_rfl) (fun K hK => ?_)
                    simp only [Act.put, List.setIfInBounds_toArray, List.set_cons_zero, List.set_cons_succ]
                    refine hK _ ?_; clear hK K
                    refine wpMix_skip (by kernel_rfl) (fun K hK => ?_)
                    simp only [Act.put, List.setIfInBounds_toArray, List.set_cons_zero, List.set_cons_succ]
                    refine hK _ ?_; clear hK K
                    refine wpMix_pure (by kernel_rfl) (fun K hK => ?_)
                    go_big_quiet_op
                    refine hK _ ?_; clear hK K
                    refine wpMix_nil ?_
                    have hBc := hBW.trans ((hS0).mono hBW.size)
                    have ho3 : (W.drew).ownsRow w2.heap.size 43 3 (.slice A9 0 cap9) 0 (([] : List DBlock).flatMap fBlock.enc) := hoW.below (hS0)
                    have hs2 := hBc.size
                    obtain ⟨c0, c1, c2⟩ := hbW.below' (hS0)
                    clear gc0 gc1 gc2
                    go_wp2_with (at_builtin; refine wpList_append_one rfl _ _ 22 rfl w2.heap.size 43 i0 (.agg #[.string ⟨#[]⟩, .string ⟨#[]⟩, .string ⟨#[]⟩]) 3 48 Tryz.underlying22 hi hz0 hz1 hz2 rfl (by decide) (.slice A9 0 cap9) 0 _ rfl ho3 [.string bb.kind, .string bb.name, .string bb.text] rfl (by intro u hu; simp at hu; rcases hu with rfl | rfl | rfl <;> rfl) rfl (by omega) (by decide) hs2 ?_)
                    intro v' u hown hbu _ _
                    have hbu' := hBc.trans hbu
                    have ho5 : Own fBlock u w2.heap.size 43 v' (ldRows L (0 + 1 + 1)) := by rw [HST.out, show ldRows L (0 + 1) = [] from ldRows_one L]; exact Own.push (L := []) _ rfl hown
                    clear hown
                    go_wp2
                    go_roundw
                    case rel => exact ⟨0 + 1, by omega, by go_num, HF2, ho5, hbu'⟩
                    case measure => simp [intOf] <;> omega
                  · obtain ⟨q, rfl⟩ : ∃ q, j = q + 1 := ⟨j - 1, by omega⟩
                    have hrl2 : (ldRows L (q + 1 + 1)).length = q + 1 := by omega
                    have hpl := ldRows_last (L := L) (k := q + 1 + 1) (by omega) (by omega)
                    obtain ⟨g, gcap, rfl⟩ := hoA.addr (by omega)
                    have hoks := ldRows_ok (L := L) (k := q + 1 + 1) (by omega) HF.out
                    obtain ⟨fpB, hsB, _, _⟩ := Sl.of_own (n := (ldRows L (q + 1 + 1)).length) rfl hoA hoks
                    obtain ⟨g', o', hgA, _, _, hpm⟩ := PBlock.elem hsB (k := q) (by omega)
                    injection hgA with hgA; injection hgA with hg1 hg2 _; subst hg1 hg2
                    have hpx : (ldRows L (q + 1 + 1))[q]'(by omega) = parseB (lineAt L (q + 1)) := hpl
                    rw [hpx, Nat.zero_add] at hpm
                    obtain ⟨x, hx⟩ : ∃ x, parseB (lineAt L (q + 1)) = x := ⟨_, rfl⟩
                    rw [hx] at hpm hC
                    have hoB : (w3.alloc (.cells #[.string bb.kind, .string bb.name, .string bb.text] 43)).ownsRow w2.heap.size 43 3 (.slice (some ⟨g, 0, none⟩) (q + 1) gcap) (q + 1) ((ldRows L (q + 1 + 1)).flatMap fBlock.enc) := by
                      have h := hoA
                      unfold Own at h
                      rw [hrl2] at h
                      exact h
                    rw [hrl2]
                    clear hsB hpl hpx hx hoks hoA
                    go_wp2
                    refine at_world (fun W => Below w2.heap.size w2 W ∧ PBlock W w3.heap.size 0 bb ∧ PBlock W g (q * 3) x ∧ W.ownsRow w2.heap.size 43 3 (.slice (some ⟨g, 0, none⟩) (q + 1) gcap) (q + 1) ((ldRows L (q + 1 + 1)).flatMap fBlock.enc)) ⟨hBa, hbx, hpm, hoB⟩ ?_
                    clear hbx hoB hBa hpm
                    rintro W ⟨hBW, hbW, hpW, hoW⟩
                    obtain ⟨c0, c1, c2⟩ := id hbW
                    obtain ⟨d0, d1, d2⟩ := id hpW
                    cases hbf : beforeB x bb
                    · have hC7 : ldC L (q + 1 + 1) = 7 := by rw [hC, if_pos ⟨by omega, hbf⟩]
                      have HR := Lib.hid (ldRes_bad HG.out HH.out (by rw [← HL.out]; exact ldBad_some hlt (by omega) HF.out (by rw [hC7]; decide)))
                      have HC := Lib.hid hC7
                      have hcm : 0 ≤ cmpB x bb := by have := cmpB_lt x bb; rw [hbf] at this; simpa using this
                      have e14 : decide (0 ≤ cmpB x bb) = true := by simpa using hcm
                      clear hC hC7 hbf
                      have gc0 := cell_regrown c0
                      have gc1 := cell_regrown c1
                      have gc2 := cell_regrown c2
                      have gd0 := cell_regrown d0
                      have gd1 := cell_regrown d1
                      have gd2 := cell_regrown d2
                      refine wp_region_mix (C := fun w' => ∃ p : Regrown, w' = Go.Sort.grow (redrawn W p.d) p.os) [true, true, true, true, true, true, true, true, true, true, true, true, true, false, true, true] (by kernel_rfl) (by kernel_rfl) (by kernel_rfl) (fun _ _ d _ _ h => by cases d <;> exact h) (regrown_of_below (Below.drew (Below.refl _ _))) ?_
                      have hS0 : Below W.heap.size W W.drew := Below.drew (Below.refl _ _)
                      refine wpMix_pure (by kernel_rfl) (fun K hK => ?_)
                      go_big_quiet_op
                      refine hK _ ?_; clear hK K
                      refine wpMix_pure (by kernel_rfl) (fun K hK => ?_)
                      go_big_quiet_op
                      refine hK _ ?_; clear hK K
                      refine wpMix_pure (by kernel_rfl) (fun K hK => ?_)
                      go_big_quiet_op
                      refine hK _ ?_; clear hK K
                      refine wpMix_pure (by kernel_rfl) (fun K hK => ?_)
                      go_big_quiet_op
                      refine hK _ ?_; clear hK K
                      refine wpMix_pure (by kernel_rfl) (fun K hK => ?_)
                      go_big_quiet_op
                      refine hK _ ?_; clear hK K
                      refine wpMix_pure (by kernel_rfl) (fun K hK => ?_)
                      go_big_quiet_op
                      refine hK _ ?_; clear hK K
                      refine wpMix_pure (by kernel_rfl) (fun K hK => ?_)
                      go_big_quiet_op
                      refine hK _ ?_; clear hK K
                      refine wpMix_pure (by kernel_rfl) (fun K hK => ?_)
                      go_big_quiet_op
                      refine hK _ ?_; clear hK K
                      refine wpMix_pure (by kernel_rfl) (fun K hK => ?_)
                      go_big_quiet_op
                      refine hK _ ?_; clear hK K
                      refine wpMix_pure (by kernel_rfl) (fun K hK => ?_)
                      go_big_quiet_op
                      refine hK _ ?_; clear hK K
                      refine wpMix_pure (by kernel_rfl) (fun K hK => ?_)
                      go_big_quiet_op
                      refine hK _ ?_; clear hK K
                      refine wpMix_pure (by kernel_rfl) (fun K hK => ?_)
                      go_big_quiet_op
                      refine hK _ ?_; clear hK K
                      refine wpMix_pure (by kernel_rfl) (fun K hK => ?_)
                      go_big_quiet_op
                      refine hK _ ?_; clear hK K
                      refine wpMix_act (by kernel_rfl) (fun K hK => ?_)
                      go_big_op
                      refine (compareBlocks_any x bb _).mono ?_
                      rintro e wr1 ⟨rfl, hbr1⟩
                      have hbr1S : Below W.heap.size W wr1 := hS0.trans (hbr1.mono hS0.size)
                      refine hK _ _ (regrown_of_below hbr1S) ?_
                      clear hK K
                      refine wpMix_pure (by kernel_rfl) (fun K hK => ?_)
                      go_big_quiet_op
                      refine hK _ ?_; clear hK K
                      refine wpMix_pure (by kernel_rfl) (fun K hK => ?_)
                      go_big_quiet_op
                      refine hK _ ?_; clear hK K
                      refine wpMix_nil ?_
                      have hB9 := hB2.trans ((hBW.trans ((hbr1S).mono hBW.size)).mono hB2.size)
                      go_wp2
                      go_ret3
                      exact LdR.of2 HR.out (by push_cast; omega) (by rw [← HL.out]; exact HC.out) (New.nil hB9)
                    · have hC0 : ldC L (q + 1 + 1) = 0 := by rw [hC, if_neg (by rw [hbf]; rintro ⟨_, h⟩; cases h)]
                      have HF2 : Hid (ldFine L (q + 1 + 1 + 1)) := ldFine_step HF.out hC0
                      have hcm : cmpB x bb < 0 := by have := cmpB_lt x bb; rw [hbf] at this; simpa using this
                      have e14 : decide (0 ≤ cmpB x bb) = false := by simp; omega
                      clear hC hC0 hbf
                      have gc0 := cell_regrown c0
                      have gc1 := cell_regrown c1
                      have gc2 := cell_regrown c2
                      have gd0 := cell_regrown d0
                      have gd1 := cell_regrown d1
                      have gd2 := cell_regrown d2
                      refine wp_region_mix (C := fun w' => ∃ p : Regrown, w' = Go.Sort.grow (redrawn W p.d) p.os) [true, true, true, true, true, true, true, true, true, true, true, true, true, false, true, true] (by kernel_rfl) (by kernel_rfl) (by kernel_rfl) (fun _ _ d _ _ h => by cases d <;> exact h) (regrown_of_below (Below.drew (Below.refl _ _))) ?_
                      have hS0 : Below W.heap.size W W.drew := Below.drew (Below.refl _ _)
                      refine wpMix_pure (by kernel_rfl) (fun K hK => ?_)
                      go_big_quiet_op
                      refine hK _ ?_; clear hK K
                      refine wpMix_pure (by kernel_rfl) (fun K hK => ?_)
                      go_big_quiet_op
                      refine hK _ ?_; clear hK K
                      refine wpMix_pure (by kernel_rfl) (fun K hK => ?_)
                      go_big_quiet_op
                      refine hK _ ?_; clear hK K
                      refine wpMix_pure (by kernel_rfl) (fun K hK => ?_)
                      go_big_quiet_op
                      refine hK _ ?_; clear hK K
                      refine wpMix_pure (by kernel_rfl) (fun K hK => ?_)
                      go_big_quiet_op
                      refine hK _ ?_; clear hK K
                      refine wpMix_pure (by kernel_rfl) (fun K hK => ?_)
                      go_big_quiet_op
                      refine hK _ ?_; clear hK K
                      refine wpMix_pure (by kernel_rfl) (fun K hK => ?_)
                      go_big_quiet_op
                      refine hK _ ?_; clear hK K
                      refine wpMix_pure (by kernel_rfl) (fun K hK => ?_)
                      go_big_quiet_op
                      refine hK _ ?_; clear hK K
                      refine wpMix_pure (by kernel_rfl) (fun K hK => ?_)
                      go_big_quiet_op
                      refine hK _ ?_; clear hK K
                      refine wpMix_pure (by kernel_rfl) (fun K hK => ?_)
                      go_big_quiet_op
                      refine hK _ ?_; clear hK K
                      refine wpMix_pure (by kernel_rfl) (fun K hK => ?_)
                      go_big_quiet_op
                      refine hK _ ?_; clear hK K
                      refine wpMix_pure (by kernel_rfl) (fun K hK => ?_)
                      go_big_quiet_op
                      refine hK _ ?_; clear hK K
                      refine wpMix_pure (by kernel_rfl) (fun K hK => ?_)
                      go_big_quiet_op
                      refine hK _ ?_; clear hK K
                      refine wpMix_act (by kernel_rfl) (fun K hK => ?_)
                      go_big_op
                      refine (compareBlocks_any x bb _).mono ?_
                      rintro e wr1 ⟨rfl, hbr1⟩
                      have hbr1S : Below W.heap.size W wr1 := hS0.trans (hbr1.mono hS0.size)
                      refine hK _ _ (regrown_of_below hbr1S) ?_
                      clear hK K
                      refine wpMix_pure (by kernel_rfl) (fun K hK => ?_)
                      go_big_quiet_op
                      refine hK _ ?_; clear hK K
                      refine wpMix_pure (by kernel_rfl) (fun K hK => ?_)
                      go_big_quiet_op
                      refine hK _ ?_; clear hK K
                      refine wpMix_nil ?_
                      have hBc := hBW.trans ((hbr1S).mono hBW.size)
                      have ho3 : (wr1).ownsRow w2.heap.size 43 3 (.slice (some ⟨g, 0, none⟩) (q + 1) gcap) (q + 1) ((ldRows L (q + 1 + 1)).flatMap fBlock.enc) := Own.below (E := fBlock) (L := ldRows L (q + 1 + 1)) (by unfold Own; rw [hrl2]; exact hoW) (hbr1S) |> fun h => by unfold Own at h; rw [hrl2] at h; exact h
                      have hs2 := hBc.size
                      obtain ⟨c0, c1, c2⟩ := hbW.below' (hbr1S)
                      clear gc0 gc1 gc2 gd0 gd1 gd2 hoW
                      go_wp2_with (at_builtin; refine wpList_append_one rfl _ _ 22 rfl w2.heap.size 43 i0 (.agg #[.string ⟨#[]⟩, .string ⟨#[]⟩, .string ⟨#[]⟩]) 3 48 Tryz.underlying22 hi hz0 hz1 hz2 rfl (by decide) (.slice (some ⟨g, 0, none⟩) (q + 1) gcap) (q + 1) _ rfl ho3 [.string bb.kind, .string bb.name, .string bb.text] rfl (by intro u hu; simp at hu; rcases hu with rfl | rfl | rfl <;> rfl) rfl (by omega) (by decide) hs2 ?_)
                      intro v' u hown hbu _ _
                      have hbu' := hBc.trans hbu
                      have ho5 : Own fBlock u w2.heap.size 43 v' (ldRows L (q + 1 + 1 + 1)) := by rw [HST.out]; exact Own.push _ (by omega) hown
                      clear hown
                      go_wp2
                      go_roundw
                      case rel => exact ⟨q + 1 + 1, by omega, by go_num, HF2, ho5, hbu'⟩
                      case measure => simp [intOf]; omega
                · rw [if_pos h0c] at hC
                  have HR := Lib.hid (ldRes_bad HG.out HH.out (by rw [← HL.out]; exact ldBad_some hlt (by omega) HF.out (by rw [hC]; exact h0c)))
                  have HC := Lib.hid hC
                  have e2 : (cc != 0) = true := by rw [bne_iff_ne]; exact h0c
                  have e3 : (cc == 0) = false := by rw [beq_eq_false_iff_ne]; exact h0c
                  clear hC
                  go_wp2
                  refine at_world (fun W => Below w2.heap.size w2 W) hBa ?_
                  clear hbx hoA hBa
                  intro W hBW
                  refine wp_region_mix (C := fun w' => ∃ p : Regrown, w' = Go.Sort.grow (redrawn W p.d) p.os) [true, true, true, true, true, true, true, true, true, true, true, true, true, false, true, true] (by kernel_rfl) (by kernel_rfl) (by kernel_rfl) (fun _ _ d _ _ h => by cases d <;> exact h) (regrown_of_below (Below.drew (Below.refl _ _))) ?_
                  have hS0 : Below W.heap.size W W.drew := Below.drew (Below.refl _ _)
                  refine wpMix_pure (by kernel_rfl) (fun K hK => ?_)
                  go_big_quiet_op
                  refine hK _ ?_; clear hK K
                  refine wpMix_pure (by kernel_rfl) (fun K hK => ?_)
                  go_big_quiet_op
                  refine hK _ ?_; clear hK K
                  refine wpMix_pure (by kernel_rfl) (fun K hK => ?_)
                  go_big_quiet_op
                  refine hK _ ?_; clear hK K
                  refine wpMix_skip (by kernel_rfl) (fun K hK => ?_)
                  simp only [Act.put, List.setIfInBounds_toArray, List.set_cons_zero, List.set_cons_succ]
                  refine hK _ ?_; clear hK K
                  refine wpMix_skip (by kernel_rfl) (fun K hK => ?_)
                  simp only [Act.put, List.setIfInBounds_toArray, List.set_cons_zero, List.set_cons_succ]
                  refine hK _ ?_; clear hK K
                  refine wpMix_pure (by kernel_rfl) (fun K hK => ?_)
                  go_big_quiet_op
                  refine hK _ ?_; clear hK K
                  refine wpMix_pure (by kernel_rfl) (fun K hK => ?_)
                  go_big_quiet_op
                  refine hK _ ?_; clear hK K
                  refine wpMix_skip (by kernel_rfl) (fun K hK => ?_)
                  simp only [Act.put, List.setIfInBounds_toArray, List.set_cons_zero, List.set_cons_succ]
                  refine hK _ ?_; clear hK K
                  refine wpMix_skip (by kernel_rfl) (fun K hK => ?_)
                  simp only [Act.put, List.setIfInBounds_toArray, List.set_cons_zero, List.set_cons_succ]
                  refine hK _ ?_; clear hK K
                  refine wpMix_skip (by kernel_rfl) (fun K hK => ?_)
                  simp only [Act.put, List.setIfInBounds_toArray, List.set_cons_zero, List.set_cons_succ]
                  refine hK _ ?_; clear hK K
                  refine wpMix_skip (by kernel_rfl) (fun K hK => ?_)
                  simp only [Act.put, List.setIfInBounds_toArray, List.set_cons_zero, List.set_cons_succ]
                  refine hK _ ?_; clear hK K
                  refine wpMix_skip (by kernel_rfl) (fun K hK => ?_)
                  simp only [Act.put, List.setIfInBounds_toArray, List.set_cons_zero, List.set_cons_succ]
                  refine hK _ ?_; clear hK K
                  refine wpMix_skip (by kernel_rfl) (fun K hK => ?_)
                  simp only [Act.put, List.setIfInBounds_toArray, List.set_cons_zero, List.set_cons_succ]
                  refine hK _ ?_; clear hK K
                  refine wpMix_skip (by kernel_rfl) (fun K hK => ?_)
                  simp only [Act.put, List.setIfInBounds_toArray, List.set_cons_zero, List.set_cons_succ]
                  refine hK _ ?_; clear hK K
                  refine wpMix_skip (by kernel_rfl) (fun K hK => ?_)
                  simp only [Act.put, List.setIfInBounds_toArray, List.set_cons_zero, List.set_cons_succ]
                  refine hK _ ?_; clear hK K
                  refine wpMix_pure (by kernel_rfl) (fun K hK => ?_)
                  go_big_quiet_op
                  refine hK _ ?_; clear hK K
                  refine wpMix_nil ?_
                  have hB9 := hB2.trans ((hBW.trans ((hS0).mono hBW.size)).mono hB2.size)
                  go_wp2
                  go_ret3
                  exact LdR.of2 HR.out (by push_cast; omega) (by rw [← HL.out]; exact HC.out) (New.nil hB9)
              · obtain rfl : j = p := by omega
                have hoks := ldRows_ok (L := L) (k := j + 1) (by omega) HF.out
                have hbn : ldBad (linL s) = none := by rw [← HL.out]; exact ldBad_none (by rw [hp]; exact HF.out)
                have hB9 := hB2.trans (hb.mono hB2.size)
                obtain ⟨A9, cap9, rfl⟩ := ho.form
                by_cases hq : ((ldRows L (j + 1)).length : Int) = n
                · have HR := Lib.hid (ldRes_ok HG.out HH.out hbn (by rw [← HL.out, hp]; exact hq))
                  have hnew := (ho.new hb hoks).later hB2
                  have e5 : (((ldRows L (j + 1)).length : Int) == n) = true := by rw [beq_iff_eq]; exact hq
                  have e6 : (((ldRows L (j + 1)).length : Int) != n) = false := by rw [hq]; simp
                  clear hbn ho
                  go_wp2
                  go_ret3
                  exact LdR.of (by rw [HR.out, ← HL.out, hp]) hnew
                · have HR := Lib.hid (ldRes_short HG.out HH.out hbn (by rw [← HL.out, hp]; exact hq))
                  have e5 : (((ldRows L (j + 1)).length : Int) == n) = false := by rw [beq_eq_false_iff_ne]; exact hq
                  have e6 : (((ldRows L (j + 1)).length : Int) != n) = true := by rw [bne_iff_ne]; exact hq
                  clear hbn ho
                  go_wp2
                  go_ret3
                  exact LdR.of HR.out (New.nil hB9)

end Go.Proofs.YtaaholabodchaaaGreatDoor
