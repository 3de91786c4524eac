
/- Whole numbers in decimal digits: plain laws; the reference's l01Dec. Written by wip/gen/de.py. -/
import Derived.Test.YtibihiejpieadaaSo
import Derived.Lib.ItoaNum
import Derived.Laws.IdiomStrings
namespace Go.Proofs.Ytibihiejpieadaa
open Go.RowKit
set_option linter.unusedVariables false

/-- The digits, none for 0. -/
def dig (u : Nat) : List UInt8 := if h : u = 0 then [] else dig (u / 10) ++ [UInt8.ofNat (48 + u % 10)]
termination_by u
decreasing_by omega
theorem dig_zero : dig 0 = [] := by rw [dig, dif_pos rfl]
theorem dig_step {u : Nat} (h : u ≠ 0) : dig u = dig (u / 10) ++ [UInt8.ofNat (48 + u % 10)] := by rw [dig, dif_neg h]
theorem dig_dec : ∀ (u : Nat), u ≠ 0 → Lib.decDigits u = dig u := by
  intro u
  induction u using Nat.strongRecOn with
  | _ u ih =>
    intro h
    rw [dig_step h, Lib.decDigits]
    by_cases h1 : u < 10
    · rw [dif_pos h1, Nat.div_eq_of_lt h1, dig_zero, Nat.mod_eq_of_lt h1]; rfl
    · rw [dif_neg h1, ih (u / 10) (by omega) (by omega)]
theorem dig_len : ∀ (k u : Nat), u < 10 ^ k → (dig u).length ≤ k
  | 0, u, h => by rw [Nat.pow_zero] at h; obtain rfl : u = 0 := (by omega); rw [dig_zero]; exact Nat.le_refl _
  | k + 1, u, h => by
    by_cases h0 : u = 0
    · subst h0; rw [dig_zero]; simp
    · rw [dig_step h0, List.length_append]
      have := dig_len k (u / 10) (by rw [Nat.pow_succ] at h; omega)
      simp; omega
def decS (n : Int) : ByteArray := ⟨(Lib.itoa n).toArray⟩
theorem decS_zero : decS 0 = ⟨#[48]⟩ := by unfold decS Lib.itoa; rw [if_neg (by decide), show (0 : Int).toNat = 0 from rfl, Lib.decDigits, dif_pos (by decide)]; rfl
theorem itoa_ne {n : Int} (h : n ≠ 0) : Lib.itoa n = (if n < 0 then [45] else []) ++ dig n.natAbs := by
  unfold Lib.itoa
  by_cases h1 : n < 0
  · rw [if_pos h1, if_pos h1, dig_dec _ (by omega)]; rfl
  · rw [if_neg h1, if_neg h1, show n.toNat = n.natAbs by omega, dig_dec _ (by omega)]; rfl
theorem Own.cellB {w : World} {base : Nat} {e : TypeId} {g n cap : Nat} {L : List UInt8} (h : Own fByte w base e (.slice (some ⟨g, 0, none⟩) n cap) L) {k : Nat} {x : UInt8} (hx : L[k]? = some x) : w.cell? ⟨g, k, none⟩ = some (.int .u8 x.toNat) := by
  have hn : n = L.length := by
    rcases h.2 with ⟨hv, _⟩ | ⟨g', cap', cur, hv, _⟩
    · cases hv
    · injection hv
  have h' : w.ownsRow base e 1 (.slice (some ⟨g, 0, none⟩) L.length cap) L.length (L.flatMap fByte.enc) := by rw [hn] at h; exact h
  have hk : k < L.length := by
    rcases Nat.lt_or_ge k L.length with h | h
    · exact h
    · rw [List.getElem?_eq_none h] at hx; cases hx
  rw [h'.cellAt k (by omega)]
  have := flat_get fByte.enc 1 L (fun x _ => fByte.len x) k hk 0 (by omega)
  simp only [Nat.mul_one, Nat.add_zero] at this
  rw [this]
  have e1 : L[k] = x := by rw [List.getElem?_eq_getElem hk] at hx; exact Option.some.inj hx
  rw [e1]; rfl
set_option maxRecDepth 100000 in
theorem infoU8d : (Try.prog.info? 5).map (fun i => (i.zero, i.size, i.bytes)) = some (some (.int .u8 0), 1, 1) := by kernel_rfl
set_option maxRecDepth 100000 in
/-- What a row of bytes of the call's own is as a text. -/
theorem Own.text {w : World} {base : Nat} {v : Value} {L : List UInt8} (h : Own fByte w base 5 v L) : (convert 22 9 v).run Try.prog w = .ok (.string ⟨L.toArray⟩) w := by
  obtain ⟨A, cap, rfl⟩ := h.form
  cases A with
  | none =>
    rcases h.2 with ⟨hv, hz⟩ | ⟨g', cap', cur, hv, _⟩
    · have : L = [] := List.eq_nil_of_length_eq_zero hz
      subst this
      show _ = Result.ok (Value.string ByteArray.empty) w
      exact run_convert_bytes_nil w _ _ Try.underlying22 Try.underlying5 _ _ _ Try.underlying9
    · cases hv
  | some A =>
    rcases h.2 with ⟨hv, _⟩ | ⟨g', cap', cur, hv, _⟩
    · cases hv
    · injection hv with h1 h2 h3
      injection h1 with h1
      subst h1
      refine run_convert_bytes_back w _ _ _ _ cap L Try.underlying22 Try.underlying5 Try.underlying9 (fun j hj => ?_)
      have h4 := h.cellB (k := j) (x := L[j]) (by simp [hj])
      have e : (⟨g', 0, none⟩ : Addr).add j = ⟨g', j, none⟩ := by unfold Addr.add; split <;> simp_all
      rw [e]; exact h4
theorem dig_pos {u : Nat} (h : u ≠ 0) : 0 < (dig u).length := by rw [dig_step h]; simp
theorem Own.addr {α : Type} {E : Flat α} {w : World} {base : Nat} {e : TypeId} {v : Value} {L : List α} (h : Own E w base e v L) (hne : 0 < L.length) : ∃ g cap, v = .slice (some ⟨g, 0, none⟩) L.length cap := by
  rcases h.2 with ⟨hv, hz⟩ | ⟨g', cap', cur, hv, _⟩
  · omega
  · exact ⟨g', cap', hv⟩
theorem digit_neg (u : Int) (h : u.tmod 10 < 0) : wrap64 (48 + wrap64 (-u.tmod 10)) % 256 = ((UInt8.ofNat (48 + u.natAbs % 10)).toNat : Int) := by
  have h1 : (u.tmod 10).natAbs = u.natAbs % 10 := Int.natAbs_tmod u 10
  rw [UInt8.toNat_ofNat']
  generalize u.tmod 10 = t at *
  generalize u.natAbs = a at *
  unfold wrap64
  omega
theorem digit_pos (u : Int) (h : ¬ u.tmod 10 < 0) : wrap64 (48 + u.tmod 10) % 256 = ((UInt8.ofNat (48 + u.natAbs % 10)).toNat : Int) := by
  have h1 : (u.tmod 10).natAbs = u.natAbs % 10 := Int.natAbs_tmod u 10
  rw [UInt8.toNat_ofNat']
  generalize u.tmod 10 = t at *
  generalize u.natAbs = a at *
  unfold wrap64
  omega
theorem dig_push {n u : Nat} {D : List UInt8} (hu : u ≠ 0) (h : dig n = dig u ++ D.reverse) : dig n = dig (u / 10) ++ (D ++ [UInt8.ofNat (48 + u % 10)]).reverse := by
  rw [h, dig_step hu]; simp
theorem dig_dlen {n u : Nat} {D : List UInt8} (hn : n ≤ 9223372036854775808) (h : dig n = dig u ++ D.reverse) : D.length ≤ 20 := by
  have h1 := dig_len 20 n (by omega)
  rw [h, List.length_append, List.length_reverse] at h1; omega
set_option maxRecDepth 100000 in
set_option maxHeartbeats 2000000 in
theorem l01Dec_any (n : Int) (w : World) (h0 : -9223372036854775808 ≤ n) (h1 : n ≤ 9223372036854775807) :
    Calls Try.prog 96 #[.int .i64 n] w fun e w' => e = .returned (.string (decS n)) ∧ Below w.heap.size w w' := by
  by_cases hz : n = 0
  · have e0 : (n == 0) = true := by rw [beq_iff_eq]; exact hz
    go_enter Try.func96, Try.ntmps96
    go_wp2
    go_ret
    exact ⟨by rw [show decS n = ⟨#[48]⟩ from by rw [hz]; exact decS_zero]; rfl, Below.refl _ _⟩
  · obtain ⟨i0, hi, hz0, hz1, hz2⟩ := info_parts infoU8d
    have hB0 : Below w.heap.size w (w.alloc (.cells #[] 5)) := (Below.refl _ _).alloc (Nat.le_refl _) _
    have e0 : (n == 0) = false := by rw [beq_eq_false_iff_ne]; exact hz
    go_enter Try.func96, Try.ntmps96
    go_wp2
    go_loopw [3, 4] (fun v m wr => ∃ (u : Int) (D : List UInt8), m = .int .i64 u ∧ (-9223372036854775808 ≤ u ∧ u ≤ 9223372036854775807) ∧ D.length ≤ 20 ∧ Hid (dig n.natAbs = dig u.natAbs ++ D.reverse) ∧ Own fByte wr w.heap.size 5 v D ∧ Below w.heap.size w wr) (fun _ m _ => (intOf m).natAbs)
    case atStart => exact ⟨n, [], rfl, ⟨h0, h1⟩, by simp, by show _ = _; simp, Own.lit0m fByte (Nat.le_refl _), hB0⟩
    case round =>
      obtain ⟨u, D, rfl, ⟨hu0, hu1⟩, hD, HS, ho, hb⟩ := hrel
      have hoW : wr.ownsRow w.heap.size 5 1 u3 D.length (D.flatMap fByte.enc) := ho
      have hs2 := hb.size
      by_cases hu : u = 0
      · subst hu
        have HZ : Hid (dig n.natAbs = D.reverse) := by have := HS.out; rw [show (0 : Int).natAbs = 0 from rfl, dig_zero] at this; exact this
        have e1 : ((0 : Int) == 0) = true := rfl
        by_cases hn : n < 0
        · clear ho
          go_wp2_with (at_builtin; refine wpList_append_one rfl _ _ 22 rfl w.heap.size 5 i0 (.int .u8 0) 1 1 Try.underlying22 hi hz0 hz1 hz2 rfl (by decide) u3 D.length _ rfl hoW [.int .u8 (45)] rfl (by intro u hu; rw [List.mem_singleton] at hu; subst hu; rfl) rfl (by omega) (by decide) hs2 ?_)
          intro v' w1 hown hbu _ _
          have hbu' := hb.trans hbu
          have hoD : Own fByte w1 w.heap.size 5 v' (D ++ [45]) := Own.push _ rfl hown
          clear hown
          obtain ⟨DD, hDD⟩ : ∃ E, E = D ++ [45] := ⟨_, rfl⟩
          have hDl : DD.length ≤ 21 := by rw [hDD]; simp; omega
          have hDp : 0 < DD.length := by rw [hDD]; simp
          rw [← hDD] at hoD
          have HDD := Lib.hid hDD
          clear hDD
          obtain ⟨oa, oc, rfl⟩ := hoD.addr hDp
          obtain ⟨W2, rfl⟩ : ∃ W, W = w1 := ⟨w1, rfl⟩
          go_wp2
          have hBW : Below W2.heap.size W2 (W2.alloc (.cells #[] 5)) := (Below.refl _ _).alloc (Nat.le_refl _) _
          go_loopw [6, 7] (fun v j wr => ∃ (k : Nat) (O : List UInt8), k ≤ DD.length ∧ j = .int .i64 ((k : Int) - 1) ∧ O.length ≤ 30 ∧ Hid (O = (DD.drop k).reverse) ∧ Own fByte wr W2.heap.size 5 v O ∧ Below W2.heap.size W2 wr) (fun _ j _ => (intOf j + 1).toNat)
          case atStart => exact ⟨DD.length, [], Nat.le_refl _, by first | rfl | (simp; done) | go_num, by simp, by show _ = _; simp, Own.lit0m fByte (Nat.le_refl _), hBW⟩
          case round =>
            obtain ⟨k, O, hk, rfl, hO, HO, hoO, hb2⟩ := hrel
            by_cases hk0 : k = 0
            · subst hk0
              have hfin : O = Lib.itoa n := by rw [HO.out, List.drop_zero]; rw [itoa_ne hz, if_pos (by omega), HZ.out, HDD.out]; simp
              have hcv := hoO.text
              have HF := Lib.hid hfin
              clear hfin
              go_wp2
              go_ret
              exact ⟨by rw [HF.out]; rfl, hbu'.trans (hb2.mono hbu'.size)⟩
            · obtain ⟨k, rfl⟩ : ∃ q, k = q + 1 := ⟨k - 1, by omega⟩
              have hkl : k < DD.length := by omega
              have hc0 := (hoD.below hb2).cellB (k := k) (x := DD[k]) (List.getElem?_eq_getElem hkl)
              have hoW : wr.ownsRow W2.heap.size 5 1 u6 O.length (O.flatMap fByte.enc) := hoO
              have hs2 := hb2.size
              have HO2 : Hid (O ++ [DD[k]] = (DD.drop k).reverse) := by
                show _ = _
                rw [HO.out, List.drop_eq_getElem_cons hkl, List.reverse_cons]
              have HOL : (O ++ [DD[k]]).length ≤ 30 := by rw [HO2.out]; simp; omega
              clear hoO
              rw [show (((k + 1 : Nat) : Int) - 1) = (k : Int) by omega]
              go_wp2_with (at_builtin; refine wpList_append_one rfl _ _ 22 rfl W2.heap.size 5 i0 (.int .u8 0) 1 1 Try.underlying22 hi hz0 hz1 hz2 rfl (by decide) u6 O.length _ rfl hoW [.int .u8 (DD[k].toNat : Int)] rfl (by intro u hu; rw [List.mem_singleton] at hu; subst hu; rfl) rfl (by omega) (by decide) hs2 ?_)
              intro v'' w3 hown hbu2 _ _
              have hb3 := hb2.trans hbu2
              have hoO3 : Own fByte w3 W2.heap.size 5 v'' (O ++ [DD[k]]) := Own.push _ rfl hown
              clear hown
              go_wp2
              go_roundw
              case measure => simp [intOf]
              case rel => exact ⟨k, O ++ [DD[k]], by omega, by go_num, HOL, HO2, hoO3, hb3⟩
        · have hoD := ho
          clear ho hoW
          have hDp : 0 < D.length := by have := dig_pos (u := n.natAbs) (by omega); rw [HZ.out] at this; simpa using this
          obtain ⟨oa, oc, rfl⟩ := hoD.addr hDp
          obtain ⟨W2, rfl⟩ : ∃ W, W = wr := ⟨wr, rfl⟩
          go_wp2
          have hBW : Below W2.heap.size W2 (W2.alloc (.cells #[] 5)) := (Below.refl _ _).alloc (Nat.le_refl _) _
          go_loopw [6, 7] (fun v j wr => ∃ (k : Nat) (O : List UInt8), k ≤ D.length ∧ j = .int .i64 ((k : Int) - 1) ∧ O.length ≤ 30 ∧ Hid (O = (D.drop k).reverse) ∧ Own fByte wr W2.heap.size 5 v O ∧ Below W2.heap.size W2 wr) (fun _ j _ => (intOf j + 1).toNat)
          case atStart => exact ⟨D.length, [], Nat.le_refl _, by first | rfl | (simp; done) | go_num, by simp, by show _ = _; simp, Own.lit0m fByte (Nat.le_refl _), hBW⟩
          case round =>
            obtain ⟨k, O, hk, rfl, hO, HO, hoO, hb2⟩ := hrel
            by_cases hk0 : k = 0
            · subst hk0
              have hfin : O = Lib.itoa n := by rw [HO.out, List.drop_zero]; rw [itoa_ne hz, if_neg (by omega), HZ.out]; rfl
              have hcv := hoO.text
              have HF := Lib.hid hfin
              clear hfin
              go_wp2
              go_ret
              exact ⟨by rw [HF.out]; rfl, hb.trans (hb2.mono hb.size)⟩
            · obtain ⟨k, rfl⟩ : ∃ q, k = q + 1 := ⟨k - 1, by omega⟩
              have hkl : k < D.length := by omega
              have hc0 := (hoD.below hb2).cellB (k := k) (x := D[k]) (List.getElem?_eq_getElem hkl)
              have hoW : wr.ownsRow W2.heap.size 5 1 u6 O.length (O.flatMap fByte.enc) := hoO
              have hs2 := hb2.size
              have HO2 : Hid (O ++ [D[k]] = (D.drop k).reverse) := by
                show _ = _
                rw [HO.out, List.drop_eq_getElem_cons hkl, List.reverse_cons]
              have HOL : (O ++ [D[k]]).length ≤ 30 := by rw [HO2.out]; simp; omega
              clear hoO
              rw [show (((k + 1 : Nat) : Int) - 1) = (k : Int) by omega]
              go_wp2_with (at_builtin; refine wpList_append_one rfl _ _ 22 rfl W2.heap.size 5 i0 (.int .u8 0) 1 1 Try.underlying22 hi hz0 hz1 hz2 rfl (by decide) u6 O.length _ rfl hoW [.int .u8 (D[k].toNat : Int)] rfl (by intro u hu; rw [List.mem_singleton] at hu; subst hu; rfl) rfl (by omega) (by decide) hs2 ?_)
              intro v'' w3 hown hbu2 _ _
              have hb3 := hb2.trans hbu2
              have hoO3 : Own fByte w3 W2.heap.size 5 v'' (O ++ [D[k]]) := Own.push _ rfl hown
              clear hown
              go_wp2
              go_roundw
              case measure => simp [intOf]
              case rel => exact ⟨k, O ++ [D[k]], by omega, by go_num, HOL, HO2, hoO3, hb3⟩
      · have e1 : (u == 0) = false := by rw [beq_eq_false_iff_ne]; exact hu
        have hd1 : (u.tdiv 10).natAbs = u.natAbs / 10 := Int.natAbs_tdiv u 10
        have hd2 : -9223372036854775808 ≤ u.tdiv 10 ∧ u.tdiv 10 ≤ 9223372036854775807 := by generalize u.tdiv 10 = t at *; omega
        have HS2 : Hid (dig n.natAbs = dig (u.tdiv 10).natAbs ++ (D ++ [UInt8.ofNat (48 + u.natAbs % 10)]).reverse) := by show _ = _; rw [hd1]; exact dig_push (by omega) HS.out
        have HL : (D ++ [UInt8.ofNat (48 + u.natAbs % 10)]).length ≤ 20 := dig_dlen (by omega) HS2.out
        by_cases hs : u.tmod 10 < 0
        · clear ho
          go_wp2_with (at_builtin; refine wpList_append_one rfl _ _ 22 rfl w.heap.size 5 i0 (.int .u8 0) 1 1 Try.underlying22 hi hz0 hz1 hz2 rfl (by decide) u3 D.length _ rfl hoW [.int .u8 (wrap64 (48 + wrap64 (-u.tmod 10)) % 256)] rfl (by intro u hu; rw [List.mem_singleton] at hu; subst hu; rfl) rfl (by omega) (by decide) hs2 ?_)
          intro v' w1 hown hbu _ _
          have hbu' := hb.trans hbu
          have ev : wrap64 (48 + wrap64 (-u.tmod 10)) % 256 = ((UInt8.ofNat (48 + u.natAbs % 10)).toNat : Int) := digit_neg u hs
          have ho2 : Own fByte w1 w.heap.size 5 v' (D ++ [UInt8.ofNat (48 + u.natAbs % 10)]) := by rw [ev] at hown; exact Own.push _ rfl hown
          clear hown
          go_wp2
          go_roundw
          case measure => show (u.tdiv 10).natAbs < u.natAbs; rw [hd1]; omega
          case rel => exact ⟨u.tdiv 10, D ++ [UInt8.ofNat (48 + u.natAbs % 10)], by go_num, hd2, HL, HS2, ho2, hbu'⟩
        · clear ho
          go_wp2_with (at_builtin; refine wpList_append_one rfl _ _ 22 rfl w.heap.size 5 i0 (.int .u8 0) 1 1 Try.underlying22 hi hz0 hz1 hz2 rfl (by decide) u3 D.length _ rfl hoW [.int .u8 (wrap64 (48 + u.tmod 10) % 256)] rfl (by intro u hu; rw [List.mem_singleton] at hu; subst hu; rfl) rfl (by omega) (by decide) hs2 ?_)
          intro v' w1 hown hbu _ _
          have hbu' := hb.trans hbu
          have ev : wrap64 (48 + u.tmod 10) % 256 = ((UInt8.ofNat (48 + u.natAbs % 10)).toNat : Int) := digit_pos u (by omega)
          have ho2 : Own fByte w1 w.heap.size 5 v' (D ++ [UInt8.ofNat (48 + u.natAbs % 10)]) := by rw [ev] at hown; exact Own.push _ rfl hown
          clear hown
          go_wp2
          go_roundw
          case measure => show (u.tdiv 10).natAbs < u.natAbs; rw [hd1]; omega
          case rel => exact ⟨u.tdiv 10, D ++ [UInt8.ofNat (48 + u.natAbs % 10)], by go_num, hd2, HL, HS2, ho2, hbu'⟩

end Go.Proofs.Ytibihiejpieadaa
