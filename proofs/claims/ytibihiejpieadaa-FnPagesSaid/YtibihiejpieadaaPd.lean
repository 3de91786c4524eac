
/- Draws of reports. Written by wip/gen/pd.py. -/
import Derived.Test.YtibihiejpieadaaDs
import Derived.Test.YtibihiejpieadaaPg
namespace Go.Proofs.Ytibihiejpieadaa
open Go.RowKit
set_option linter.unusedVariables false

def strOf0 (v : Value) : Nat := match v with | .string t => t.size | _ => 0
theorem infoStrD : (Try.prog.info? 9).map (fun i => (i.zero, i.size, i.bytes)) = some (some (.string ⟨#[]⟩), 1, 16) := by kernel_rfl
theorem made1 {α : Type} (E : Flat α) (z : α) (u : Value) (hz : E.enc z = [u]) (n : Nat) : madeCells #[u] n = ((List.replicate n z).flatMap E.enc).toArray := by
  have h : (List.replicate n z).flatMap E.enc = List.replicate n u := by
    induction n with
    | zero => rfl
    | succ n ih => rw [List.replicate_succ, List.flatMap_cons, ih, hz]; rfl
  rw [h]
  unfold madeCells
  apply Array.ext
  · simp
  · intro i h1 h2
    simp [Nat.mod_one]
theorem sl_madeS (w : World) (T : TypeId) (n : Nat) (h0 : 0 < n) (hn : n ≤ 1000) : Sl fStr.cod (w.alloc (.cells (madeCells #[.string ⟨#[]⟩] n) T)) (.slice (some ⟨w.heap.size, 0, none⟩) n n) (List.replicate n ⟨#[]⟩) [w.heap.size] := by
  have h := Sl.lit2 (E := fStr) w (List.replicate n (⟨#[]⟩ : ByteArray)) T _ (made1 fStr ⟨#[]⟩ _ rfl n) (fun x hx => by rw [List.eq_of_mem_replicate hx]; show _ ≤ _; decide) (by rw [List.length_replicate]; exact h0) (by rw [List.length_replicate]; omega)
  rw [List.length_replicate] at h
  exact h
theorem sl_madeI (w : World) (T : TypeId) (n : Nat) (h0 : 0 < n) (hn : n ≤ 1000) : Sl fInt.cod (w.alloc (.cells (madeCells #[.int .i64 0] n) T)) (.slice (some ⟨w.heap.size, 0, none⟩) n n) (List.replicate n 0) [w.heap.size] := by
  have h := Sl.lit2 (E := fInt) w (List.replicate n (0 : Int)) T _ (made1 fInt 0 _ rfl n) (fun x hx => by rw [List.eq_of_mem_replicate hx]; show _ ∧ _; decide) (by rw [List.length_replicate]; exact h0) (by rw [List.length_replicate]; omega)
  rw [List.length_replicate] at h
  exact h
def wordL : List ByteArray := [⟨#[97]⟩, ⟨#[99, 99, 99]⟩, ⟨#[49, 50]⟩, ⟨#[45, 53]⟩, ⟨#[115, 110, 111, 119]⟩, ⟨#[]⟩, ⟨#[120, 44, 121]⟩, ⟨#[126]⟩]
def spaceL : List ByteArray := [⟨#[]⟩, ⟨#[32]⟩, ⟨#[32, 32]⟩]
def badL : List ByteArray := [⟨#[10]⟩, ⟨#[97, 127]⟩, ⟨#[9]⟩]
theorem wordL_size {k : ByteArray} (h : k ∈ wordL) : k.size ≤ 4 := by
  have h1 : ∀ x ∈ wordL, x.size ≤ 4 := by decide
  exact h1 _ h
theorem spaceL_size {k : ByteArray} (h : k ∈ spaceL) : k.size ≤ 2 := by
  have h1 : ∀ x ∈ spaceL, x.size ≤ 2 := by decide
  exact h1 _ h
theorem badL_size {k : ByteArray} (h : k ∈ badL) : k.size ≤ 2 := by
  have h1 : ∀ x ∈ badL, x.size ≤ 2 := by decide
  exact h1 _ h
set_option maxRecDepth 100000 in
set_option maxHeartbeats 2000000 in
theorem l30DrawWord_any (n g : Nat) (w : World) (hs : SrcD n g w) (hn : n ≤ 999999990000) :
    Calls Try.prog 71 #[.pointer (some ⟨g, 0, none⟩)] w fun e w' => ∃ t : ByteArray, e = .returned (.string t) ∧ t.size ≤ 4 ∧ SrcD (n + 2) g w' ∧ Only [g] w w' := by
  have hg := hs.lt
  have hB : Below w.heap.size w (w.alloc (.cells #[.string ⟨#[97]⟩, .string ⟨#[99, 99, 99]⟩, .string ⟨#[49, 50]⟩, .string ⟨#[45, 53]⟩, .string ⟨#[115, 110, 111, 119]⟩, .string ⟨#[]⟩, .string ⟨#[120, 44, 121]⟩, .string ⟨#[126]⟩] 9)) := (Below.refl _ _).alloc (Nat.le_refl _) _
  go_enter Try.func71, Try.ntmps71
  go_wp2_with fail
  refine (text_any n g _ wordL [w.heap.size] _ (hs.below hB) (by omega) (slLit w 9 wordL _ rfl (by decide) (by decide) (by decide) _ _ rfl rfl) (by simp; omega) (by decide) (by decide)).mono ?_
  rintro e w1 ⟨t, ht, rfl, hs1, ho1⟩
  go_wp2
  go_ret
  exact ⟨t, rfl, wordL_size ht, hs1, Only.later hB ho1⟩
/-- What l30Draw returns: lines of the call's own, few and short. -/
def DrawnL (n g : Nat) (w : World) (e : Ending) (w' : World) : Prop := ∃ (v : Value) (xs : List ByteArray) (fp : List Nat), e = .returned v ∧ Sl fStr.cod w' v xs fp ∧ (∀ b ∈ fp, w.heap.size ≤ b) ∧ fp.Nodup ∧ xs.length ≤ 201 ∧ (∀ x ∈ xs, x.size ≤ 101) ∧ SrcD (n + 200) g w' ∧ Only [g] w w'
theorem DrawnL.own {n m g : Nat} {w u : World} {v : Value} {L : List ByteArray} {T : TypeId} (ho : Own fStr u w.heap.size T v L) (hl : L.length ≤ 201) (hsz : ∀ x ∈ L, x.size ≤ 101) (hs : SrcD m g u) (hm : m ≤ n + 200) (hor : Only [g] w u) : DrawnL n g w (.returned v) u := by
  obtain ⟨fp, hsl, hlo, hnd, _⟩ := own_fp ho (fun x hx => by have := hsz x hx; show _ ≤ _; omega)
  exact ⟨v, L, fp, rfl, hsl, hlo, hnd, hl, hsz, hs.mono hm, hor⟩
set_option maxRecDepth 100000 in
set_option maxHeartbeats 8000000 in
theorem l30Draw_any (n g : Nat) (w : World) (hs : SrcD n g w) (hn : n ≤ 999999970000) :
    Calls Try.prog 34 #[.pointer (some ⟨g, 0, none⟩)] w fun e w' => DrawnL n g w e w' := by
  have hg := hs.lt
  obtain ⟨i0, hi, hz0, hz1, hz2⟩ := info_parts infoStrD
  have hmk : ∀ (W : World) (k : Nat), k ≤ 1000 → (Instr.makeSlice 24 (.int .i64 (k : Int)) (.int .i64 (k : Int))).run Try.prog W = .ok (.slice (some ⟨W.heap.size, 0, none⟩) k k) (W.alloc (.cells (madeCells #[.string ⟨#[]⟩] k) 9)) := fun W k hk => by
    have h := run_make_rowN (P := Try.prog) 24 9 i0 _ Try.underlying24 hi hz0 .i64 .i64 k k (Nat.le_refl _) (by rw [hz2]; omega) (by omega) W
    rw [hz1, Nat.mul_one] at h
    exact h
  have hB0 : Below w.heap.size w (w.alloc (.cells #[] 9)) := (Below.refl _ _).alloc (Nat.le_refl _) _
  go_enter Try.func34, Try.ntmps34
  go_wp2_with fail
  refine (pick_any n g 8 _ (hs.below hB0) (by omega) (by omega)).mono ?_
  rintro e w1 ⟨q, rfl, ⟨hq0, hq1, _⟩, hs1, ho1⟩
  have hq2 := hq1 (by omega)
  obtain ⟨m, rfl⟩ : ∃ m : Nat, q = m := ⟨q.toNat, by omega⟩
  have hO1 : Only [g] w w1 := Only.later hB0 ho1
  have hown0 : Own fStr w1 w.heap.size 9 (.slice (some ⟨w.heap.size, 0, none⟩) 0 0) [] := Own.only (Own.lit0 fStr w _) ho1 (fun b hb => by simp at hb; subst hb; exact hg)
  go_wp2
  go_loopw [3, 4] (fun v k wr => ∃ (j : Nat) (L : List ByteArray), k = .int .i64 j ∧ j + L.length ≤ 7 ∧ Own fStr wr w.heap.size 9 v L ∧ (∀ x ∈ L, x.size ≤ 101) ∧ SrcD (n + 2 + 6 * L.length) g wr ∧ Only [g] w wr) (fun _ k _ => (intOf k).toNat)
  case atStart => exact ⟨m, [], rfl, by rw [List.length_nil]; omega, hown0, by simp, hs1, hO1⟩
  case round =>
    obtain ⟨j, L, rfl, hj, ho, hsz, hsr, hor⟩ := hrel
    have hgw := hsr.lt
    cases j with
    | zero =>
      go_wp2_with fail
      refine (pick_any _ g 20 _ hsr (by omega) (by omega)).mono ?_
      rintro e w2 ⟨q2, rfl, ⟨hq20, hq21, _⟩, hs2, ho2⟩
      have hq22 := hq21 (by omega)
      have hor2 := hor.trans ho2
      have hsz2 := hor2.size
      have hoW : w2.ownsRow w.heap.size 9 1 u3 L.length (L.flatMap fStr.enc) := Own.only ho ho2 (fun b hb => by simp at hb; subst hb; exact hg)
      by_cases h0 : q2 = 0
      · subst h0
        have hBL : Below w2.heap.size w2 (w2.alloc (.cells #[.string ⟨#[10]⟩, .string ⟨#[97, 127]⟩, .string ⟨#[9]⟩] 9)) := (Below.refl _ _).alloc (Nat.le_refl _) _
        go_wp2_with fail
        refine (text_any _ g _ badL [w2.heap.size] _ (hs2.below hBL) (by omega) (slLit w2 9 badL _ rfl (by decide) (by decide) (by decide) _ _ rfl rfl) (by have := hs2.lt; simp; omega) (by decide) (by decide)).mono ?_
        rintro e w3 ⟨t, ht, rfl, hs3, ho3⟩
        have hor3 := hor2.trans (Only.later hBL ho3)
        have hoW3 : w3.ownsRow w.heap.size 9 1 u3 L.length (L.flatMap fStr.enc) := Own.only (Own.only ho ho2 (fun b hb => by simp at hb; subst hb; exact hg)) (Only.later hBL ho3) (fun b hb => by simp at hb; subst hb; exact hg)
        have hsz3 := hor3.size
        have htz := badL_size ht
        clear hoW ho
        go_wp2_with (at_builtin; refine wpList_append_one rfl _ _ 24 rfl w.heap.size 9 i0 (.string ⟨#[]⟩) 1 16 Try.underlying24 hi hz0 hz1 hz2 rfl (by decide) u3 L.length _ rfl hoW3 [.string t] rfl (by intro u hu; rw [List.mem_singleton] at hu; subst hu; rfl) rfl (by omega) (by decide) hsz3 ?_)
        intro v' u hown hbu _ _
        have hoD : Own fStr u w.heap.size 9 v' (L ++ [t]) := Own.push t rfl hown
        clear hown
        have hor4 : Only [g] w u := hor3.then hbu
        have hs4 := hs3.belowB hbu hg
        go_wp2
        go_ret
        exact DrawnL.own hoD (by rw [List.length_append, List.length_singleton]; omega) (fun x hx => by
          rcases List.mem_append.1 hx with hx | hx
          · exact hsz x hx
          · rw [List.mem_singleton] at hx; subst hx; omega) hs4 (by omega) hor4
      · by_cases h1 : q2 = 1
        · subst h1
          have hBL : Below w2.heap.size w2 (w2.alloc (.cells #[.int .i64 200, .int .i64 201] 2)) := (Below.refl _ _).alloc (Nat.le_refl _) _
          clear hoW
          go_wp2_with fail
          refine (among_any _ g _ [200, 201] [w2.heap.size] _ (hs2.below hBL) (by omega) (slLitI w2 2 [200, 201] _ rfl (by decide) (by decide) (by decide) _ _ rfl rfl) (by have := hs2.lt; simp; omega) (by decide) (by decide)).mono ?_
          rintro e w3 ⟨t, ht, rfl, hs3, ho3⟩
          have hor3 := hor2.trans (Only.later hBL ho3)
          obtain ⟨k, rfl⟩ : ∃ k : Nat, t = k := ⟨t.toNat, by simp at ht; omega⟩
          have hk : 200 ≤ k ∧ k ≤ 201 := by simp at ht; omega
          clear ht
          have hmk1 := hmk w3 k (by omega)
          have hBm : Below w3.heap.size w3 (w3.alloc (.cells (madeCells #[.string ⟨#[]⟩] k) 9)) := (Below.refl _ _).alloc (Nat.le_refl _) _
          have hsl := sl_madeS w3 9 k (by omega) (by omega)
          go_wp2
          go_ret
          exact ⟨_, _, _, rfl, hsl, by simp; exact hor3.size, by simp, by rw [List.length_replicate]; omega, fun x hx => by rw [List.eq_of_mem_replicate hx]; decide, (hs3.below hBm).mono (by omega), hor3.then (hBm.mono hor3.size)⟩
        · by_cases h2 : q2 = 2
          · subst h2
            have hBL : Below w2.heap.size w2 (w2.alloc (.cells #[.int .i64 100, .int .i64 101] 2)) := (Below.refl _ _).alloc (Nat.le_refl _) _
            go_wp2_with fail
            refine (among_any _ g _ [100, 101] [w2.heap.size] _ (hs2.below hBL) (by omega) (slLitI w2 2 [100, 101] _ rfl (by decide) (by decide) (by decide) _ _ rfl rfl) (by have := hs2.lt; simp; omega) (by decide) (by decide)).mono ?_
            rintro e w3 ⟨t, ht, rfl, hs3, ho3⟩
            have hor3 := hor2.trans (Only.later hBL ho3)
            have hoW3 : w3.ownsRow w.heap.size 9 1 u3 L.length (L.flatMap fStr.enc) := Own.only (Own.only ho ho2 (fun b hb => by simp at hb; subst hb; exact hg)) (Only.later hBL ho3) (fun b hb => by simp at hb; subst hb; exact hg)
            obtain ⟨k, rfl⟩ : ∃ k : Nat, t = k := ⟨t.toNat, by simp at ht; omega⟩
            have hk : k ≤ 101 := by simp at ht; omega
            clear ht hoW ho
            go_wp2
            go_loopw [7] (fun s wr => ∃ t : ByteArray, s = .string t ∧ t.size ≤ k ∧ wr = w3) (fun s _ => k - strOf0 s)
            case atStart => exact ⟨⟨#[]⟩, rfl, Nat.zero_le _, rfl⟩
            case round =>
              obtain ⟨t, rfl, htk, rfl⟩ := hrel
              by_cases hlt : t.size < k
              · go_wp2
                go_roundw
                case rel => exact ⟨t ++ ⟨#[121]⟩, rfl, by rw [ByteArray.size_append]; show _ + 1 ≤ _; omega, trivial⟩
                case measure =>
                  show k - (t ++ ⟨#[121]⟩).size < k - t.size
                  rw [ByteArray.size_append]
                  show k - (t.size + 1) < _
                  omega
              · have htz : t.size ≤ 101 := by omega
                have hsz3 := hor3.size
                go_wp2_with (at_builtin; refine wpList_append_one rfl _ _ 24 rfl w.heap.size 9 i0 (.string ⟨#[]⟩) 1 16 Try.underlying24 hi hz0 hz1 hz2 rfl (by decide) u3 L.length _ rfl hoW3 [.string t] rfl (by intro u hu; rw [List.mem_singleton] at hu; subst hu; rfl) rfl (by omega) (by decide) hsz3 ?_)
                intro v' u hown hbu _ _
                have hoD : Own fStr u w.heap.size 9 v' (L ++ [t]) := Own.push t rfl hown
                clear hown
                have hor4 : Only [g] w u := hor3.then hbu
                have hs4 := hs3.belowB hbu hg
                go_wp2
                go_ret
                exact DrawnL.own hoD (by rw [List.length_append, List.length_singleton]; omega) (fun x hx => by
                  rcases List.mem_append.1 hx with hx | hx
                  · exact hsz x hx
                  · rw [List.mem_singleton] at hx; subst hx; omega) hs4 (by omega) hor4
          · have e0 : (q2 == 0) = false := by rw [beq_eq_false_iff_ne]; exact h0
            have e1 : (q2 == 1) = false := by rw [beq_eq_false_iff_ne]; exact h1
            have e2 : (q2 == 2) = false := by rw [beq_eq_false_iff_ne]; exact h2
            have ho2' := Own.only ho ho2 (fun b hb => by simp at hb; subst hb; exact hg)
            clear h0 h1 h2
            go_wp2
            go_ret
            exact DrawnL.own ho2' (by omega) hsz hs2 (by omega) hor2
    | succ j =>
      go_wp2_with fail
      refine (l30DrawWord_any _ g _ hsr (by omega)).mono ?_
      rintro e w2 ⟨t1, rfl, ht1, hs2, ho2⟩
      have hBL : Below w2.heap.size w2 (w2.alloc (.cells #[.string ⟨#[]⟩, .string ⟨#[32]⟩, .string ⟨#[32, 32]⟩] 9)) := (Below.refl _ _).alloc (Nat.le_refl _) _
      go_wp2_with fail
      refine (text_any _ g _ spaceL [w2.heap.size] _ (hs2.below hBL) (by omega) (slLit w2 9 spaceL _ rfl (by decide) (by decide) (by decide) _ _ rfl rfl) (by have := hs2.lt; simp; omega) (by decide) (by decide)).mono ?_
      rintro e w3 ⟨t2, ht2, rfl, hs3, ho3⟩
      have ht2z := spaceL_size ht2
      have ht12 : (t1 ++ t2).size ≤ 6 := by rw [ByteArray.size_append]; omega
      go_wp2_with fail
      refine (l30DrawWord_any _ g _ hs3 (by omega)).mono ?_
      rintro e w4 ⟨t3, rfl, ht3, hs4, ho4⟩
      have ht123 : (t1 ++ t2 ++ t3).size ≤ 101 := by rw [ByteArray.size_append]; omega
      have hor4 := ((hor.trans ho2).trans (Only.later hBL ho3)).trans ho4
      have hoW : w4.ownsRow w.heap.size 9 1 u3 L.length (L.flatMap fStr.enc) := Own.only (Own.only (Own.only ho ho2 (fun b hb => by simp at hb; subst hb; exact hg)) (Only.later hBL ho3) (fun b hb => by simp at hb; subst hb; exact hg)) ho4 (fun b hb => by simp at hb; subst hb; exact hg)
      have hsz2 := hor4.size
      clear ho
      go_wp2_with (at_builtin; refine wpList_append_one rfl _ _ 24 rfl w.heap.size 9 i0 (.string ⟨#[]⟩) 1 16 Try.underlying24 hi hz0 hz1 hz2 rfl (by decide) u3 L.length _ rfl hoW [.string (t1 ++ t2 ++ t3)] rfl (by intro u hu; rw [List.mem_singleton] at hu; subst hu; rfl) rfl (by omega) (by decide) hsz2 ?_)
      intro v' u hown hbu _ _
      have hoD : Own fStr u w.heap.size 9 v' (L ++ [(t1 ++ t2 ++ t3)]) := Own.push (t1 ++ t2 ++ t3) rfl hown
      clear hown
      have hor5 : Only [g] w u := hor4.then hbu
      have hs5 := hs4.belowB hbu hg
      go_wp2
      go_roundw
      case rel => exact ⟨j, L ++ [t1 ++ t2 ++ t3], by go_num, by rw [List.length_append, List.length_singleton]; omega, hoD, fun x hx => by
          rcases List.mem_append.1 hx with hx | hx
          · exact hsz x hx
          · rw [List.mem_singleton] at hx; subst hx; exact ht123, hs5.mono (by rw [List.length_append, List.length_singleton]; omega), hor5⟩
      case measure => simp [intOf]
def headL : List ByteArray := [⟨#[104, 101, 97, 100]⟩, ⟨#[]⟩, ⟨#[10]⟩, ⟨#[80, 97, 103, 101]⟩]
def findL : List ByteArray := [⟨#[97]⟩, ⟨#[99]⟩, ⟨#[49, 50]⟩, ⟨#[99, 99]⟩, ⟨#[]⟩, ⟨#[32]⟩, ⟨#[115, 110, 111, 119]⟩, ⟨#[113]⟩]
theorem headL_size {k : ByteArray} (h : k ∈ headL) : k.size ≤ 4 := by
  have h1 : ∀ x ∈ headL, x.size ≤ 4 := by decide
  exact h1 _ h
theorem findL_size {k : ByteArray} (h : k ∈ findL) : k.size ≤ 4 := by
  have h1 : ∀ x ∈ findL, x.size ≤ 4 := by decide
  exact h1 _ h
/-- Lines that are drawn: the call's own, few and short. -/
def LinesD (w w' : World) (v : Value) (xs : List ByteArray) : Prop := ∃ fp, Sl fStr.cod w' v xs fp ∧ (∀ b ∈ fp, w.heap.size ≤ b) ∧ fp.Nodup ∧ xs.length ≤ 201 ∧ (∀ x ∈ xs, x.size ≤ 101) ∧ Below w.heap.size w w'
set_option maxRecDepth 100000 in
set_option maxHeartbeats 2000000 in
theorem DrawPagesOf_any (v : Value) (xs : List UInt8) (fp : List Nat) (w : World) (hx : Sl fByte.cod w v xs fp) :
    Calls Try.prog 7 #[v] w fun e w' => ∃ (y : Value) (ys : List ByteArray) (h : Int) (hd : ByteArray), e = .returned (.tuple #[y, .int .i64 h, .string hd]) ∧ (1 ≤ h ∧ h ≤ 201) ∧ hd.size ≤ 4 ∧ LinesD w w' y ys := by
  go_enter Try.func7, Try.ntmps7
  go_wp2_with fail
  refine (l00From_any _ _ _ _ hx).mono ?_
  rintro e w1 ⟨rfl, hs1, hb1⟩
  have hsz := hb1.size
  go_wp2_with fail
  refine (l30Draw_any _ _ _ hs1 (by omega)).mono ?_
  rintro e w2 ⟨y, ys, fq, rfl, hsl, hlo, hnd, hl, hz, hs2, ho2⟩
  have hg : ∀ b ∈ fq, b ∉ [w.heap.size] := fun b hb => by have := hlo b hb; have := hs1.lt; simp; omega
  have hsz2 := ho2.size
  obtain ⟨g, hG⟩ : ∃ g, g = w.heap.size := ⟨_, rfl⟩
  have hof : ∀ b ∈ [g], w.heap.size ≤ b := by simp [hG]
  simp only [← hG] at hs1 hs2 ho2 hg ⊢
  clear hG
  have hBL : Below w2.heap.size w2 (w2.alloc (.cells #[.int .i64 2, .int .i64 3, .int .i64 5, .int .i64 200, .int .i64 201, .int .i64 1] 2)) := (Below.refl _ _).alloc (Nat.le_refl _) _
  go_wp2_with fail
  refine (among_any _ g _ [2, 3, 5, 200, 201, 1] [w2.heap.size] _ (hs2.below hBL) (by omega) (slLitI w2 2 [2, 3, 5, 200, 201, 1] _ rfl (by decide) (by decide) (by decide) _ _ rfl rfl) (by have := hs2.lt; simp; omega) (by decide) (by decide)).mono ?_
  rintro e w3 ⟨h, hh, rfl, hs3, ho3⟩
  have ho3' := Only.later hBL ho3
  clear hBL
  have hBL : Below w3.heap.size w3 (w3.alloc (.cells #[.string ⟨#[104, 101, 97, 100]⟩, .string ⟨#[]⟩, .string ⟨#[10]⟩, .string ⟨#[80, 97, 103, 101]⟩] 9)) := (Below.refl _ _).alloc (Nat.le_refl _) _
  go_wp2_with fail
  refine (text_any _ g _ headL [w3.heap.size] _ (hs3.below hBL) (by omega) (slLit w3 9 headL _ rfl (by decide) (by decide) (by decide) _ _ rfl rfl) (by have := hs3.lt; simp; omega) (by decide) (by decide)).mono ?_
  rintro e w4 ⟨hd, hhd, rfl, hs4, ho4⟩
  have ho4' := ho3'.trans (Only.later hBL ho4)
  obtain ⟨A, cap, rfl, _, _⟩ := hsl.form
  go_wp2
  go_ret3
  exact ⟨_, ys, h, hd, rfl, by simp at hh; omega, headL_size hhd, fq, hsl.only ho4' hg, fun b hb => Nat.le_trans hsz (hlo b hb), hnd, hl, hz, hb1.trans (ho2.below hsz hof |>.trans (ho4'.below (Nat.le_trans hsz hsz2) hof))⟩
set_option maxRecDepth 100000 in
set_option maxHeartbeats 2000000 in
theorem DrawFindLines_any (v : Value) (xs : List UInt8) (fp : List Nat) (w : World) (hx : Sl fByte.cod w v xs fp) :
    Calls Try.prog 9 #[v] w fun e w' => ∃ (y : Value) (ys : List ByteArray) (hd : ByteArray), e = .returned (.tuple #[y, .string hd]) ∧ hd.size ≤ 4 ∧ LinesD w w' y ys := by
  go_enter Try.func9, Try.ntmps9
  go_wp2_with fail
  refine (l00From_any _ _ _ _ hx).mono ?_
  rintro e w1 ⟨rfl, hs1, hb1⟩
  have hsz := hb1.size
  go_wp2_with fail
  refine (l30Draw_any _ _ _ hs1 (by omega)).mono ?_
  rintro e w2 ⟨y, ys, fq, rfl, hsl, hlo, hnd, hl, hz, hs2, ho2⟩
  have hg : ∀ b ∈ fq, b ∉ [w.heap.size] := fun b hb => by have := hlo b hb; have := hs1.lt; simp; omega
  have hsz2 := ho2.size
  obtain ⟨g, hG⟩ : ∃ g, g = w.heap.size := ⟨_, rfl⟩
  have hof : ∀ b ∈ [g], w.heap.size ≤ b := by simp [hG]
  simp only [← hG] at hs1 hs2 ho2 hg ⊢
  clear hG
  have hBL : Below w2.heap.size w2 (w2.alloc (.cells #[.string ⟨#[97]⟩, .string ⟨#[99]⟩, .string ⟨#[49, 50]⟩, .string ⟨#[99, 99]⟩, .string ⟨#[]⟩, .string ⟨#[32]⟩, .string ⟨#[115, 110, 111, 119]⟩, .string ⟨#[113]⟩] 9)) := (Below.refl _ _).alloc (Nat.le_refl _) _
  go_wp2_with fail
  refine (text_any _ g _ findL [w2.heap.size] _ (hs2.below hBL) (by omega) (slLit w2 9 findL _ rfl (by decide) (by decide) (by decide) _ _ rfl rfl) (by have := hs2.lt; simp; omega) (by decide) (by decide)).mono ?_
  rintro e w4 ⟨hd, hhd, rfl, hs4, ho4⟩
  have ho4' := Only.later hBL ho4
  obtain ⟨A, cap, rfl, _, _⟩ := hsl.form
  go_wp2
  go_ret2
  exact ⟨_, ys, hd, rfl, findL_size hhd, fq, hsl.only ho4' hg, fun b hb => Nat.le_trans hsz (hlo b hb), hnd, hl, hz, hb1.trans (ho2.below hsz hof |>.trans (ho4'.below (Nat.le_trans hsz hsz2) hof))⟩

end Go.Proofs.Ytibihiejpieadaa
