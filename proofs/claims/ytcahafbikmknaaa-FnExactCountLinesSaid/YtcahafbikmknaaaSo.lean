/- Sorted strings: plain laws; the reference's insertion. Written by wip/gen/so.py. -/
import Derived.Test.YtcahafbikmknaaaAp
import Derived.Test.YtcahafbikmknaaaAll
import Derived.Test.YtcahafbikmknaaaCr
import Derived.Test.YtcahafbikmknaaaTString
namespace Go.Proofs.Ytcahafbikmknaaa
open Go.RowKit
set_option linter.unusedVariables false

/-! ### lists of strings in order -/
def Srt (L : List ByteArray) : Prop := L.Pairwise (fun a b => ltS b a = false)
def srtF (L : List ByteArray) : List ByteArray := L.mergeSort (fun a b => !ltS b a)
theorem leS_trans {a b c : ByteArray} (h1 : ltS b a = false) (h2 : ltS c b = false) : ltS c a = false := by
  cases h : ltS c a with
  | false => rfl
  | true =>
    cases h3 : ltS b c with
    | true => have := ltS_trans h3 h; rw [this] at h1; cases h1
    | false =>
      have := ltS_tri h3 h2
      subst this
      rw [h] at h1; cases h1
theorem leS_total (a b : ByteArray) : (!ltS b a || !ltS a b) = true := by
  cases h : ltS b a with
  | false => rfl
  | true => rw [ltS_asymm h]; rfl
theorem srtF_perm (L : List ByteArray) : (srtF L).Perm L := List.mergeSort_perm _ _
theorem srtF_srt (L : List ByteArray) : Srt (srtF L) := by
  have h := List.pairwise_mergeSort (le := fun a b => !ltS b a) (fun a b c h1 h2 => by simp at *; exact leS_trans h1 h2) leS_total L
  exact h.imp (fun h => by simpa using h)
theorem srt_unique {a b : List ByteArray} (ha : Srt a) (hb : Srt b) (h : a.Perm b) : a = b :=
  List.Perm.eq_of_pairwise (fun x y _ _ h1 h2 => ltS_tri h2 h1) ha hb h
theorem srtF_of {a L : List ByteArray} (ha : Srt a) (h : a.Perm L) : a = srtF L := srt_unique ha (srtF_srt L) (h.trans (srtF_perm L).symm)
theorem srtF_len (L : List ByteArray) : (srtF L).length = L.length := (srtF_perm L).length_eq
/-- x put in behind the first k of A. -/
theorem srt_insert {A : List ByteArray} {x : ByteArray} {k : Nat} (hA : Srt A) (h1 : ∀ y ∈ A.take k, ltS x y = false) (h2 : ∀ y ∈ A.drop k, ltS y x = false) : Srt (A.take k ++ x :: A.drop k) := by
  unfold Srt at *
  rw [List.pairwise_append, List.pairwise_cons]
  refine ⟨hA.take, ⟨h2, hA.drop⟩, ?_⟩
  intro a ha b hb
  rcases List.mem_cons.1 hb with rfl | hb
  · exact h1 a ha
  · rw [← List.take_append_drop k A, List.pairwise_append] at hA
    exact hA.2.2 a ha b hb
theorem srt_below {A : List ByteArray} {x : ByteArray} {k : Nat} (hA : Srt A) (hk : k < A.length) (h : ltS x A[k] = false) : ∀ y ∈ A.take (k + 1), ltS x y = false := by
  intro y hy
  obtain ⟨m, hm, rfl⟩ := List.getElem_of_mem hy
  simp at hm
  rw [List.getElem_take]
  rcases Nat.lt_or_ge m k with h2 | h2
  · exact leS_trans (List.pairwise_iff_getElem.1 hA m k (by omega) hk h2) h
  · obtain rfl : m = k := by omega
    exact h
theorem srt_take1 : ∀ L : List ByteArray, Srt (L.take 1)
  | [] => List.Pairwise.nil
  | x :: L => by simp [Srt]
theorem gtS_cases (a b : ByteArray) : (ltS b a = false ∧ Op.bytesLess a.toList b.toList = true) ∨ (ltS b a = false ∧ Op.bytesLess a.toList b.toList = false ∧ (a.toList == b.toList) = true) ∨ (ltS b a = true ∧ Op.bytesLess a.toList b.toList = false ∧ (a.toList == b.toList) = false) := by
  cases h : ltS b a with
  | true =>
    refine .inr (.inr ⟨rfl, ltS_asymm h, bytes_beq_false (fun e => ?_)⟩)
    subst e; rw [ltS_irrefl] at h; cases h
  | false =>
    cases h1 : ltS a b with
    | true => exact .inl ⟨rfl, h1⟩
    | false => exact .inr (.inl ⟨rfl, h1, eqS_true.2 (ltS_tri h1 h)⟩)
/-- The rows of the insertion: x at place k of A, R behind. -/
def insL (A : List ByteArray) (x : ByteArray) (R : List ByteArray) (k : Nat) : List ByteArray := A.take k ++ x :: (A.drop k ++ R)
theorem insL_len {A R : List ByteArray} {x : ByteArray} {k : Nat} (hk : k ≤ A.length) : (insL A x R k).length = A.length + 1 + R.length := by
  unfold insL; simp; omega
theorem insL_at {A R : List ByteArray} {x : ByteArray} {k : Nat} (hk : k ≤ A.length) : (insL A x R k)[k]? = some x := by
  unfold insL; rw [List.getElem?_append_right (by simp; omega)]; simp [Nat.min_eq_left hk]
theorem insL_before {A R : List ByteArray} {x : ByteArray} {k : Nat} (hk : k + 1 ≤ A.length) : (insL A x R (k + 1))[k]? = some A[k] := by
  unfold insL; rw [List.getElem?_append_left (by simp; omega)]; simp
theorem insL_swap {A R : List ByteArray} {x : ByteArray} {k : Nat} (hk : k + 1 ≤ A.length) : ((insL A x R (k + 1)).set (k + 1) A[k]).set k x = insL A x R k := by
  apply List.ext_getElem?
  intro j
  have hl : (A.take (k + 1)).length = k + 1 := by simp; omega
  have hl2 : (A.take k).length = k := by simp; omega
  have hd : A.drop k = A[k] :: A.drop (k + 1) := List.drop_eq_getElem_cons (by omega)
  unfold insL
  rw [List.getElem?_set, List.getElem?_set]
  simp only [List.length_set, List.length_append, hl, List.length_cons, List.length_drop]
  by_cases h1 : k = j
  · subst h1
    rw [if_pos rfl, if_pos (by omega), List.getElem?_append_right (by omega), hl2]
    simp
  · rw [if_neg h1]
    by_cases h2 : k + 1 = j
    · subst h2
      rw [if_pos rfl, if_pos (by omega), List.getElem?_append_right (by omega), hl2, hd]
      generalize A[k] = a
      generalize A.drop (k + 1) = D
      simp
    · rw [if_neg h2]
      rcases Nat.lt_or_ge j k with h3 | h3
      · rw [List.getElem?_append_left (by omega), List.getElem?_append_left (by omega), List.getElem?_take, List.getElem?_take, if_pos (by omega), if_pos h3]
      · rw [List.getElem?_append_right (by omega), List.getElem?_append_right (by omega), hl, hl2, hd]
        obtain ⟨d, rfl⟩ : ∃ d, j = k + 2 + d := ⟨j - k - 2, by omega⟩
        rw [show k + 2 + d - (k + 1) = d + 1 by omega, show k + 2 + d - k = d + 1 + 1 by omega]
        generalize A[k] = a
        generalize A.drop (k + 1) = D
        simp
theorem insL_perm {A R : List ByteArray} {x : ByteArray} {k : Nat} : (insL A x R k).Perm (A ++ x :: R) := by
  unfold insL
  have h1 : (A.take k ++ x :: (A.drop k ++ R)).Perm (x :: (A.take k ++ (A.drop k ++ R))) := List.perm_middle
  have h2 : (A ++ x :: R).Perm (x :: (A ++ R)) := List.perm_middle
  rw [← List.append_assoc, List.take_append_drop] at h1
  exact h1.trans h2.symm
theorem insL_app {A R : List ByteArray} {x : ByteArray} {k : Nat} : insL A x [] k ++ R = insL A x R k := by unfold insL; simp
theorem insL_full {A R : List ByteArray} {x : ByteArray} : insL A x R A.length = A ++ x :: R := by unfold insL; simp

/-! ### a place of a row of the call's own -/
theorem flat1_set {α : Type} {E : Flat α} (h1 : E.n = 1) : ∀ (L : List α) (k : Nat) (y : α) (u : Value), E.enc y = [u] → (L.flatMap E.enc).set k u = (L.set k y).flatMap E.enc
  | [], k, y, u, hu => by simp
  | x :: L, 0, y, u, hu => by
    have hl := E.len x
    rw [h1] at hl
    obtain ⟨a, ha⟩ := List.length_eq_one_iff.1 hl
    simp [ha, hu]
  | x :: L, k + 1, y, u, hu => by
    have hl := E.len x
    rw [h1] at hl
    obtain ⟨a, ha⟩ := List.length_eq_one_iff.1 hl
    have ih := flat1_set h1 L k y u hu
    simp [ha, ih]
theorem Own.set1 {α : Type} {E : Flat α} (h1 : E.n = 1) {w : World} {base : Nat} {e : TypeId} {g n cap : Nat} {L : List α} (h : Own E w base e (.slice (some ⟨g, 0, none⟩) n cap) L) (k : Nat) (y : α) (u : Value) (hu : E.enc y = [u]) :
    Own E (w.setCell ⟨g, k, none⟩ u) base e (.slice (some ⟨g, 0, none⟩) n cap) (L.set k y) := by
  have hn : n = L.length := by
    rcases h.2 with ⟨hv, _⟩ | ⟨g', cap', cur, hv, _⟩
    · cases hv
    · injection hv
  have h' : w.ownsRow base e E.n (.slice (some ⟨g, 0, none⟩) L.length cap) L.length (L.flatMap E.enc) := by rw [hn] at h; exact h
  have h2 := (h'.stored k u).1
  rw [flat1_set h1 L k y u hu] at h2
  show World.ownsRow _ base e E.n _ (L.set k y).length _
  rw [List.length_set, hn]
  exact h2
theorem Own.cellS {w : World} {base : Nat} {e : TypeId} {g n cap : Nat} {L : List ByteArray} (h : Own fStr w base e (.slice (some ⟨g, 0, none⟩) n cap) L) {k : Nat} {x : ByteArray} (hx : L[k]? = some x) : w.cell? ⟨g, k, none⟩ = some (.string x) := by
  have hn : n = L.length := by
    rcases h.2 with ⟨hv, _⟩ | ⟨g', cap', cur, hv, _⟩
    · cases hv
    · injection hv
  have h' : w.ownsRow base e 1 (.slice (some ⟨g, 0, none⟩) L.length cap) L.length (L.flatMap fStr.enc) := by rw [hn] at h; exact h
  have hk : k < L.length := by
    rcases Nat.lt_or_ge k L.length with h | h
    · exact h
    · rw [List.getElem?_eq_none h] at hx; cases hx
  rw [h'.cellAt k (by omega)]
  have := flat_get fStr.enc 1 L (fun x _ => fStr.len x) k hk 0 (by omega)
  simp only [Nat.mul_one, Nat.add_zero] at this
  rw [this]
  have e1 : L[k] = x := by rw [List.getElem?_eq_getElem hk] at hx; exact Option.some.inj hx
  rw [e1]; rfl
theorem Own.frozenS {α : Type} {E : Flat α} {w : World} {base : Nat} {e : TypeId} {g n cap : Nat} {L : List α} (h : Own E w base e (.slice (some ⟨g, 0, none⟩) n cap) L) (k : Nat) : w.frozen? ⟨g, k, none⟩ = false := by
  have hn : n = L.length := by
    rcases h.2 with ⟨hv, _⟩ | ⟨g', cap', cur, hv, _⟩
    · cases hv
    · injection hv
  have h' : w.ownsRow base e E.n (.slice (some ⟨g, 0, none⟩) L.length cap) L.length (L.flatMap E.enc) := by rw [hn] at h; exact h
  exact h'.frozenAt k
/-- The end of a call that hands back a row of its own. -/
def OwnRS {α : Type} (E : Flat α) (T : TypeId) (w : World) (xs : List α) (e : Ending) (w' : World) : Prop := ∃ v, e = .returned v ∧ Own E w' w.heap.size T v xs ∧ Below w.heap.size w w'
theorem infoStr3 : (Try.prog.info? 9).map (fun i => (i.zero, i.size, i.bytes)) = some (some (.string ⟨#[]⟩), 1, 16) := by kernel_rfl
set_option maxRecDepth 100000 in
set_option maxHeartbeats 4000000 in
theorem l30Sorted_any (v : Value) (xs : List ByteArray) (fp : List Nat) (w : World) (hx : Sl fStr.cod w v xs fp) (hl : xs.length ≤ 1000000) :
    Calls Try.prog 49 #[v] w fun e w' => OwnRS fStr 9 w (srtF xs) e w' := by
  obtain ⟨A0, cap0, rfl, hlen, hcap⟩ := hx.form
  obtain ⟨i0, hi, hz0, hz1, hz2⟩ := info_parts infoStr3
  have hB3 : Below w.heap.size w (w.alloc (.cells #[] 9)) := (Below.refl _ _).alloc (Nat.le_refl _) _
  have hx3 := hx.below' hB3
  have ho := Own.lit0m fStr (Nat.le_refl w.heap.size) (e := 9)
  have hs3 := hB3.size
  have hsrc := hx3.src
  go_enter Try.func49, Try.ntmps49
  go_wp2_with (at_builtin; refine wpList_append_src (E := fStr) rfl _ _ 22 rfl w.heap.size 9 i0 (.string ⟨#[]⟩) 16 Try.underlying22 hi hz0 hz1 hz2 rfl (.slice (some ⟨w.heap.size, 0, none⟩) 0 0) [] rfl ho _ xs rfl hsrc (by simp; omega) (by decide) hs3 ?_)
  intro v' u hown hbu
  try rw [List.nil_append] at hown
  have hB4 := hB3.trans hbu
  obtain ⟨A, cap, rfl⟩ := hown.form
  obtain ⟨n, hn⟩ : ∃ n, xs.length = n := ⟨_, rfl⟩
  rw [hn] at hown hl ⊢
  have Hn := Lib.hid hn
  clear hn
  go_wp2
  go_loopw [4] (fun i wr => ∃ k : Nat, 1 ≤ k ∧ i = .int .i64 k ∧ ∃ P R : List ByteArray, P.length + R.length = n ∧ (k ≤ n → P.length = k) ∧ (n < k → R = []) ∧ Srt P ∧ (P ++ R).Perm xs ∧ Own fStr wr w.heap.size 9 (.slice A n cap) (P ++ R) ∧ Below w.heap.size w wr) (fun i _ => n - (intOf i).toNat)
  case atStart =>
    have hn := Hn.out
    exact ⟨1, Nat.le_refl _, rfl, xs.take 1, xs.drop 1, by simp; omega, fun h => by simp; omega, fun h => List.drop_of_length_le (by omega), srt_take1 _, by rw [List.take_append_drop], by rw [List.take_append_drop]; exact hown, hB4⟩
  case round =>
    obtain ⟨k, hk1, rfl, P, R, hPR, hPk, hRk, hP, hperm, ho, hb⟩ := hrel
    by_cases hlt : k < n
    · have hPl := hPk (by omega)
      clear hPk hRk
      obtain ⟨x, R', rfl⟩ : ∃ x R', R = x :: R' := by
        cases R with
        | nil => simp at hPR; omega
        | cons x R' => exact ⟨x, R', rfl⟩
      obtain ⟨g, hA⟩ : ∃ g, A = some ⟨g, 0, none⟩ := by
        rcases ho.2 with ⟨hv, hz⟩ | ⟨g, cap', cur, hv, _⟩
        · simp at hz
        · injection hv with hv1; exact ⟨g, hv1⟩
      subst hA
      have hgB : w.heap.size ≤ g := by
        rcases ho.2 with ⟨hv, hz⟩ | ⟨g', cap', cur, hv, hg, _⟩
        · cases hv
        · injection hv with hv1; injection hv1 with hv1; injection hv1 with hv1; omega
      have hcapn : n ≤ cap ∧ cap ≤ 9223372036854775807 := by
        rcases ho.2 with ⟨hv, hz⟩ | ⟨g', cap', cur, hv, hg, _, h1, h2, _⟩
        · cases hv
        · injection hv with hv1 hv2 hv3
          subst hv3
          unfold maxLen at h2
          simp at h1 hPR
          exact ⟨by omega, h2⟩
      have hR' : P.length + 1 + R'.length = n := by simp at hPR; omega
      rw [← insL_full] at ho
      go_wp2
      go_loopw [5] (fun v wr => ∃ j : Nat, j ≤ k ∧ v = .int .i64 j ∧ Hid (∀ y ∈ P.drop j, ltS y x = false) ∧ Own fStr wr w.heap.size 9 (.slice (some ⟨g, 0, none⟩) n cap) (insL P x R' j) ∧ Below w.heap.size w wr) (fun v _ => (intOf v).toNat)
      case atStart => exact ⟨k, Nat.le_refl _, rfl, Lib.hid (by rw [List.drop_of_length_le (by omega)]; simp), by rw [← hPl]; exact ho, hb⟩
      case round =>
        obtain ⟨j, hj, rfl, HD, ho, hb⟩ := hrel
        cases j with
        | zero =>
          have hfin := srt_insert (k := 0) (x := x) hP (by simp) (by have := HD.out; simpa using this)
          have hpm : (insL P x R' 0).Perm xs := insL_perm.trans hperm
          have hl0 := insL_len (A := P) (R := R') (x := x) (k := 0) (by omega)
          go_wp2
          go_quiet (fail)
          go_wp2
          go_roundw
          case rel => exact ⟨k + 1, by omega, by go_num, insL P x [] 0, R', by rw [insL_len (by omega)]; simp; omega, fun h => by rw [insL_len (by omega)]; simp; omega, fun h => List.eq_nil_of_length_eq_zero (by omega), by simpa [insL] using hfin, by rw [insL_app]; exact hpm, by rw [insL_app]; exact ho, by first | exact hb | exact below_drewN hb _ | exact Below.drew hb⟩
          case measure => simp [intOf]; omega
        | succ m =>
          have hm1 : m + 1 ≤ P.length := by omega
          have c0 := ho.cellS (insL_before hm1)
          have c1 := ho.cellS (insL_at hm1)
          have f0 := ho.frozenS m
          have f1 := ho.frozenS (m + 1)
          rcases gtS_cases P[m] x with ⟨hlt2, e1⟩ | ⟨hlt2, e1, e2⟩ | ⟨hlt2, e1, e2⟩
          · skip
            have hfin := srt_insert (k := m + 1) (x := x) hP (srt_below hP (by omega) hlt2) HD.out
            have hpm : (insL P x R' (m + 1)).Perm xs := insL_perm.trans hperm
            go_wp2
            go_quiet (fail)
            go_wp2
            go_roundw
            case rel => exact ⟨k + 1, by omega, by go_num, insL P x [] (m + 1), R', by rw [insL_len (by omega)]; simp; omega, fun h => by rw [insL_len (by omega)]; simp; omega, fun h => List.eq_nil_of_length_eq_zero (by omega), by simpa [insL] using hfin, by rw [insL_app]; exact hpm, by rw [insL_app]; exact ho, by first | exact hb | exact below_drewN hb _ | exact Below.drew hb⟩
            case measure => simp [intOf]; omega
          · skip
            have hfin := srt_insert (k := m + 1) (x := x) hP (srt_below hP (by omega) hlt2) HD.out
            have hpm : (insL P x R' (m + 1)).Perm xs := insL_perm.trans hperm
            go_wp2
            go_quiet (fail)
            go_wp2
            go_roundw
            case rel => exact ⟨k + 1, by omega, by go_num, insL P x [] (m + 1), R', by rw [insL_len (by omega)]; simp; omega, fun h => by rw [insL_len (by omega)]; simp; omega, fun h => List.eq_nil_of_length_eq_zero (by omega), by simpa [insL] using hfin, by rw [insL_app]; exact hpm, by rw [insL_app]; exact ho, by first | exact hb | exact below_drewN hb _ | exact Below.drew hb⟩
            case measure => simp [intOf]; omega
          · skip
            have hd : P.drop m = P[m] :: P.drop (m + 1) := List.drop_eq_getElem_cons (by omega)
            have HD2 : Hid (∀ y ∈ P.drop m, ltS y x = false) := by
              show ∀ y ∈ P.drop m, ltS y x = false
              rw [hd]
              intro y hy
              rcases List.mem_cons.1 hy with rfl | hy
              · exact ltS_asymm hlt2
              · exact HD.out y hy
            have hset := ((ho.set1 rfl (m + 1) P[m] (.string P[m]) rfl).set1 rfl m x (.string x) rfl)
            rw [insL_swap hm1] at hset
            clear ho
            go_wp2
            go_quiet (fail)
            go_wp2
            go_roundw
            case rel => exact ⟨m, by omega, by go_num, HD2, by first | exact hset | exact hset.drewN _, by first | exact (hb.setCell (p := ⟨g, _, none⟩) hgB _).setCell (p := ⟨g, _, none⟩) hgB _ | exact ((below_drewN hb _).setCell (p := ⟨g, _, none⟩) hgB _).setCell (p := ⟨g, _, none⟩) hgB _⟩
            case measure => simp [intOf]
    · have hRn : R = [] := by
        rcases Nat.lt_or_ge n k with h | h
        · exact hRk h
        · exact List.eq_nil_of_length_eq_zero (by have := hPk h; omega)
      subst hRn
      rw [List.append_nil] at hperm ho
      have e2 := srtF_of hP hperm
      subst e2
      go_wp2
      go_ret
      exact ⟨_, rfl, ho, hb⟩

end Go.Proofs.Ytcahafbikmknaaa
