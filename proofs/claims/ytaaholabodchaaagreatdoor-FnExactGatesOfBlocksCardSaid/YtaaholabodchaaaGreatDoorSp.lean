/- Texts divided at each byte of a kind: plain laws; the reference's l01Split; strings.Split. Written by wip/gen/sp.py. -/
import Derived.Test.YtaaholabodchaaaGreatDoorAp
import Derived.Test.YtaaholabodchaaaGreatDoorTString
import Derived.Test.YtaaholabodchaaaGreatDoorShelf
import Derived.Lib.SplitLaws
namespace Go.Proofs.YtaaholabodchaaaGreatDoor
open Go.RowKit
set_option linter.unusedVariables false

def splL (c : UInt8) : List UInt8 → List (List UInt8)
  | [] => [[]]
  | b :: l => if b = c then [] :: splL c l else match splL c l with | [] => [[b]] | q :: r => (b :: q) :: r
theorem splL_ne (c : UInt8) : ∀ l, splL c l ≠ []
  | [] => by simp [splL]
  | b :: l => by
    unfold splL
    split
    · simp
    · split <;> simp
theorem splL_snoc (c : UInt8) (b : UInt8) : ∀ (l : List UInt8) (P : List (List UInt8)) (q : List UInt8), splL c l = P ++ [q] → splL c (l ++ [b]) = if b = c then P ++ [q] ++ [[]] else P ++ [q ++ [b]]
  | [], P, q, h => by
    have h' : [[]] = P ++ [q] := h
    cases P with
    | nil =>
      injection h' with h1 _
      subst h1
      show splL c [b] = _
      by_cases e : b = c <;> simp [splL, e]
    | cons p P => cases P <;> simp at h'
  | x :: l, P, q, h => by
    rw [List.cons_append]
    obtain ⟨P1, q1, h1⟩ : ∃ P1 q1, splL c l = P1 ++ [q1] := ⟨_, _, (List.dropLast_concat_getLast (splL_ne c l)).symm⟩
    have ih := splL_snoc c b l P1 q1 h1
    unfold splL at h ⊢
    by_cases e : x = c
    · rw [if_pos e] at h ⊢
      rw [h1, ← List.cons_append] at h
      obtain ⟨h2, h3⟩ := List.append_inj' h rfl
      subst h2
      injection h3 with h3 _
      subst h3
      rw [ih]
      by_cases eb : b = c
      · simp [eb]
      · simp [eb]
    · rw [if_neg e] at h ⊢
      rw [ih]
      rw [h1] at h
      cases P1 with
      | nil =>
        have h4 : [x :: q1] = P ++ [q] := h
        cases P with
        | nil =>
          injection h4 with h4 _
          subst h4
          by_cases eb : b = c <;> simp [eb]
        | cons p P => cases P <;> simp at h4
      | cons p1 P1 =>
        have h4 : ((x :: p1) :: P1) ++ [q1] = P ++ [q] := h
        obtain ⟨h2, h3⟩ := List.append_inj' h4 rfl
        subst h2
        injection h3 with h3 _
        subst h3
        by_cases eb : b = c <;> simp [eb]
theorem splL_none {c : UInt8} : ∀ {l : List UInt8}, (∀ b ∈ l, b ≠ c) → splL c l = [l]
  | [], _ => rfl
  | b :: l, h => by
    unfold splL
    rw [if_neg (h b (by simp)), splL_none (fun x hx => h x (by simp [hx]))]
/-- The pieces, each with the byte behind it but the last one, are the text. -/
theorem splL_join (c : UInt8) : ∀ (l : List UInt8) (P : List (List UInt8)) (q : List UInt8), splL c l = P ++ [q] → (P.flatMap fun p => p ++ [c]) ++ q = l
  | [], P, q, h => by
    have h' : [[]] = P ++ [q] := h
    cases P with
    | nil => injection h' with h1 _; subst h1; rfl
    | cons p P => cases P <;> simp at h'
  | x :: l, P, q, h => by
    obtain ⟨P1, q1, h1⟩ : ∃ P1 q1, splL c l = P1 ++ [q1] := ⟨_, _, (List.dropLast_concat_getLast (splL_ne c l)).symm⟩
    have ih := splL_join c l P1 q1 h1
    unfold splL at h
    by_cases e : x = c
    · rw [if_pos e, h1, ← List.cons_append] at h
      obtain ⟨h2, h3⟩ := List.append_inj' h rfl
      subst h2
      injection h3 with h3 _
      subst h3
      rw [List.flatMap_cons, List.append_assoc, ih, e]; rfl
    · rw [if_neg e, h1] at h
      cases P1 with
      | nil =>
        have h4 : [x :: q1] = P ++ [q] := h
        cases P with
        | nil =>
          injection h4 with h4 _
          subst h4
          rw [← ih]; rfl
        | cons p P => cases P <;> simp at h4
      | cons p1 P1 =>
        have h4 : ((x :: p1) :: P1) ++ [q1] = P ++ [q] := h
        obtain ⟨h2, h3⟩ := List.append_inj' h4 rfl
        subst h2
        injection h3 with h3 _
        subst h3
        rw [← ih]; simp
open Go.Lib in
theorem index_one (c : UInt8) (b : UInt8) (l : List UInt8) : index (b :: l) [c] = if b = c then 0 else if index l [c] == -1 then -1 else index l [c] + 1 := by
  rw [index]
  by_cases e : b = c
  · simp [List.isPrefixOf, e]
  · have e' : ¬ c = b := fun h => e h.symm
    simp [List.isPrefixOf, e, e']
open Go.Lib in
theorem splitK_one (c : UInt8) : ∀ l : List UInt8, splitK [c] 0 (count l [c]) l = splL c l
  | [] => by
    have h : index ([] : List UInt8) [c] = -1 := rfl
    rw [count_miss h]; rfl
  | b :: l => by
    have ih := splitK_one c l
    have hne : [c] ≠ ([] : List UInt8) := by simp
    have hi := index_one c b l
    unfold splL
    by_cases e : b = c
    · rw [if_pos e] at hi ⊢
      have hc := count_hit (i := 0) hne hi
      simp only [List.length_singleton, Nat.zero_add, List.drop_succ_cons, List.drop_zero] at hc
      rw [hc, Nat.add_comm 1, splitK, hi]
      simp [ih]
    · rw [if_neg e] at hi ⊢
      rcases index_spec l [c] with ⟨h1, _⟩ | ⟨i, h1, _⟩
      · rw [h1] at hi
        have hm : index (b :: l) [c] = -1 := hi
        rw [count_miss h1] at ih
        have ih' : [l] = splL c l := ih
        rw [count_miss hm, ← ih']; rfl
      · have hm : index (b :: l) [c] = ((i + 1 : Nat) : Int) := by
          rw [hi, h1, if_neg (by rw [beq_iff_eq]; omega)]; omega
        have c1 := count_hit hne h1
        have c2 := count_hit hne hm
        rw [c1, Nat.add_comm 1, splitK, h1, if_neg (by rw [beq_iff_eq]; omega)] at ih
        rw [c2, Nat.add_comm 1, splitK, hm, if_neg (by rw [beq_iff_eq]; omega), ← ih]
        simp
def splS (c : UInt8) (s : ByteArray) : List ByteArray := (splL c s.data.toList).map (fun l => ⟨l.toArray⟩)
theorem splS_data (c : UInt8) (s : ByteArray) : (splS c s).map (fun x : ByteArray => x.data.toList) = splL c s.data.toList := by
  unfold splS; rw [List.map_map]; simp [Function.comp_def]
theorem splS_of {c : UInt8} {s : ByteArray} {L : List ByteArray} (h : L.map (fun x : ByteArray => x.data.toList) = splL c s.data.toList) : L = splS c s := by
  unfold splS; rw [← h, List.map_map]
  have : ((fun l : List UInt8 => (⟨l.toArray⟩ : ByteArray)) ∘ fun x : ByteArray => x.data.toList) = id := by funext x; cases x; simp
  rw [this, List.map_id]
theorem splS_split (c : UInt8) (s : ByteArray) : Lib.splitB ⟨#[c]⟩ 0 (Lib.countB s ⟨#[c]⟩) s = splS c s := by
  refine splS_of ?_
  have h := Lib.splitB_data ⟨#[c]⟩ 0 (Lib.countB s ⟨#[c]⟩) s
  exact h.trans (splitK_one c s.data.toList)
/-- All but the last piece, and the last one. -/
theorem splS_cut (c : UInt8) (s : ByteArray) : ∃ (P : List ByteArray) (q : ByteArray), splS c s = P ++ [q] ∧ (P.flatMap fun p : ByteArray => p.data.toList ++ [c]) ++ q.data.toList = s.data.toList := by
  have hne : splS c s ≠ [] := by unfold splS; rw [Ne, List.map_eq_nil_iff]; exact splL_ne c _
  refine ⟨(splS c s).dropLast, (splS c s).getLast hne, (List.dropLast_concat_getLast hne).symm, ?_⟩
  have h := splS_data c s
  rw [← List.dropLast_concat_getLast hne, List.map_append] at h
  have h2 := splL_join c s.data.toList _ _ h.symm
  rw [List.flatMap_map] at h2
  exact h2
theorem infoStr4 : (Tryz.prog.info? 9).map (fun i => (i.zero, i.size, i.bytes)) = some (some (.string ⟨#[]⟩), 1, 16) := by kernel_rfl
def OwnRT {α : Type} (E : Flat α) (T : TypeId) (w : World) (xs : List α) (e : Ending) (w' : World) : Prop := ∃ v, e = .returned v ∧ Own E w' w.heap.size T v xs ∧ Below w.heap.size w w'
theorem extract_toList (s : ByteArray) (f k : Nat) : (s.extract f k).data.toList = (s.data.toList.take k).drop f := by
  rw [Lib.extract_data, List.drop_take]
set_option maxRecDepth 100000 in
set_option maxHeartbeats 2000000 in
theorem l01Split_any (s : ByteArray) (c : UInt8) (w : World) (hs : s.size ≤ 1048576) :
    Calls Tryz.prog 38 #[.string s, .int .u8 c.toNat] w fun e w' => OwnRT fStr 9 w (splS c s) e w' := by
  obtain ⟨i0, hi, hz0, hz1, hz2⟩ := info_parts infoStr4
  have hB0 : Below w.heap.size w (w.alloc (.cells #[] 9)) := (Below.refl _ _).alloc (Nat.le_refl _) _
  go_enter Tryz.func38, Tryz.ntmps38
  go_wp2
  go_loopw [5, 6, 7] (fun v a i wr => ∃ (k f : Nat) (L : List ByteArray), k ≤ s.size ∧ f ≤ k ∧ i = .int .i64 k ∧ a = .int .i64 f ∧ L.length ≤ k ∧ Hid (splL c (s.data.toList.take k) = L.map (fun x : ByteArray => x.data.toList) ++ [(s.extract f k).data.toList]) ∧ Own fStr wr w.heap.size 9 v L ∧ Below w.heap.size w wr) (fun _ _ i _ => s.size - (intOf i).toNat)
  case atStart => exact ⟨0, 0, [], Nat.zero_le _, Nat.le_refl _, rfl, rfl, Nat.le_refl _, by show _ = _; simp [splL], Own.lit0m fStr (Nat.le_refl _), hB0⟩
  case round =>
    obtain ⟨k, f, L, hk, hf, rfl, rfl, hL, HS, ho, hb⟩ := hrel
    by_cases hlt : k < s.size
    · have ht : s.data.toList.take (k + 1) = s.data.toList.take k ++ [s[k]] := by rw [List.take_succ_eq_append_getElem (by simpa using hlt)]; rfl
      have hsn := splL_snoc c s[k] _ _ _ HS.out
      rw [← ht] at hsn
      by_cases hc : s[k] = c
      · have e1 : (((s[k].toNat : Nat) : Int) == (c.toNat : Int)) = true := by rw [hc]; simp
        have HS2 : Hid (splL c (s.data.toList.take (k + 1)) = (L ++ [s.extract f k]).map (fun x : ByteArray => x.data.toList) ++ [(s.extract (k + 1) (k + 1)).data.toList]) := by
          show _ = _
          rw [hsn, if_pos hc, List.map_append, extract_toList s (k + 1) (k + 1), List.drop_of_length_le (by rw [List.length_take]; omega)]; rfl
        have hoW : wr.ownsRow w.heap.size 9 1 u5 L.length (L.flatMap fStr.enc) := ho
        have hs2 := hb.size
        clear ho hsn ht hc
        go_wp2_with (at_builtin; refine wpList_append_one rfl _ _ 37 rfl w.heap.size 9 i0 (.string ⟨#[]⟩) 1 16 Tryz.underlying37 hi hz0 hz1 hz2 rfl (by decide) u5 L.length _ rfl hoW [.string (s.extract f k)] rfl (by intro u hu; rw [List.mem_singleton] at hu; subst hu; rfl) rfl (by omega) (by decide) hs2 ?_)
        intro v' u hown hbu _ _
        have hbu' := hb.trans hbu
        have ho2 : Own fStr u w.heap.size 9 v' (L ++ [s.extract f k]) := Own.push _ rfl hown
        clear hown
        go_wp2
        go_roundw
        case rel => exact ⟨k + 1, k + 1, L ++ [s.extract f k], by omega, Nat.le_refl _, by go_num, by go_num, by simp; omega, HS2, ho2, hbu'⟩
        case measure => simp [intOf]; omega
      · have e1 : (((s[k].toNat : Nat) : Int) == (c.toNat : Int)) = false := by
          rw [beq_eq_false_iff_ne]; intro e; exact hc (UInt8.toNat_inj.1 (by omega))
        have HS2 : Hid (splL c (s.data.toList.take (k + 1)) = L.map (fun x : ByteArray => x.data.toList) ++ [(s.extract f (k + 1)).data.toList]) := by
          show _ = _
          rw [hsn, if_neg hc, extract_toList, extract_toList, ht, List.drop_append_of_le_length (by rw [List.length_take]; have h9 : s.data.toList.length = s.size := (by simp); omega)]
        clear hsn ht hc
        go_wp2
        go_roundw
        case rel => exact ⟨k + 1, f, L, by omega, by omega, by go_num, rfl, by omega, HS2, ho, hb⟩
        case measure => simp [intOf]; omega
    · have hke : k = s.size := by omega
      subst hke
      have hfin : L ++ [s.extract f s.size] = splS c s := splS_of (by
        have h := HS.out
        rw [List.take_of_length_le (by simp)] at h
        rw [h, List.map_append]; rfl)
      have HF := Lib.hid hfin
      clear hfin
      have hoW : wr.ownsRow w.heap.size 9 1 u5 L.length (L.flatMap fStr.enc) := ho
      have hs2 := hb.size
      clear ho
      go_wp2_with (at_builtin; refine wpList_append_one rfl _ _ 37 rfl w.heap.size 9 i0 (.string ⟨#[]⟩) 1 16 Tryz.underlying37 hi hz0 hz1 hz2 rfl (by decide) u5 L.length _ rfl hoW [.string (s.extract f s.size)] rfl (by intro u hu; rw [List.mem_singleton] at hu; subst hu; rfl) rfl (by omega) (by decide) hs2 ?_)
      intro v' u hown hbu _ _
      have hbu' := hb.trans hbu
      have ho2 : Own fStr u w.heap.size 9 v' (splS c s) := by rw [← HF.out]; exact Own.push _ rfl hown
      clear hown
      go_wp2
      go_ret
      exact ⟨_, rfl, ho2, hbu'⟩

end Go.Proofs.YtaaholabodchaaaGreatDoor
