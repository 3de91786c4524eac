/- Parts of the proof: Rl, Ix, Dt, Dc, Rn, Rw, TxGroup, Ms, B10, WGroups, LawL, Dr, Open, Ob. -/
import Derived.Test.YtdpeffaplkbkgaaGreatDoorG04
import Derived.Test.YtdpeffaplkbkgaaGreatDoorG06
import Derived.Lib.CutLaws
import Derived.Test.YtdpeffaplkbkgaaGreatDoorG01
import Derived.Test.YtdpeffaplkbkgaaGreatDoorG05
import Derived.Test.YtdpeffaplkbkgaaGreatDoorG02
import Derived.Deep.CutRange
import Derived.LaidMore
import Derived.Stop.Joined
import Derived.Laws.Tables
import GoSem.PinnedTables
import Derived.Deep.Slices
import Derived.Deep.Fields
import Derived.OpenShut
namespace Go.Proofs.YtdpeffaplkbkgaaGreatDoor
open Go.RowKit
set_option linter.unusedVariables false

/-- Pieces without the byte, joined, are divided again. -/
theorem splL_app (c : UInt8) : ∀ (x l : List UInt8), (∀ b ∈ x, b ≠ c) → splL c (x ++ c :: l) = x :: splL c l
  | [], l, _ => by show (if c = c then [] :: splL c l else _) = _; rw [if_pos rfl]
  | b :: x, l, h => by
    have ih := splL_app c x l (fun y hy => h y (by simp [hy]))
    show (if b = c then [] :: splL c (x ++ c :: l) else match splL c (x ++ c :: l) with | [] => [[b]] | q :: r => (b :: q) :: r) = _
    rw [if_neg (h b (by simp)), ih]
theorem spl_joinX : ∀ (L : List (List UInt8)), L ≠ [] → (∀ x ∈ L, ∀ b ∈ x, b ≠ 44) → splL 44 (joinX L) = L
  | [], h, _ => absurd rfl h
  | [x], _, h => by rw [joinX_one]; exact splL_none (h x (by simp))
  | x :: y :: r, _, h => by
    have e : joinX (x :: y :: r) = x ++ 44 :: joinX (y :: r) := by simp [joinX]
    rw [e, splL_app 44 x _ (h x (by simp)), spl_joinX (y :: r) (by simp) (fun z hz => h z (by simp [hz]))]
theorem joinX_cat (P : List (List UInt8)) (q : List UInt8) : joinX (P ++ [q]) = (P.flatMap fun p => p ++ [44]) ++ q := by
  induction P with
  | nil => simp [joinX]
  | cons a P ih =>
    cases P with
    | nil => simp [joinX]
    | cons b P =>
      have e : joinX (a :: b :: P ++ [q]) = a ++ 44 :: joinX (b :: P ++ [q]) := by simp [joinX]
      rw [e, ih]; simp
theorem joinX_spl (l : List UInt8) : joinX (splL 44 l) = l := by
  obtain ⟨P, q, h⟩ : ∃ P q, splL 44 l = P ++ [q] := ⟨_, _, (List.dropLast_concat_getLast (splL_ne 44 l)).symm⟩
  rw [h, joinX_cat, splL_join 44 l P q h]
open Go.Lib in
theorem splitK_more (c : UInt8) : ∀ (l : List UInt8) (k : Nat), (splL c l).length ≤ k + 1 → splitK [c] 0 k l = splL c l
  | [], k, _ => by
    have h : index ([] : List UInt8) [c] = -1 := rfl
    cases k with
    | zero => rfl
    | succ k => rw [splitK, h]; rfl
  | b :: l, k, hk => by
    have hi := index_one c b l
    unfold splL at hk ⊢
    by_cases e : b = c
    · rw [if_pos e] at hi hk ⊢
      obtain ⟨j, rfl⟩ : ∃ j, k = j + 1 := ⟨k - 1, by have := splL_ne c l; have h2 : 0 < (splL c l).length := List.length_pos_iff.2 this; rw [List.length_cons] at hk; omega⟩
      rw [splitK, hi]
      have ih := splitK_more c l j (by rw [List.length_cons] at hk; omega)
      simp [ih]
    · rw [if_neg e] at hi hk ⊢
      have hk2 : (splL c l).length ≤ k + 1 := by
        cases hs : splL c l with
        | nil => simp
        | cons q r => rw [hs] at hk; simpa using hk
      have ih := splitK_more c l k hk2
      cases k with
      | zero =>
        have ih' : [l] = splL c l := ih
        rw [← ih']; rfl
      | succ k =>
        rcases index_spec l [c] with ⟨h1, _⟩ | ⟨i, h1, _⟩
        · rw [h1] at hi
          have hm : index (b :: l) [c] = -1 := hi
          rw [splitK, h1] at ih
          have ih' : [l] = splL c l := ih
          rw [splitK, hm, ← ih']; rfl
        · have hm : index (b :: l) [c] = ((i + 1 : Nat) : Int) := by
            rw [hi, h1, if_neg (by rw [beq_iff_eq]; omega)]; omega
          rw [splitK, h1, if_neg (by rw [beq_iff_eq]; omega)] at ih
          rw [splitK, hm, if_neg (by rw [beq_iff_eq]; omega), ← ih]
          simp
def inR (n : Int) : Bool := inB n (-1000000000000) 1000000000000
def pieceB (p : ByteArray) : Bool := numOk p && inR (numV p)
def minusS : ByteArray := ⟨#[45]⟩
/-- The list that a text is of. -/
def rlF (s : ByteArray) : Option (List Int) := if s = minusS then some [] else if decide ((splS 44 s).length ≤ 64) && (splS 44 s).all pieceB then some ((splS 44 s).map numV) else none
theorem num_parts {p : ByteArray} (h : numOk p = true) : Lib.itoa (numV p) = p.data.toList ∧ numL p.data.toList = some (numV p) := by
  unfold numOk at h
  cases hn : numL p.data.toList with
  | none => rw [hn] at h; cases h
  | some v =>
    have hv := (num_some hn).2
    rw [hv]
    exact ⟨(numL_back hn).1, rfl⟩
theorem itoa_bytes (v : Int) : ∀ b ∈ Lib.itoa v, b ≠ 44 ∧ b ≠ 32 := by
  have hd : ∀ u, ∀ b ∈ dig u, b ≠ 44 ∧ b ≠ 32 := fun u b hb => by
    have := List.all_eq_true.1 (dig_all u) b hb
    unfold digB at this
    simp only [Bool.and_eq_true, decide_eq_true_eq] at this
    constructor <;> (intro e; subst e; revert this; decide)
  intro b hb
  by_cases h0 : v = 0
  · subst h0; rw [itoa_zeroL] at hb; simp at hb; subst hb; decide
  · rw [itoa_ne h0, List.mem_append] at hb
    rcases hb with hb | hb
    · split at hb
      · simp at hb; subst hb; decide
      · cases hb
    · exact hd _ b hb
theorem listS_data {xs : List Int} (h : xs ≠ []) : (listS xs).data.toList = joinX (xs.map Lib.itoa) := by unfold listS; rw [if_neg h]
theorem splS_list {xs : List Int} (h : xs ≠ []) : splS 44 (listS xs) = xs.map decS := by
  refine (splS_of ?_).symm
  rw [listS_data h, spl_joinX _ (by simpa using h) (fun x hx b hb => by
    obtain ⟨v, _, rfl⟩ := List.mem_map.1 hx
    exact (itoa_bytes v b hb).1), List.map_map]
  congr 1
theorem numOk_dec {v : Int} (h : inR v = true) : numOk (decS v) = true ∧ numV (decS v) = v := by
  have hb : v.natAbs < 10 ^ 18 := by
    unfold inR inB at h
    simp only [Bool.and_eq_true, decide_eq_true_eq] at h
    have : (10 : Nat) ^ 18 = 1000000000000000000 := by decide
    omega
  exact num_some (by rw [show (decS v).data.toList = Lib.itoa v from by unfold decS; simp]; exact numL_itoa v hb)
/-- A text that is a list's text is read as that list. -/
theorem rlF_list {xs : List Int} (h : fitsL xs = true) : rlF (listS xs) = some xs := by
  unfold fitsL at h
  simp only [Bool.and_eq_true, decide_eq_true_eq] at h
  unfold rlF
  by_cases hn : xs = []
  · subst hn; rfl
  · have hm : ¬ listS xs = minusS := by
      intro e
      have hs := splS_list hn
      rw [e, show splS 44 minusS = [minusS] from rfl] at hs
      cases xs with
      | nil => exact hn rfl
      | cons x r =>
        rw [List.map_cons] at hs
        injection hs with h1 _
        have h2 := congrArg (fun s : ByteArray => s.data.toList) h1
        have h3 : ([45] : List UInt8) = Lib.itoa x := by simpa [decS, minusS] using h2
        by_cases h0 : x = 0
        · subst h0; rw [itoa_zeroL] at h3; cases h3
        · have h4 := dig_first x.natAbs (by omega)
          obtain ⟨c, r', h5⟩ := h4
          have h6 := List.all_eq_true.1 (dig_all x.natAbs) c (by rw [h5]; simp)
          rw [itoa_ne h0, h5] at h3
          split at h3
          · simp at h3
          · simp at h3; rw [← h3.1] at h6; revert h6; decide
    rw [if_neg hm, splS_list hn, List.length_map, decide_eq_true h.1, List.map_map]
    have ha : (xs.map decS).all pieceB = true := by
      rw [List.all_eq_true]
      intro y hy
      obtain ⟨v, hv, rfl⟩ := List.mem_map.1 hy
      have hr : inR v = true := List.all_eq_true.1 h.2 v hv
      obtain ⟨h1, h2⟩ := numOk_dec hr
      unfold pieceB; rw [h1, h2, hr]; rfl
    rw [ha, if_pos (by rfl)]
    congr 1
    have : (xs.map (numV ∘ decS)) = xs.map id := List.map_congr_left (fun v hv => (numOk_dec (List.all_eq_true.1 h.2 v hv)).2)
    rw [this, List.map_id]
/-- What is read spells the text. -/
theorem rlF_text {s : ByteArray} {xs : List Int} (h : rlF s = some xs) : fitsL xs = true ∧ listS xs = s := by
  unfold rlF at h
  split at h
  · rename_i hm
    injection h with h
    subst h
    exact ⟨rfl, by rw [hm]; rfl⟩
  · split at h
    · rename_i hc
      simp only [Bool.and_eq_true, decide_eq_true_eq] at hc
      injection h with h
      have hall := List.all_eq_true.1 hc.2
      subst h
      constructor
      · unfold fitsL
        rw [List.length_map, decide_eq_true hc.1, Bool.true_and, List.all_eq_true]
        intro y hy
        obtain ⟨p, hp, rfl⟩ := List.mem_map.1 hy
        have := hall p hp
        unfold pieceB at this
        simp only [Bool.and_eq_true] at this
        exact this.2
      · have hne : (splS 44 s).map numV ≠ [] := by
          have := splS_data 44 s
          intro e
          have h2 : splS 44 s = [] := by simpa using e
          rw [h2] at this
          exact splL_ne 44 _ this.symm
        refine data_inj ?_
        rw [listS_data hne, List.map_map]
        have : (splS 44 s).map (Lib.itoa ∘ numV) = (splS 44 s).map (fun x : ByteArray => x.data.toList) := List.map_congr_left (fun p hp => by
          have := hall p hp
          unfold pieceB at this
          simp only [Bool.and_eq_true] at this
          exact (num_parts this.1).1)
        rw [this, splS_data, joinX_spl]
    · cases h
theorem splS_len (c : UInt8) (s : ByteArray) : (splS c s).length ≤ s.size + 1 := by
  have hl : ∀ l : List UInt8, (splL c l).length ≤ l.length + 1 := by
    intro l
    induction l with
    | nil => simp [splL]
    | cons b l ih =>
      unfold splL
      split
      · rw [List.length_cons, List.length_cons]; omega
      · cases hs : splL c l with
        | nil => simp
        | cons q r => rw [hs] at ih; rw [List.length_cons] at ih ⊢; rw [List.length_cons]; omega
  unfold splS; rw [List.length_map]
  have := hl s.data.toList
  rwa [dataL_len] at this
/-- The pieces that SplitN(s, ",", 65) gives. -/
def cutN (s : ByteArray) : List ByteArray := Lib.splitB ⟨#[44]⟩ 0 (min 65 (s.size + 1) - 1) s
theorem cutN_data (s : ByteArray) : (cutN s).map (fun x : ByteArray => x.data.toList) = Lib.splitK [44] 0 (min 65 (s.size + 1) - 1) s.data.toList := Lib.splitB_data ⟨#[44]⟩ 0 _ s
theorem cutN_few {s : ByteArray} (h : (splS 44 s).length ≤ 64) : cutN s = splS 44 s := by
  refine splS_of ?_
  have h2 := splS_len 44 s
  have h3 : (splL 44 s.data.toList).length = (splS 44 s).length := by unfold splS; rw [List.length_map]
  rw [cutN_data]
  exact splitK_more 44 s.data.toList _ (by omega)
theorem splitB_len (sep : ByteArray) : ∀ (k : Nat) (s : ByteArray), (Lib.splitB sep 0 k s).length ≤ k + 1 ∧ ∀ x ∈ Lib.splitB sep 0 k s, x.size ≤ s.size
  | 0, s => ⟨by rw [Lib.splitB_zero]; simp, by intro x hx; rw [Lib.splitB_zero, List.mem_singleton] at hx; subst hx; omega⟩
  | k + 1, s => by
    unfold Lib.splitB
    split
    · exact ⟨by simp, by intro x hx; rw [List.mem_singleton] at hx; subst hx; omega⟩
    · obtain ⟨h1, h2⟩ := splitB_len sep k (s.extract ((Lib.indexB s sep).toNat + sep.size) s.size)
      refine ⟨by rw [List.length_cons]; omega, ?_⟩
      intro x hx
      rcases List.mem_cons.1 hx with rfl | hx
      · rw [ByteArray.size_extract]; omega
      · have := h2 x hx
        rw [ByteArray.size_extract] at this
        omega
theorem cutN_len (s : ByteArray) : (cutN s).length ≤ 65 := by have := (splitB_len ⟨#[44]⟩ (min 65 (s.size + 1) - 1) s).1; unfold cutN; omega
theorem cutN_size (s : ByteArray) : ∀ x ∈ cutN s, x.size ≤ s.size := (splitB_len ⟨#[44]⟩ _ s).2
theorem cutN_empty : cutN ⟨#[]⟩ = [⟨#[]⟩] := rfl
theorem rlF_bad {s : ByteArray} {k : Nat} (hm : ¬ s = minusS) (hk : k < (cutN s).length) (h : numOk (cutN s)[k] = false) : rlF s = none := by
  unfold rlF; rw [if_neg hm]
  split
  · rename_i hc
    simp only [Bool.and_eq_true, decide_eq_true_eq] at hc
    have e := cutN_few hc.1
    have := List.all_eq_true.1 hc.2 (cutN s)[k] (by rw [← e]; exact List.getElem_mem hk)
    unfold pieceB at this
    rw [h] at this; cases this
  · rfl
theorem rlF_end {s : ByteArray} (hm : ¬ s = minusS) (hall : ∀ x ∈ cutN s, numOk x = true) : (listT ((cutN s).map numV) = s → rlF s = some ((cutN s).map numV)) ∧ (¬ listT ((cutN s).map numV) = s → rlF s = none) := by
  constructor
  · intro h
    unfold listT at h
    split at h
    · rename_i hf
      have := rlF_list hf
      rw [h] at this
      exact this
    · subst h
      have := hall ⟨#[]⟩ (by rw [cutN_empty]; simp)
      exact absurd this (by decide)
  · intro h
    cases hr : rlF s with
    | none => rfl
    | some xs =>
      obtain ⟨h1, h2⟩ := rlF_text hr
      have hlen : (splS 44 s).length ≤ 64 ∧ xs = (splS 44 s).map numV := by
        unfold rlF at hr
        rw [if_neg hm] at hr
        split at hr
        · rename_i hc
          simp only [Bool.and_eq_true, decide_eq_true_eq] at hc
          injection hr with hr
          exact ⟨hc.1, hr.symm⟩
        · cases hr
      refine absurd ?_ h
      rw [cutN_few hlen.1, ← hlen.2]
      unfold listT; rw [if_pos h1, h2]
def RlR (w : World) (s : ByteArray) (e : Ending) (w' : World) : Prop := ∃ v, e = .returned (.tuple #[v, .bool (rlF s).isSome]) ∧ New fInt.cod w v ((rlF s).getD []) w'
theorem RlR.none_ {w w' : World} {s : ByteArray} (h : rlF s = none) (hb : Below w.heap.size w w') : RlR w s (.returned (.tuple #[.slice none 0 0, .bool false])) w' := ⟨_, by rw [h]; rfl, by rw [h]; exact New.nil hb⟩
theorem RlR.some_ {w w' : World} {s : ByteArray} {v : Value} {xs : List Int} (h : rlF s = some xs) (hn : New fInt.cod w v xs w') : RlR w s (.returned (.tuple #[v, .bool true])) w' := ⟨_, by rw [h]; rfl, by rw [h]; exact hn⟩
theorem infoIntR : (Tryz.prog.info? 2).map (fun i => (i.zero, i.size, i.bytes)) = some (some (.int .i64 0), 1, 8) := by kernel_rfl
theorem numV_ok (p : ByteArray) : fInt.ok (numV p) := by
  unfold numV
  cases h : numL p.data.toList with
  | none => show _ ∧ _; simp
  | some v =>
    have := (numL_back h).2.1
    have e : (10 : Nat) ^ 18 = 1000000000000000000 := by decide
    show _ ∧ _
    simp only [Option.getD_some]
    omega
theorem numVs_ok (L : List ByteArray) : ∀ x ∈ L.map numV, fInt.ok x := by
  intro x hx; obtain ⟨p, _, rfl⟩ := List.mem_map.1 hx; exact numV_ok p
theorem spl_sizeR (c : UInt8) (s : ByteArray) : ∀ x ∈ splS c s, x.size ≤ s.size := by
  intro x hx
  obtain ⟨P, q, h1, h2⟩ := splS_cut c s
  have h3 := congrArg List.length h2
  rw [List.length_append, dataL_len, dataL_len] at h3
  rw [h1, List.mem_append] at hx
  rcases hx with hx | hx
  · obtain ⟨A, B, e⟩ := List.append_of_mem hx
    rw [e, List.flatMap_append, List.flatMap_cons, List.length_append, List.length_append, List.length_append, dataL_len] at h3
    omega
  · rw [List.mem_singleton] at hx; subst hx; omega
theorem cutN_any (s : ByteArray) (m : Int) (w : World) (hs : s.size ≤ 1048576) (hm : w.cell? ⟨0, 0, none⟩ = some (.int .i64 m)) :
    Calls Tryz.prog 52 #[.string s, .string ⟨#[44]⟩, .int .i64 65] w fun e w' => ∃ v fp, e = .returned v ∧ Sl fStr.cod w' v (cutN s) fp ∧ Below w.heap.size w w' := by
  have hlen := cutN_len s
  have hsz := cutN_size s
  have hl2 := (splitB_len ⟨#[44]⟩ (min 65 (s.size + 1) - 1) s).1
  refine (Tryz.strings_SplitN s ⟨#[44]⟩ 65 m w (by omega) hm (Nat.le_refl 1) (by decide) (by decide)).mono ?_
  rintro e w' ⟨rfl, rfl⟩
  refine ⟨_, [w.heap.size], rfl, ?_, (Below.refl _ _).alloc (Nat.le_refl _) _⟩
  have hpos : 0 < (cutN s).length := by
    unfold cutN
    cases hk : (min 65 (s.size + 1) - 1) with
    | zero => rw [Lib.splitB_zero]; simp
    | succ k => unfold Lib.splitB; split <;> simp
  refine Sl.of_cells (by show (cutN s).length ≤ _; unfold cutN at hpos ⊢; omega) (by omega) (by simp) (fun j hj => ⟨?_, ?_⟩) (fun x hx => by have := hsz x hx; show x.size ≤ 9223372036854775807; omega) hpos
  · have e1 : (cutN s).flatMap fStr.enc = (cutN s).map Value.string := by
      generalize cutN s = L
      induction L with
      | nil => rfl
      | cons x L ih => rw [List.flatMap_cons, List.map_cons, ih]; rfl
    have hj2 : j < (cutN s).length := by
      have h : j < ((cutN s).flatMap fStr.enc).length := hj
      rw [e1, List.length_map] at h; exact h
    rw [World.cell?_alloc_at _ _ _ _ rfl]
    show (Lib.cellsOf (cutN s) (min 65 (s.size + 1)))[0 + j]? = ((cutN s).flatMap fStr.enc)[j]?
    rw [e1, Nat.zero_add]
    unfold Lib.cellsOf
    rw [List.getElem?_toArray, List.getElem?_append_left (by rw [List.length_map]; exact hj2)]
  · rw [World.frozen?_alloc_at _ _ _ _ rfl]
set_option maxRecDepth 100000 in
set_option maxHeartbeats 4000000 in
theorem implReadList_any (s : ByteArray) (m : Int) (w : World) (hs : s.size ≤ 1048576) (hm9 : w.cell? ⟨0, 0, none⟩ = some (.int .i64 m)) (ht : RdTabs w) :
    Calls Tryz.prog 42 #[.string s] w fun e w' => RlR w s e w' := by
  obtain ⟨i0, hi, hz0, hz1, hz2⟩ := info_parts infoIntR
  by_cases hm : s = minusS
  · have e1 : (s.toList == [45]) = true := by rw [hm, beq_iff_eq]; unfold minusS; simp [ByteArray.toList_eq]
    have HR := Lib.hid (show rlF s = some [] from by unfold rlF; rw [if_pos hm])
    clear hm
    go_enter Tryz.func42, Tryz.ntmps42
    go_wp2
    go_ret2
    exact RlR.some_ HR.out (New.nil (Below.refl _ _))
  · have e1 : (s.toList == [45]) = false := by
      rw [beq_eq_false_iff_ne]; intro e
      exact hm (bytes_toList_inj (e.trans (by unfold minusS; simp [ByteArray.toList_eq])))
    have hsz := cutN_size s
    have hl65 := cutN_len s
    have HBAD : Hid (∀ k (hk : k < (cutN s).length), numOk (cutN s)[k] = false → rlF s = none) := fun k hk h => rlF_bad hm hk h
    have HEND : Hid ((∀ x ∈ cutN s, numOk x = true) → (listT ((cutN s).map numV) = s → rlF s = some ((cutN s).map numV)) ∧ (¬ listT ((cutN s).map numV) = s → rlF s = none)) := fun h => rlF_end hm h
    clear hm
    go_enter Tryz.func42, Tryz.ntmps42
    go_wp2_with fail
    refine (cutN_any s m _ hs hm9).mono ?_
    rintro e w1 ⟨v1, fp1, rfl, hsl, hb1⟩
    have ht1 := ht.below hb1
    generalize cutN s = P at *
    obtain ⟨A, cap, rfl, hle, hca⟩ := hsl.form
    go_wp2
    go_loopw [4, 14] (fun v i wr => ∃ k : Nat, k ≤ P.length ∧ i = .int .i64 k ∧ Hid ((P.take k).all numOk = true) ∧ Own fInt wr w1.heap.size 2 v ((P.map numV).take k) ∧ Below w1.heap.size w1 wr) (fun _ i _ => P.length - (intOf i).toNat)
    case atStart => exact ⟨0, Nat.zero_le _, rfl, rfl, Own.nil fInt _ _ _, Below.refl _ _⟩
    case round =>
      obtain ⟨k, hk, rfl, HA, ho, hb⟩ := hrel
      by_cases hlt : k < P.length
      · obtain ⟨b, off, rfl, _, _, hc, _⟩ := (hsl.below' hb).cell1 rfl hlt rfl
        have hps := hsz P[k] (List.getElem_mem hlt)
        have hkl : ((P.map numV).take k).length ≤ 65 := by rw [List.length_take, List.length_map]; omega
        go_wp2_with fail
        refine (ReadDecimal_any P[k] _ (by omega) (ht1.below hb)).mono ?_
        rintro e w2 ⟨rfl, hb2⟩
        have hB2 := hb.trans (hb2.mono hb.size)
        cases hn : numOk P[k]
        · have HN := Lib.hid (HBAD.out k hlt hn)
          clear ho hn
          go_wp2
          go_ret2
          exact RlR.none_ HN.out (hb1.trans (hB2.mono hb1.size))
        · have HA2 : Hid ((P.take (k + 1)).all numOk = true) := by
            show _ = _
            rw [List.take_succ_eq_append_getElem hlt, List.all_append, HA.out]; simp [hn]
          have HST : Hid ((P.map numV).take (k + 1) = (P.map numV).take k ++ [numV P[k]]) := by show _ = _; rw [List.take_succ_eq_append_getElem (by rw [List.length_map]; exact hlt), List.getElem_map]
          have ho3 : w2.ownsRow w1.heap.size 2 1 u4 ((P.map numV).take k).length (((P.map numV).take k).flatMap fInt.enc) := ho.below hb2
          have hs2 := hB2.size
          clear ho hn
          go_wp2_with (at_builtin; refine wpList_append_one rfl _ _ 52 rfl w1.heap.size 2 i0 (.int .i64 0) 1 8 Tryz.underlying52 hi hz0 hz1 hz2 rfl (by decide) u4 ((P.map numV).take k).length _ rfl ho3 [.int .i64 (numV P[k])] rfl (by intro u hu; rw [List.mem_singleton] at hu; subst hu; rfl) rfl (by omega) (by decide) hs2 ?_)
          intro v' u hown hbu _ _
          have hbu' := hB2.trans hbu
          have ho4 : Own fInt u w1.heap.size 2 v' ((P.map numV).take (k + 1)) := by rw [HST.out]; exact Own.push _ (by rw [List.length_take, List.length_map]; omega) hown
          clear hown
          go_wp2
          go_roundw
          case rel => exact ⟨k + 1, by omega, by go_num, HA2, ho4, hbu'⟩
          case measure => simp [intOf]; omega
      · obtain rfl : k = P.length := by omega
        rw [← List.length_map (f := numV), List.take_length] at ho
        have hall : ∀ x ∈ P, numOk x = true := by
          have h := HA.out
          rw [List.take_length] at h
          exact List.all_eq_true.1 h
        obtain ⟨hE1, hE2⟩ := HEND.out hall
        have hoks := numVs_ok P
        obtain ⟨fpy, hsy, hlo, hnd⟩ := Sl.of_own (n := (P.map numV).length) rfl ho hoks
        have hls := listT_size hoks (by rw [List.length_map]; omega)
        clear hall
        go_wp2_with fail
        refine (ListText_any _ (P.map numV) fpy _ hsy (ht1.below hb).tab).mono ?_
        rintro e w2 ⟨rfl, hb2⟩
        have hB2 := hb.trans (hb2.mono hb.size)
        by_cases hq : listT (P.map numV) = s
        · have HY := Lib.hid (hE1 hq)
          have e2 : ((listT (P.map numV)).toList == s.toList) = true := eqS_true.2 hq
          have hnew := ((ho.below hb2).new hB2 hoks).later hb1
          clear hE1 hE2 hq hsy ho
          go_wp2
          go_ret2
          exact RlR.some_ HY.out hnew
        · have HN := Lib.hid (hE2 hq)
          have e2 : ((listT (P.map numV)).toList == s.toList) = false := bytes_beq_false hq
          clear hE1 hE2 hq hsy ho
          go_wp2
          go_ret2
          exact RlR.none_ HN.out (hb1.trans (hB2.mono hb1.size))

end Go.Proofs.YtdpeffaplkbkgaaGreatDoor

namespace Go.Proofs.YtdpeffaplkbkgaaGreatDoor
open Go.RowKit
set_option linter.unusedVariables false

def ixL (c : UInt8) : List UInt8 → Nat
  | [] => 0
  | b :: l => if b = c then 0 else ixL c l + 1
theorem ixL_cons (c b : UInt8) (l : List UInt8) : ixL c (b :: l) = if b = c then 0 else ixL c l + 1 := rfl
theorem ixL_le (c : UInt8) : ∀ l, ixL c l ≤ l.length
  | [] => Nat.le_refl _
  | b :: l => by
    rw [ixL_cons]; split
    · simp
    · have := ixL_le c l; simp; omega
theorem ixL_index (c : UInt8) : ∀ l, Lib.index l [c] = if ixL c l < l.length then (ixL c l : Int) else -1
  | [] => rfl
  | b :: l => by
    rw [index_one, ixL_index c l, ixL_cons]
    by_cases e : b = c
    · rw [if_pos e, if_pos e, if_pos (by simp)]; rfl
    · rw [if_neg e, if_neg e]
      by_cases h : ixL c l < l.length
      · rw [if_pos h, if_neg (by rw [beq_iff_eq]; omega), if_pos (by simp; omega)]; push_cast; rfl
      · rw [if_neg h, if_pos (by decide), if_neg (by simp; omega)]
theorem ixL_hit {c : UInt8} {l : List UInt8} {k : Nat} (hk : k < l.length) (h : l[k] = c) : ixL c (l.drop k) = 0 := by
  rw [List.drop_eq_getElem_cons hk, ixL_cons, if_pos h]
theorem ixL_no {c : UInt8} {l : List UInt8} {k : Nat} (hk : k < l.length) (h : l[k] ≠ c) : ixL c (l.drop k) = ixL c (l.drop (k + 1)) + 1 := by
  rw [List.drop_eq_getElem_cons hk, ixL_cons, if_neg h]
theorem ixL_end {c : UInt8} {l : List UInt8} {k : Nat} (hk : l.length ≤ k) : ixL c (l.drop k) = 0 := by
  rw [List.drop_of_length_le hk]; rfl
theorem indexB_one (c : UInt8) (s : ByteArray) : Lib.indexB s ⟨#[c]⟩ = if ixL c s.data.toList < s.size then (ixL c s.data.toList : Int) else -1 := by
  have h := ixL_index c s.data.toList
  have h2 : s.data.toList.length = s.size := by simp
  rw [h2] at h
  exact h

end Go.Proofs.YtdpeffaplkbkgaaGreatDoor

namespace Go.Proofs.YtdpeffaplkbkgaaGreatDoor
open Go.RowKit
set_option linter.unusedVariables false

/-- The days of a month, or of the year for the month 0. -/
def leapI (y : Int) : Int := if y % 4 = 0 then 1 else 0
def lenM (y m : Int) : Int := if m = 0 then 365 + leapI y else if m = 2 then 28 + leapI y else if m = 4 ∨ m = 6 ∨ m = 9 ∨ m = 11 then 30 else 31
def cumM (y m : Int) : Int := if m = 1 then 0 else if m = 2 then 31 else (if m = 3 then 59 else if m = 4 then 90 else if m = 5 then 120 else if m = 6 then 151 else if m = 7 then 181 else if m = 8 then 212 else if m = 9 then 243 else if m = 10 then 273 else if m = 11 then 304 else if m = 12 then 334 else 365) + leapI y
def yB (y : Int) : Int := 365 * (y - 2000) + (y - 2000 + 3) / 4
def numD (y m d : Int) : Int := yB y + cumM y m + d - 1
def dateOk (y m d : Int) : Prop := (2000 ≤ y ∧ y ≤ 2099) ∧ (1 ≤ m ∧ m ≤ 12) ∧ (1 ≤ d ∧ d ≤ lenM y m)
instance (y m d : Int) : Decidable (dateOk y m d) := by unfold dateOk; infer_instance
theorem leapI_01 (y : Int) : leapI y = 0 ∨ leapI y = 1 := by unfold leapI; split <;> simp
theorem monthC {m : Int} (h1 : 1 ≤ m) (h2 : m ≤ 12) : m = 1 ∨ m = 2 ∨ m = 3 ∨ m = 4 ∨ m = 5 ∨ m = 6 ∨ m = 7 ∨ m = 8 ∨ m = 9 ∨ m = 10 ∨ m = 11 ∨ m = 12 := by omega
theorem cumM_step (y : Int) {m : Int} (h1 : 1 ≤ m) (h2 : m ≤ 12) : cumM y (m + 1) = cumM y m + lenM y m := by
  rcases monthC h1 h2 with h | h | h | h | h | h | h | h | h | h | h | h <;> subst h <;> simp [cumM, lenM] <;> omega
theorem cumM_one (y : Int) : cumM y 1 = 0 := rfl
theorem lenM_pos (y : Int) {m : Int} (h1 : 1 ≤ m) (h2 : m ≤ 12) : 28 ≤ lenM y m ∧ lenM y m ≤ 31 := by
  have := leapI_01 y
  rcases monthC h1 h2 with h | h | h | h | h | h | h | h | h | h | h | h <;> subst h <;> simp [lenM] <;> omega
theorem cumM_bounds (y : Int) {m : Int} (h1 : 1 ≤ m) (h2 : m ≤ 12) : 0 ≤ cumM y m ∧ cumM y m + lenM y m ≤ 365 + leapI y := by
  have := leapI_01 y
  rcases monthC h1 h2 with h | h | h | h | h | h | h | h | h | h | h | h <;> subst h <;> simp [cumM, lenM] <;> omega
theorem cumM_mono (y : Int) {a b : Int} (h1 : 1 ≤ a) (h2 : a < b) (h3 : b ≤ 12) : cumM y a + lenM y a ≤ cumM y b := by
  have := leapI_01 y
  rcases monthC h1 (by omega) with h | h | h | h | h | h | h | h | h | h | h | h <;> subst h <;> rcases monthC (m := b) (by omega) h3 with h | h | h | h | h | h | h | h | h | h | h | h <;> subst h <;> first | omega | (simp [cumM, lenM] <;> omega)
theorem lenM_zero (y : Int) : lenM y 0 = 365 + leapI y := rfl
theorem yB_step (y : Int) : yB (y + 1) = yB y + lenM y 0 := by
  rw [lenM_zero]; unfold yB leapI; split <;> omega
theorem yB_mono {a b : Int} (h : a < b) : yB a + lenM a 0 ≤ yB b := by
  rw [← yB_step]; unfold yB; omega
theorem numD_bounds {y m d : Int} (h : dateOk y m d) : 0 ≤ numD y m d ∧ numD y m d ≤ 36524 := by
  obtain ⟨⟨h1, h2⟩, ⟨h3, h4⟩, h5, h6⟩ := h
  have ⟨h7, h8⟩ := cumM_bounds y h3 h4
  have h9 : leapI y = if y % 4 = 0 then 1 else 0 := rfl
  unfold numD yB
  split at h9 <;> omega
theorem yB_four (y : Int) : (y - 2000) / 4 * 1461 = yB (y / 4 * 4) := by unfold yB; omega
theorem yB_rest (n : Int) : yB (2000 + n / 1461 * 4) = n - n % 1461 := by unfold yB; omega
theorem year_le {y m d : Int} (h : dateOk y m d) : 2000 + numD y m d / 1461 * 4 ≤ y := by
  obtain ⟨⟨h1, h2⟩, ⟨h3, h4⟩, h5, h6⟩ := h
  have ⟨h7, h8⟩ := cumM_bounds y h3 h4
  have h9 : leapI y = if y % 4 = 0 then 1 else 0 := rfl
  have e : numD y m d = yB y + cumM y m + d - 1 := rfl
  generalize numD y m d = n at *
  unfold yB at e
  split at h9 <;> omega
/-- The year's loop: it goes on exactly below the year. -/
theorem year_go {y m d t r : Int} (h : dateOk y m d) (ht : t ≤ y) (hr : r = numD y m d - yB t) : 0 ≤ r ∧ (lenM t 0 ≤ r ↔ t < y) := by
  obtain ⟨⟨h1, h2⟩, ⟨h3, h4⟩, h5, h6⟩ := h
  have ⟨h7, h8⟩ := cumM_bounds y h3 h4
  have e : numD y m d = yB y + cumM y m + d - 1 := rfl
  have hz := lenM_zero y
  rcases Int.lt_or_eq_of_le ht with hlt | rfl
  · have := yB_mono hlt
    have h9 := leapI_01 t
    have hz := lenM_zero t
    omega
  · omega
theorem month_go {y m d t r : Int} (h : dateOk y m d) (h0 : 1 ≤ t) (ht : t ≤ m) (hr : r = cumM y m + d - 1 - cumM y t) : 0 ≤ r ∧ (lenM y t ≤ r ↔ t < m) := by
  obtain ⟨⟨h1, h2⟩, ⟨h3, h4⟩, h5, h6⟩ := h
  rcases Int.lt_or_eq_of_le ht with hlt | rfl
  · have := cumM_mono y h0 hlt h4
    have := lenM_pos y h0 (by omega)
    omega
  · omega

/-! ### The text of a date -/
theorem digB_iff {c : UInt8} : digB c = true ↔ 48 ≤ c.toNat ∧ c.toNat ≤ 57 := by unfold digB; simp
theorem digB_back {c : UInt8} (h : digB c = true) : UInt8.ofNat (48 + (c.toNat - 48)) = c := by
  have := digB_iff.1 h
  rw [show 48 + (c.toNat - 48) = c.toNat by omega, UInt8.ofNat_toNat]
def two (n : Int) : List UInt8 := [UInt8.ofNat (48 + n.toNat / 10), UInt8.ofNat (48 + n.toNat % 10)]
theorem two_back {a b : UInt8} (ha : digB a = true) (hb : digB b = true) : two ((valL 0 [a, b] : Nat) : Int) = [a, b] := by
  have h1 := digB_iff.1 ha
  have h2 := digB_iff.1 hb
  have e : valL 0 [a, b] = 10 * (a.toNat - 48) + (b.toNat - 48) := by rw [valL_cons, valL_cons, valL_nil]; omega
  unfold two
  rw [Int.toNat_natCast, e, show (10 * (a.toNat - 48) + (b.toNat - 48)) / 10 = a.toNat - 48 by omega, show (10 * (a.toNat - 48) + (b.toNat - 48)) % 10 = b.toNat - 48 by omega, digB_back ha, digB_back hb]
theorem year_back {a b c d : UInt8} (ha : digB a = true) (hb : digB b = true) (hc : digB c = true) (hd : digB d = true) (h : 1000 ≤ valL 0 [a, b, c, d]) : Lib.itoa ((valL 0 [a, b, c, d] : Nat) : Int) = [a, b, c, d] := by
  have h1 := digB_iff.1 ha
  have h2 := digB_iff.1 hb
  have h3 := digB_iff.1 hc
  have h4 := digB_iff.1 hd
  rw [itoa_natL (by omega)]
  refine (dig_back 4 [a, b, c, d] rfl (by simp [ha, hb, hc, hd]) ?_).1
  intro e
  have e2 : a = 48 := by simpa using e
  subst e2
  rw [valL_cons, valL_cons, valL_cons, valL_cons, valL_nil] at h
  have : (48 : UInt8).toNat = 48 := rfl
  omega
/-- The number of a field of digits, -1 if there is another byte. -/
def fN (l : List UInt8) : Int := if l.all digB then ((valL 0 l : Nat) : Int) else -1
theorem fN_pos {l : List UInt8} (h : 0 ≤ fN l) : l.all digB = true ∧ fN l = ((valL 0 l : Nat) : Int) := by
  unfold fN at h ⊢
  split
  · rename_i h1; exact ⟨h1, rfl⟩
  · rename_i h1; rw [if_neg h1] at h; omega
theorem fN_ok {l : List UInt8} (h : l.all digB = true) : fN l = ((valL 0 l : Nat) : Int) := by unfold fN; rw [if_pos h]
theorem fN_bad {l : List UInt8} (h : l.all digB = false) : fN l = -1 := by unfold fN; rw [if_neg (by rw [h]; decide)]
def dayL (y m d : Int) : List UInt8 := Lib.itoa y ++ [45] ++ two m ++ [45] ++ two d
def yF (l : List UInt8) : Int := fN (l.take 4)
def mF (l : List UInt8) : Int := fN ((l.take 7).drop 5)
def dF (l : List UInt8) : Int := fN (l.drop 8)
theorem text_iff {l : List UInt8} (h : l.length = 10) (hd : dateOk (yF l) (mF l) (dF l)) : dayL (yF l) (mF l) (dF l) = l ↔ (l[4]? = some 45 ∧ l[7]? = some 45) := by
  match l, h with
  | [a, b, c, d, e, f, g, h, i, j], _ =>
    obtain ⟨⟨h1, _⟩, ⟨h2, _⟩, h3, _⟩ := hd
    obtain ⟨ha, ea⟩ := fN_pos (l := [a, b, c, d]) (by have : (2000 : Int) ≤ fN [a, b, c, d] := h1; omega)
    obtain ⟨hb, eb⟩ := fN_pos (l := [f, g]) (by have : (1 : Int) ≤ fN [f, g] := h2; omega)
    obtain ⟨hc, ec⟩ := fN_pos (l := [i, j]) (by have : (1 : Int) ≤ fN [i, j] := h3; omega)
    have h1' : (2000 : Int) ≤ fN [a, b, c, d] := h1
    rw [ea] at h1'
    simp only [List.all_cons, List.all_nil, Bool.and_true, Bool.and_eq_true] at ha hb hc
    have e1 : yF [a, b, c, d, e, f, g, h, i, j] = ((valL 0 [a, b, c, d] : Nat) : Int) := ea
    have e2 : mF [a, b, c, d, e, f, g, h, i, j] = ((valL 0 [f, g] : Nat) : Int) := eb
    have e3 : dF [a, b, c, d, e, f, g, h, i, j] = ((valL 0 [i, j] : Nat) : Int) := ec
    unfold dayL
    rw [e1, e2, e3, year_back ha.1 ha.2.1 ha.2.2.1 ha.2.2.2 (by omega), two_back hb.1 hb.2, two_back hc.1 hc.2]
    simp
    constructor
    · rintro ⟨rfl, rfl⟩; exact ⟨rfl, rfl⟩
    · rintro ⟨rfl, rfl⟩; exact ⟨rfl, rfl⟩
/-- The day of a text. -/
def rdF (s : ByteArray) : Option Int :=
  if s.size = 10 ∧ s.data.toList[4]? = some 45 ∧ s.data.toList[7]? = some 45 ∧ dateOk (yF s.data.toList) (mF s.data.toList) (dF s.data.toList) then some (numD (yF s.data.toList) (mF s.data.toList) (dF s.data.toList)) else none
theorem rdF_size {s : ByteArray} (h : ¬ s.size = 10) : rdF s = none := by unfold rdF; rw [if_neg (fun e => h e.1)]
theorem rdF_four {s : ByteArray} (h : ¬ s.data.toList[4]? = some 45) : rdF s = none := by unfold rdF; rw [if_neg (fun e => h e.2.1)]
theorem rdF_seven {s : ByteArray} (h : ¬ s.data.toList[7]? = some 45) : rdF s = none := by unfold rdF; rw [if_neg (fun e => h e.2.2.1)]
theorem rdF_date {s : ByteArray} (h : ¬ dateOk (yF s.data.toList) (mF s.data.toList) (dF s.data.toList)) : rdF s = none := by unfold rdF; rw [if_neg (fun e => h e.2.2.2)]
theorem rdF_some {s : ByteArray} (h : s.size = 10) (h4 : s.data.toList[4]? = some 45) (h7 : s.data.toList[7]? = some 45) (hd : dateOk (yF s.data.toList) (mF s.data.toList) (dF s.data.toList)) : rdF s = some (numD (yF s.data.toList) (mF s.data.toList) (dF s.data.toList)) := by unfold rdF; rw [if_pos ⟨h, h4, h7, hd⟩]
theorem rdF_text {s : ByteArray} (h : s.size = 10) (hd : dateOk (yF s.data.toList) (mF s.data.toList) (dF s.data.toList)) :
    (dayL (yF s.data.toList) (mF s.data.toList) (dF s.data.toList) = s.data.toList → rdF s = some (numD (yF s.data.toList) (mF s.data.toList) (dF s.data.toList))) ∧ (¬ dayL (yF s.data.toList) (mF s.data.toList) (dF s.data.toList) = s.data.toList → rdF s = none) := by
  have hl : s.data.toList.length = 10 := by simpa using h
  have ht := text_iff hl hd
  constructor
  · intro e
    have := ht.1 e
    exact rdF_some h this.1 this.2 hd
  · intro e
    unfold rdF
    rw [if_neg (fun c => e (ht.2 ⟨c.2.1, c.2.2.1⟩))]
/-- What is read is a date, and its text is the text that was read. -/
theorem rdF_is {s : ByteArray} {n : Int} (h : rdF s = some n) : ∃ y m d, dateOk y m d ∧ n = numD y m d ∧ s = ⟨(dayL y m d).toArray⟩ := by
  unfold rdF at h
  split at h
  · rename_i c
    injection h with h
    refine ⟨_, _, _, c.2.2.2, h.symm, ?_⟩
    rw [(text_iff (by simpa using c.1) c.2.2.2).2 ⟨c.2.1, c.2.2.1⟩]
  · cases h
theorem yearL {y : Int} (h : 2000 ≤ y) (h2 : y ≤ 2099) : Lib.itoa y = [UInt8.ofNat (48 + y.toNat / 1000), UInt8.ofNat (48 + y.toNat / 100 % 10), UInt8.ofNat (48 + y.toNat / 10 % 10), UInt8.ofNat (48 + y.toNat % 10)] := by
  have hd : ∀ k, k < 10 → digB (UInt8.ofNat (48 + k)) = true ∧ (UInt8.ofNat (48 + k)).toNat = 48 + k := by
    intro k hk
    have e : (UInt8.ofNat (48 + k)).toNat = 48 + k := by rw [UInt8.toNat_ofNat']; omega
    exact ⟨digB_iff.2 (by omega), e⟩
  have e : y = ((valL 0 [UInt8.ofNat (48 + y.toNat / 1000), UInt8.ofNat (48 + y.toNat / 100 % 10), UInt8.ofNat (48 + y.toNat / 10 % 10), UInt8.ofNat (48 + y.toNat % 10)] : Nat) : Int) := by
    rw [valL_cons, valL_cons, valL_cons, valL_cons, valL_nil, (hd (y.toNat / 1000) (by omega)).2, (hd (y.toNat / 100 % 10) (by omega)).2, (hd (y.toNat / 10 % 10) (by omega)).2, (hd (y.toNat % 10) (by omega)).2]
    omega
  have := year_back (hd (y.toNat / 1000) (by omega)).1 (hd (y.toNat / 100 % 10) (by omega)).1 (hd (y.toNat / 10 % 10) (by omega)).1 (hd (y.toNat % 10) (by omega)).1 (by omega)
  rw [← e] at this
  exact this
theorem dayL_len {y m d : Int} (h : dateOk y m d) : (dayL y m d).length = 10 := by
  unfold dayL; rw [yearL h.1.1 h.1.2]; simp [two]
theorem two_dig {n : Int} (h0 : 0 ≤ n) (h1 : n < 100) : ∀ b ∈ two n, b ≠ 32 := by
  intro b hb
  have hn : ∀ k, k < 10 → UInt8.ofNat (48 + k) ≠ 32 := by
    intro k hk e
    have := congrArg UInt8.toNat e
    rw [UInt8.toNat_ofNat'] at this
    simp at this
    omega
  unfold two at hb
  simp only [List.mem_cons, List.not_mem_nil, or_false] at hb
  rcases hb with rfl | rfl
  · exact hn _ (by omega)
  · exact hn _ (by omega)
/-! ### Every day has a date -/
theorem year_of : ∀ (k : Nat) (n : Int), 0 ≤ n → n < yB (2000 + (k : Int)) → ∃ y, 2000 ≤ y ∧ y < 2000 + (k : Int) ∧ yB y ≤ n ∧ n < yB (y + 1)
  | 0, n, h0, h => absurd h (by show ¬ n < yB (2000 + 0); unfold yB; omega)
  | k + 1, n, h0, h => by
    by_cases hk : n < yB (2000 + (k : Int))
    · obtain ⟨y, h1, h2, h3, h4⟩ := year_of k n h0 hk
      exact ⟨y, h1, by omega, h3, h4⟩
    · exact ⟨2000 + (k : Int), by omega, by omega, by omega, by rw [show (2000 : Int) + k + 1 = 2000 + ((k + 1 : Nat) : Int) by omega]; exact h⟩
theorem month_of (y : Int) : ∀ (k : Nat) (r : Int), k ≤ 12 → 0 ≤ r → r < cumM y (1 + (k : Int)) → ∃ m, 1 ≤ m ∧ m ≤ (k : Int) ∧ cumM y m ≤ r ∧ r < cumM y (m + 1)
  | 0, r, _, h0, h => absurd h (by show ¬ r < cumM y (1 + 0); rw [show (1 : Int) + 0 = 1 from rfl, cumM_one]; omega)
  | k + 1, r, hk12, h0, h => by
    by_cases hk : r < cumM y (1 + (k : Int))
    · obtain ⟨m, h1, h2, h3, h4⟩ := month_of y k r (by omega) h0 hk
      exact ⟨m, h1, by omega, h3, h4⟩
    · exact ⟨1 + (k : Int), by omega, by omega, by omega, by rw [show (1 : Int) + k + 1 = 1 + ((k + 1 : Nat) : Int) by omega]; exact h⟩
theorem day_has {n : Int} (h0 : 0 ≤ n) (h1 : n ≤ 36524) : ∃ y m d, dateOk y m d ∧ n = numD y m d := by
  obtain ⟨y, hy1, hy2, hy3, hy4⟩ := year_of 100 n h0 (by show n < yB (2000 + 100); unfold yB; omega)
  have hlen := yB_step y
  rw [lenM_zero] at hlen
  obtain ⟨m, hm1, hm2, hm3, hm4⟩ := month_of y 12 (n - yB y) (by omega) (by omega) (by show _ < cumM y 13; show _ < 365 + leapI y; omega)
  have hs := cumM_step y hm1 hm2
  exact ⟨y, m, n - yB y - cumM y m + 1, ⟨⟨hy1, by omega⟩, ⟨hm1, hm2⟩, by omega, by omega⟩, by unfold numD; omega⟩

end Go.Proofs.YtdpeffaplkbkgaaGreatDoor

namespace Go.Proofs.YtdpeffaplkbkgaaGreatDoor
open Go.RowKit
set_option linter.unusedVariables false

theorem rem4 {y : Int} (h : 0 ≤ y) : (y % 4 == 0) = (leapI y == 1) := by
  unfold leapI
  by_cases e : y % 4 = 0
  · rw [if_pos e, e]; rfl
  · rw [if_neg e, beq_eq_false_iff_ne.2 e]; rfl
/-- The days of a month of a year without a day more. -/
def lenT (m : Int) : Int := if m = 0 then 365 else if m = 2 then 28 else if m = 4 ∨ m = 6 ∨ m = 9 ∨ m = 11 then 30 else 31
theorem monthC0 {m : Int} (h1 : 0 ≤ m) (h2 : m ≤ 12) : m = 0 ∨ m = 1 ∨ m = 2 ∨ m = 3 ∨ m = 4 ∨ m = 5 ∨ m = 6 ∨ m = 7 ∨ m = 8 ∨ m = 9 ∨ m = 10 ∨ m = 11 ∨ m = 12 := by omega
theorem lenM_plain {y m : Int} (h : ¬ (leapI y = 1 ∧ (m = 0 ∨ m = 2))) : lenM y m = lenT m := by
  have := leapI_01 y
  unfold lenM lenT
  repeat' split
  all_goals omega
theorem lenM_more {y m : Int} (h : leapI y = 1 ∧ (m = 0 ∨ m = 2)) : lenM y m = lenT m + 1 := by
  unfold lenM lenT
  repeat' split
  all_goals omega
theorem lenT_range (m : Int) : 28 ≤ lenT m ∧ lenT m ≤ 365 := by
  unfold lenT
  repeat' split
  all_goals omega
def dayS (y m d : Int) : ByteArray := ⟨(dayL y m d).toArray⟩
theorem dayS_size {y m d : Int} (h : dateOk y m d) : (dayS y m d).size = 10 := by unfold dayS; rw [mkL_size, dayL_len h]
theorem dayS_cat (y m d : Int) : decS y ++ ⟨#[45]⟩ ++ ⟨(two m).toArray⟩ ++ ⟨#[45]⟩ ++ ⟨(two d).toArray⟩ = dayS y m d := by
  have e45 : (⟨#[45]⟩ : ByteArray) = ⟨([45] : List UInt8).toArray⟩ := rfl
  unfold dayS dayL decS
  rw [e45, bytesL_append, bytesL_append, bytesL_append, bytesL_append]
theorem two_size (n : Int) : (⟨(two n).toArray⟩ : ByteArray).size = 2 := rfl
theorem fN_range {l : List UInt8} (h : l.length ≤ 4) : -1 ≤ fN l ∧ fN l ≤ 1000000 := by
  cases hd : l.all digB
  · rw [fN_bad hd]; omega
  · rw [fN_ok hd]
    have := valL_lt l 0 0 hd (by decide)
    have h2 : 10 ^ (0 + l.length) ≤ 10 ^ 4 := Nat.pow_le_pow_right (by decide) (by omega)
    have h3 : (10 : Nat) ^ 4 = 10000 := by decide
    omega
theorem ex_y (s : ByteArray) : (s.extract 0 4).data.toList = s.data.toList.take 4 := by rw [extract_toList, List.drop_zero]
theorem ex_m (s : ByteArray) : (s.extract 5 7).data.toList = (s.data.toList.take 7).drop 5 := by rw [extract_toList]
theorem ex_d (s : ByteArray) : (s.extract 8 s.size).data.toList = s.data.toList.drop 8 := by rw [extract_toList, List.take_of_length_le (by simp)]
theorem f_range (s : ByteArray) (h : s.size = 10) : (-1 ≤ yF s.data.toList ∧ yF s.data.toList ≤ 1000000) ∧ (-1 ≤ mF s.data.toList ∧ mF s.data.toList ≤ 1000000) ∧ (-1 ≤ dF s.data.toList ∧ dF s.data.toList ≤ 1000000) := by
  have hl : s.data.toList.length = 10 := by simpa using h
  unfold yF mF dF
  exact ⟨fN_range (by rw [List.length_take]; omega), fN_range (by rw [List.length_drop, List.length_take]; omega), fN_range (by rw [List.length_drop]; omega)⟩

end Go.Proofs.YtdpeffaplkbkgaaGreatDoor

namespace Go.Proofs.YtdpeffaplkbkgaaGreatDoor
open Go.RowKit
set_option linter.unusedVariables false

def oneK (k : Nat) (b : ByteArray) : Bool := match rlF b with | some xs => decide (xs.length = k) | none => false
def numK (k : Nat) (b : ByteArray) : List Int := match rlF b with | some xs => if xs.length = k then xs else List.replicate k 0 | none => List.replicate k 0
theorem oneK_some {k : Nat} {b : ByteArray} {xs : List Int} (h : rlF b = some xs) : oneK k b = decide (xs.length = k) := by unfold oneK; rw [h]
theorem oneK_none {k : Nat} {b : ByteArray} (h : rlF b = none) : oneK k b = false := by unfold oneK; rw [h]
theorem numK_some {k : Nat} {b : ByteArray} {xs : List Int} (h : rlF b = some xs) (hl : xs.length = k) : numK k b = xs := by unfold numK; rw [h]; exact if_pos hl
theorem oneK_yes {k : Nat} {b : ByteArray} (h : oneK k b = true) : rlF b = some (numK k b) ∧ (numK k b).length = k := by
  cases hr : rlF b with
  | none => rw [oneK_none hr] at h; cases h
  | some xs =>
    rw [oneK_some hr] at h
    have hl : xs.length = k := of_decide_eq_true h
    rw [numK_some hr hl]
    exact ⟨rfl, hl⟩
theorem oneK_no {k : Nat} {b : ByteArray} (h : oneK k b = false) : numK k b = List.replicate k 0 := by
  cases hr : rlF b with
  | none => unfold numK; rw [hr]
  | some xs =>
    rw [oneK_some hr] at h
    have hl : ¬ xs.length = k := of_decide_eq_false h
    unfold numK; rw [hr]; exact if_neg hl
theorem numK_len (k : Nat) (b : ByteArray) : (numK k b).length = k := by
  cases h : oneK k b
  · rw [oneK_no h]; simp
  · exact (oneK_yes h).2
theorem numK_ok {k : Nat} {b : ByteArray} : ∀ x ∈ numK k b, fInt.ok x := by
  cases h : oneK k b
  · rw [oneK_no h]; intro x hx
    have := List.eq_of_mem_replicate hx
    subst this; show _ ∧ _; simp
  · have h1 := (rlF_text (oneK_yes h).1).1
    intro x hx
    unfold fitsL at h1
    simp only [Bool.and_eq_true] at h1
    have := inB_true.1 (List.all_eq_true.1 h1.2 x hx)
    show _ ∧ _
    omega
theorem name_noblank {x : ByteArray} (h : nameB x = true) : ∀ b ∈ x.data.toList, b ≠ 32 := by
  intro b hb e
  subst e
  unfold nameB at h
  simp only [Bool.and_eq_true] at h
  have ha : allNm x.data.toList = true := by first | exact h.2 | exact h.1.2 | exact h.1.1.2 | exact h.1.1.1
  unfold allNm at ha
  have := List.all_eq_true.1 ha 32 hb
  revert this; decide
theorem joinX_bytes : ∀ (L : List (List UInt8)), (∀ x ∈ L, ∀ b ∈ x, b ≠ 32) → ∀ b ∈ joinX L, b ≠ 32
  | [], _, b, hb => by simp [joinX] at hb
  | x :: r, h, b, hb => by
    unfold joinX at hb
    rw [List.mem_append, List.mem_flatMap] at hb
    rcases hb with hb | ⟨y, hy, hb⟩
    · exact h x (by simp) b hb
    · rcases List.mem_cons.1 hb with rfl | hb
      · decide
      · exact h y (by simp [hy]) b hb
theorem listS_noblank (xs : List Int) : ∀ b ∈ (listS xs).data.toList, b ≠ 32 := by
  by_cases h : xs = []
  · subst h; intro b hb; have : b = 45 := by simpa [listS] using hb
    subst this; decide
  · rw [listS_data h]
    exact joinX_bytes _ (fun y hy b hb => by obtain ⟨v, _, rfl⟩ := List.mem_map.1 hy; exact (itoa_bytes v b hb).2)
/-- A list of numbers that was read has the text that it was read from. -/
theorem numK_text {k : Nat} {b : ByteArray} (h : oneK k b = true) : listT (numK k b) = b ∧ ∀ y ∈ b.data.toList, y ≠ 32 := by
  obtain ⟨h1, h2⟩ := rlF_text (oneK_yes h).1
  have e : listT (numK k b) = b := by unfold listT; rw [if_pos h1, h2]
  exact ⟨e, fun y hy => listS_noblank (numK k b) y (by rw [h2]; exact hy)⟩
theorem ixL_split (c : UInt8) : ∀ l : List UInt8, ixL c l < l.length → l = l.take (ixL c l) ++ c :: l.drop (ixL c l + 1) ∧ ∀ b ∈ l.take (ixL c l), b ≠ c
  | [], h => by simp at h
  | b :: l, h => by
    rw [ixL_cons] at h ⊢
    by_cases e : b = c
    · rw [if_pos e]; subst e; exact ⟨rfl, by simp⟩
    · rw [if_neg e] at h ⊢
      obtain ⟨h1, h2⟩ := ixL_split c l (by simpa using h)
      refine ⟨?_, ?_⟩
      · rw [List.take_succ_cons, List.drop_succ_cons, List.cons_append, ← h1]
      · intro x hx
        rw [List.take_succ_cons] at hx
        rcases List.mem_cons.1 hx with rfl | hx
        · exact e
        · exact h2 x hx
theorem ixL_free (c : UInt8) : ∀ l : List UInt8, ¬ ixL c l < l.length → ∀ b ∈ l, b ≠ c
  | [], _ => by simp
  | b :: l, h => by
    rw [ixL_cons] at h
    by_cases e : b = c
    · rw [if_pos e] at h; simp at h
    · rw [if_neg e] at h
      intro x hx
      rcases List.mem_cons.1 hx with rfl | hx
      · exact e
      · exact ixL_free c l (by simpa using h) x hx
theorem cut_cases (l : List UInt8) : ((∀ b ∈ l, b ≠ 32) ∧ Lib.cut l [32] = (l, [], false)) ∨ ∃ x y, l = x ++ 32 :: y ∧ (∀ b ∈ x, b ≠ 32) ∧ Lib.cut l [32] = (x, y, true) := by
  have hi := ixL_index 32 l
  by_cases h : ixL 32 l < l.length
  · obtain ⟨h1, h2⟩ := ixL_split 32 l h
    refine .inr ⟨_, _, h1, h2, ?_⟩
    rw [if_pos h] at hi
    unfold Lib.cut
    rw [hi, if_pos (by omega)]
    rfl
  · refine .inl ⟨ixL_free 32 l h, ?_⟩
    rw [if_neg h] at hi
    unfold Lib.cut
    rw [hi, if_neg (by omega)]
def cA (s : ByteArray) : ByteArray := ⟨(Lib.cut s.data.toList [32]).1.toArray⟩
def cZ (s : ByteArray) : ByteArray := ⟨(Lib.cut s.data.toList [32]).2.1.toArray⟩
theorem cAZ_size (s : ByteArray) : (cA s).size ≤ s.size ∧ (cZ s).size ≤ s.size := by
  have hl : s.data.toList.length = s.size := by simp
  have e1 : (cA s).size = (Lib.cut s.data.toList [32]).1.length := mkL_size _
  have e2 : (cZ s).size = (Lib.cut s.data.toList [32]).2.1.length := mkL_size _
  rw [e1, e2]
  rcases cut_cases s.data.toList with ⟨_, h⟩ | ⟨x, y, hxy, _, h⟩
  · rw [h, ← hl]; exact ⟨Nat.le_refl _, Nat.zero_le _⟩
  · rw [h]
    have := congrArg List.length hxy
    rw [hl, List.length_append, List.length_cons] at this
    show x.length ≤ _ ∧ y.length ≤ _
    omega
/-- A name and a list of numbers behind the first blank. -/
theorem words_of {s : ByteArray} {k : Nat} (h : oneK k (cZ s) = true) : splS 32 s = [cA s, cZ s] ∧ cA s ++ ⟨#[32]⟩ ++ cZ s = s := by
  rcases cut_cases s.data.toList with ⟨_, hc⟩ | ⟨x, y, hxy, hx, hc⟩
  · exfalso
    have : cZ s = ⟨#[]⟩ := by unfold cZ; rw [hc]
    rw [this] at h
    rw [oneK_none (show rlF ⟨#[]⟩ = none from rfl)] at h
    cases h
  · have hA : (cA s).data.toList = x := by unfold cA; rw [hc]
    have hZ : (cZ s).data.toList = y := by unfold cZ; rw [hc]
    have hy := (numK_text h).2
    rw [hZ] at hy
    constructor
    · refine (splS_of ?_).symm
      rw [List.map_cons, List.map_cons, List.map_nil, hA, hZ, hxy, splL_app 32 x y hx, splL_none hy]
    · refine data_inj ?_
      rw [Go.Joins.data_append, Go.Joins.data_append, hA, hZ, hxy]; simp
theorem words_back {s a b : ByteArray} (h : splS 32 s = [a, b]) : cA s = a ∧ cZ s = b := by
  have hd := splS_data 32 s
  rw [h] at hd
  rcases cut_cases s.data.toList with ⟨hn, hc⟩ | ⟨x, y, hxy, hx, hc⟩
  · rw [splL_none hn] at hd; exact absurd (congrArg List.length hd) (by simp)
  · rw [hxy, splL_app 32 x y hx, List.map_cons, List.map_cons, List.map_nil] at hd
    obtain ⟨h1, h2⟩ := List.cons.inj hd
    have h3 := splL_join 32 y [] b.data.toList h2.symm
    have hA : (cA s).data.toList = x := by unfold cA; rw [hc]
    have hZ : (cZ s).data.toList = y := by unfold cZ; rw [hc]
    exact ⟨data_inj (by rw [hA, h1]), data_inj (by rw [hZ, ← h3]; simp)⟩
theorem words_few {s : ByteArray} {k : Nat} (h : ¬ (splS 32 s).length = 2) : oneK k (cZ s) = false := by
  cases hk : oneK k (cZ s) with
  | false => rfl
  | true => rw [(words_of hk).1] at h; exact absurd rfl h
theorem words4 {s a b c d : ByteArray} (h : splS 32 s = [a, b, c, d]) : a ++ ⟨#[32]⟩ ++ b ++ ⟨#[32]⟩ ++ c ++ ⟨#[32]⟩ ++ d = s := by
  have hd := splS_data 32 s
  rw [h] at hd
  have hj := splL_join 32 s.data.toList [a.data.toList, b.data.toList, c.data.toList] d.data.toList hd.symm
  refine data_inj ?_
  rw [Go.Joins.data_append, Go.Joins.data_append, Go.Joins.data_append, Go.Joins.data_append, Go.Joins.data_append, Go.Joins.data_append, ← hj]; simp
theorem made2 (v : Value) : madeCells #[v] 2 = #[v, v] := by
  unfold madeCells
  rw [show Array.range 2 = #[0, 1] from by decide]
  simp [Nat.mod_one]
theorem made3R (v : Value) : madeCells #[v] 3 = #[v, v, v] := by
  unfold madeCells
  rw [show Array.range 3 = #[0, 1, 2] from by decide]
  simp [Nat.mod_one]
theorem New.drewR {α : Type} {E : Cod α} {w w' : World} {v : Value} {xs : List α} (h : New E w v xs w') : New E w v xs w'.drew := by
  obtain ⟨⟨fp, h1, h2, h3⟩, hb⟩ := h
  exact ⟨⟨fp, h1.below' (Below.drew (Below.refl _ _)), h2, h3⟩, Below.drew hb⟩
def wiA (s : ByteArray) : ByteArray := if oneK 2 (cZ s) then cA s else ⟨#[]⟩
set_option maxRecDepth 100000 in
set_option maxHeartbeats 4000000 in
theorem readWithId_any (s : ByteArray) (m : Int) (w : World) (hs : s.size ≤ 1048576) (hm : w.cell? ⟨0, 0, none⟩ = some (.int .i64 m)) (ht : RdTabs w) :
    Calls Tryz.prog 23 #[.string s, .int .i64 2] w fun e w' => ∃ v, e = .returned (.tuple #[.string (wiA s), v, .bool (oneK 2 (cZ s))]) ∧ New fInt.cod w v (numK 2 (cZ s)) w' := by
  obtain ⟨i0, hi, hz0, hz1, hz2⟩ := info_parts infoIntR
  have hmk : ∀ W : World, (Instr.makeSlice 52 (.int .i64 2) (.int .i64 2)).run Tryz.prog W = .ok (.slice (some ⟨W.heap.size, 0, none⟩) 2 2) (W.alloc (.cells (madeCells (Value.int .i64 0).cells (2 * i0.size)) 2)) := fun W => run_make_rowN (P := Tryz.prog) 52 2 i0 _ Tryz.underlying52 hi hz0 .i64 .i64 2 2 (Nat.le_refl _) (by rw [hz2]; decide) (by decide) W
  rw [hz1] at hmk
  have hzero : ∀ W : World, Own fInt (W.alloc (.cells (madeCells #[Value.int .i64 0] 2) 2)) W.heap.size 2 (.slice (some ⟨W.heap.size, 0, none⟩) 2 2) [0, 0] := fun W => by
    rw [made2]
    exact World.ownsRow_lit (e := 2) (size := 1) W #[Value.int .i64 0, .int .i64 0] 2 (Nat.le_refl _) (by decide) rfl
  have hsz := (cAZ_size s).2
  have hsA := (cAZ_size s).1
  have hcut : Calls Tryz.prog 41 #[.string s, .string ⟨#[32]⟩] w fun e w' => e = .returned (.tuple #[.string (cA s), .string (cZ s), .bool (Lib.cut s.data.toList [32]).2.2]) ∧ ∃ n, w' = w.drewN n := Tryz.strings_Cut s ⟨#[32]⟩ m w (by omega) hm
  have hWA : wiA s = if oneK 2 (cZ s) then cA s else ⟨#[]⟩ := rfl
  generalize (Lib.cut s.data.toList [32]).2.2 = fnd at *
  generalize cA s = sa at *
  generalize cZ s = sz at *
  generalize wiA s = ra at *
  go_enter Tryz.func23, Tryz.ntmps23
  go_wp2_with fail
  refine hcut.mono ?_
  rintro e w' ⟨rfl, n, rfl⟩
  have hW : Below w.heap.size w (w.drewN n) := below_drewN (Below.refl _ _) _
  generalize hwn : w.drewN n = wn at *
  go_wp2_with fail
  refine (implReadList_any sz m _ (by omega) (cell_below hW hm) (ht.below hW)).mono ?_
  rintro e w1 ⟨v1, rfl, hn1⟩
  have hb1 := hW.trans (hn1.below.mono hW.size)
  have hn1' := hn1.later hW
  have HFAIL : Hid (oneK 2 sz = false → ∃ v, Ending.returned (.tuple #[.string ⟨#[]⟩, .slice (some ⟨w1.heap.size, 0, none⟩) 2 2, .bool false]) = .returned (.tuple #[.string ra, v, .bool (oneK 2 sz)]) ∧ New fInt.cod w v (numK 2 sz) (w1.alloc (.cells (madeCells #[Value.int .i64 0] 2) 2)).drew) := fun h => by
    refine ⟨_, by rw [hWA, h]; rfl, ?_⟩
    rw [oneK_no h]
    exact (((hzero w1).new ((Below.refl _ _).alloc (Nat.le_refl _) _) (by intro x hx; simp at hx; subst hx; show _ ∧ _; simp)).later hb1).drewR
  clear hzero
  cases hr : rlF sz with
  | none =>
    have h1 := oneK_none (k := 2) hr
    rw [show (none : Option (List Int)).isSome = false from rfl]
    clear hn1 hn1' hr hWA
    go_wp2
    refine wp_region_mixed [0, 2, 1, 3, 4] (C := fun w' => ∃ p : Regrown, w' = Go.Sort.grow (redrawn w1 p.d) p.os) [true, true, false, true, true] (by kernel_rfl) (by kernel_rfl) (by kernel_rfl) (fun _ _ d _ _ h => by cases d <;> exact h) (regrown_of_below (Below.drew (Below.refl _ _))) ?_
    simp only [List.map_cons, List.map_nil, List.getD_cons_zero, List.getD_cons_succ]
    have hS0 : Below (w1.heap.size) w1 w1.drew := Below.drew (Below.refl _ _)
    refine wpMix_pure (by kernel_rfl) (fun K hK => ?_); go_big_quiet_op; refine hK _ ?_; clear hK K
    refine wpMix_pure (by kernel_rfl) (fun K hK => ?_); go_big_quiet_op; refine hK _ ?_; clear hK K
    refine wpMix_act (by kernel_rfl) (fun K hK => ?_)
    go_big_op
    refine hK _ _ (regrown_of_below (by first | exact hS0.alloc hS0.size _ | exact Below.drew ((Below.refl _ _).alloc (Nat.le_refl _) _) | exact (Below.drew (Below.refl _ _)).alloc (Nat.le_refl _) _)) ?_
    clear hK K
    refine wpMix_pure (by kernel_rfl) (fun K hK => ?_); go_big_quiet_op; refine hK _ ?_; clear hK K
    refine wpMix_pure (by kernel_rfl) (fun K hK => ?_); go_big_quiet_op; refine hK _ ?_; clear hK K
    refine wpMix_nil ?_
    have HQ := Lib.hid (HFAIL.out h1)
    clear h1 hS0
    go_wp2
    go_ret3
    exact HQ.out
  | some xs =>
    have h1 := oneK_some (k := 2) hr
    rw [show (some xs : Option (List Int)).isSome = true from rfl]
    rw [hr] at hn1'
    have hn2 : New fInt.cod w v1 xs w1 := hn1'
    obtain ⟨⟨fpy, hsy, _, _⟩, _⟩ := id hn2
    obtain ⟨A, cap, rfl, _, _⟩ := hsy.form
    clear hn1 hn1' hsy
    by_cases h2 : xs.length = 2
    · rw [decide_eq_true h2] at h1
      have HN := Lib.hid (numK_some hr h2)
      have hn3 : New fInt.cod w (.slice A 2 cap) xs w1 := by rw [← h2]; exact hn2
      have HA : Hid (ra = sa) := by show _ = _; rw [hWA, h1]; rfl
      have H1 := Lib.hid h1
      have e5 : ((xs.length : Int) == 2) = true := by rw [beq_iff_eq]; omega
      have e6 : ((xs.length : Int) != 2) = false := by unfold bne; rw [e5]; rfl
      clear hr h1 hWA
      go_wp2
      go_ret3
      exact ⟨_, by rw [H1.out, HA.out]; rfl, by rw [HN.out]; exact hn3⟩
    · rw [decide_eq_false h2] at h1
      have e5 : ((xs.length : Int) == 2) = false := by rw [beq_eq_false_iff_ne]; omega
      have e6 : ((xs.length : Int) != 2) = true := by unfold bne; rw [e5]; rfl
      clear hr hn2 hWA
      go_wp2
      refine wp_region_mixed [0, 2, 1, 3, 4] (C := fun w' => ∃ p : Regrown, w' = Go.Sort.grow (redrawn w1 p.d) p.os) [true, true, false, true, true] (by kernel_rfl) (by kernel_rfl) (by kernel_rfl) (fun _ _ d _ _ h => by cases d <;> exact h) (regrown_of_below (Below.drew (Below.refl _ _))) ?_
      simp only [List.map_cons, List.map_nil, List.getD_cons_zero, List.getD_cons_succ]
      have hS0 : Below (w1.heap.size) w1 w1.drew := Below.drew (Below.refl _ _)
      refine wpMix_pure (by kernel_rfl) (fun K hK => ?_); go_big_quiet_op; refine hK _ ?_; clear hK K
      refine wpMix_pure (by kernel_rfl) (fun K hK => ?_); go_big_quiet_op; refine hK _ ?_; clear hK K
      refine wpMix_act (by kernel_rfl) (fun K hK => ?_)
      go_big_op
      refine hK _ _ (regrown_of_below (by first | exact hS0.alloc hS0.size _ | exact Below.drew ((Below.refl _ _).alloc (Nat.le_refl _) _) | exact (Below.drew (Below.refl _ _)).alloc (Nat.le_refl _) _)) ?_
      clear hK K
      refine wpMix_pure (by kernel_rfl) (fun K hK => ?_); go_big_quiet_op; refine hK _ ?_; clear hK K
      refine wpMix_pure (by kernel_rfl) (fun K hK => ?_); go_big_quiet_op; refine hK _ ?_; clear hK K
      refine wpMix_nil ?_
      have HQ := Lib.hid (HFAIL.out h1)
      clear h1 hS0
      go_wp2
      go_ret3
      exact HQ.out

end Go.Proofs.YtdpeffaplkbkgaaGreatDoor

namespace Go.Proofs.YtdpeffaplkbkgaaGreatDoor
open Go.RowKit
set_option linter.unusedVariables false

/-- The text of a name and numbers. -/
def widT (i : ByteArray) (xs : List Int) : ByteArray := i ++ ⟨#[32]⟩ ++ listT xs
theorem widT_cut {i : ByteArray} {xs : List Int} (hi : ∀ b ∈ i.data.toList, b ≠ 32) (hf : fitsL xs = true) : cA (widT i xs) = i ∧ cZ (widT i xs) = listS xs := by
  have e : listT xs = listS xs := by unfold listT; rw [if_pos hf]
  refine words_back ?_
  refine (splS_of ?_).symm
  unfold widT
  rw [e, List.map_cons, List.map_cons, List.map_nil, Go.Joins.data_append, Go.Joins.data_append]
  rw [show i.data.toList ++ (⟨#[32]⟩ : ByteArray).data.toList ++ (listS xs).data.toList = i.data.toList ++ 32 :: (listS xs).data.toList by simp]
  rw [splL_app 32 _ _ hi, splL_none (listS_noblank xs)]
theorem fitsL_of {xs : List Int} (hl : xs.length ≤ 64) (h : ∀ x ∈ xs, -1000000000000 ≤ x ∧ x ≤ 1000000000000) : fitsL xs = true := by
  unfold fitsL
  rw [decide_eq_true hl, Bool.true_and, List.all_eq_true]
  exact fun x hx => inB_true.2 (h x hx)
set_option maxRecDepth 100000 in
set_option maxHeartbeats 4000000 in
theorem readWithId_of (i : ByteArray) (xs : List Int) (k : Nat) (w : World) (hi : ∀ b ∈ i.data.toList, b ≠ 32) (hiz : i.size ≤ 100) (hf : fitsL xs = true) (hk : xs.length = k) (m : Int) (hm : w.cell? ⟨0, 0, none⟩ = some (.int .i64 m)) (ht : RdTabs w) :
    Calls Tryz.prog 23 #[.string (widT i xs), .int .i64 k] w fun e w' => ∃ v, e = .returned (.tuple #[.string i, v, .bool true]) ∧ New fInt.cod w v xs w' := by
  have hxo : ∀ x ∈ xs, fInt.ok x := fun x hx => by
    unfold fitsL at hf
    rw [Bool.and_eq_true, List.all_eq_true] at hf
    have := inB_true.1 (hf.2 x hx)
    show _ ∧ _; omega
  have hl64 : xs.length ≤ 64 := by
    unfold fitsL at hf
    rw [Bool.and_eq_true] at hf
    exact of_decide_eq_true hf.1
  have hsz := listS_size hxo
  have hlt : listT xs = listS xs := by unfold listT; rw [if_pos hf]
  have hs : (widT i xs).size ≤ 1048576 := by
    unfold widT
    rw [hlt, ByteArray.size_append, ByteArray.size_append]
    show _ + 1 + _ ≤ _; omega
  obtain ⟨hA, hZ⟩ := widT_cut hi hf
  have hcut : Calls Tryz.prog 41 #[.string (widT i xs), .string ⟨#[32]⟩] w fun e w' => e = .returned (.tuple #[.string (cA (widT i xs)), .string (cZ (widT i xs)), .bool (Lib.cut (widT i xs).data.toList [32]).2.2]) ∧ ∃ n, w' = w.drewN n := Tryz.strings_Cut _ ⟨#[32]⟩ m w (by omega) hm
  rw [hA, hZ] at hcut
  have hr := rlF_list hf
  generalize (Lib.cut (widT i xs).data.toList [32]).2.2 = fnd at *
  generalize widT i xs = s at *
  clear hA hZ hlt
  go_enter Tryz.func23, Tryz.ntmps23
  go_wp2_with fail
  refine hcut.mono ?_
  rintro e w' ⟨rfl, n, rfl⟩
  have hW : Below w.heap.size w (w.drewN n) := below_drewN (Below.refl _ _) _
  generalize hwn : w.drewN n = wn at *
  go_wp2_with fail
  refine (implReadList_any (listS xs) m _ (by omega) (cell_below hW hm) (ht.below hW)).mono ?_
  rintro e w1 ⟨v1, rfl, hn1⟩
  have hn1' := hn1.later hW
  rw [hr] at hn1'
  have hn2 : New fInt.cod w v1 xs w1 := hn1'
  obtain ⟨⟨fpy, hsy, _, _⟩, _⟩ := id hn2
  obtain ⟨A, cap, rfl, _, _⟩ := hsy.form
  rw [hr, show (some xs : Option (List Int)).isSome = true from rfl]
  have hn3 : New fInt.cod w (.slice A k cap) xs w1 := by rw [← hk]; exact hn2
  have e5 : ((xs.length : Int) == (k : Int)) = true := by rw [beq_iff_eq]; omega
  have e6 : ((xs.length : Int) != (k : Int)) = false := by unfold bne; rw [e5]; rfl
  clear hn1 hn1' hsy hr hn2
  go_wp2
  go_ret3
  exact ⟨_, rfl, by first | exact hn3 | (rw [hk]; exact hn3)⟩
end Go.Proofs.YtdpeffaplkbkgaaGreatDoor

namespace Go.Proofs.YtdpeffaplkbkgaaGreatDoor
open Go.RowKit
set_option linter.unusedVariables false

def groupT (x : DGroup) : ByteArray := widT x.id [x.people, x.guides, x.beacons, x.shovels, x.probes, x.skill]
theorem group_fits {x : DGroup} (h : groupB x = true) : fitsL [x.people, x.guides, x.beacons, x.shovels, x.probes, x.skill] = true := by
  have hb := groupB_bounds h
  refine fitsL_of (by show 6 ≤ 64; decide) (fun y hy => ?_)
  simp only [List.mem_cons, List.not_mem_nil, or_false] at hy
  omega
set_option maxRecDepth 100000 in
set_option maxHeartbeats 4000000 in
theorem GroupText_any (x : DGroup) (w : World) (hv : groupB x = true) (hok : fGroup.ok x) (ht : Tab10 w) :
    Calls Tryz.prog 8 #[.agg #[.string x.id, .int .i64 x.people, .int .i64 x.guides, .int .i64 x.beacons, .int .i64 x.shovels, .int .i64 x.probes, .int .i64 x.skill]] w fun e w' => e = .returned (.string (groupT x)) ∧ Below w.heap.size w w' := by
  have hp := PGroup.box w x 25
  have hB0 : Below w.heap.size w (w.alloc (.cells #[.string x.id, .int .i64 x.people, .int .i64 x.guides, .int .i64 x.beacons, .int .i64 x.shovels, .int .i64 x.probes, .int .i64 x.skill] 25)) := (Below.refl _ _).alloc (Nat.le_refl _) _
  have hl4 : Hid (∀ y ∈ [x.people, x.guides, x.beacons, x.shovels, x.probes, x.skill], fInt.ok y) := fun y hy => by
    obtain ⟨o0, o1, o2, o3, o4, o5, o6⟩ := hok
    simp only [List.mem_cons, List.not_mem_nil, or_false] at hy
    rcases hy with rfl | rfl | rfl | rfl | rfl | rfl <;> assumption
  have hid : x.id.size ≤ 10 := nameB_len ((groupB_bounds hv).1)
  have HT := Lib.hid (show groupT x = x.id ++ ⟨#[32]⟩ ++ listT [x.people, x.guides, x.beacons, x.shovels, x.probes, x.skill] from rfl)
  generalize groupT x = R at *
  go_enter Tryz.func8, Tryz.ntmps8
  go_wp2_with fail
  refine (implValid_any x _ hok).mono ?_
  rintro e w1 ⟨rfl, hb1⟩
  rw [hv]
  have hp1 := hp.below' hb1
  have hB1 := hB0.trans (hb1.mono hB0.size)
  have ht1 := ht.below hB1
  obtain ⟨c0, c1, c2, c3, c4, c5, c6⟩ := hp1
  clear hp hb1 hB0 hv hok
  have hBL : Below w1.heap.size w1 (w1.alloc (.cells #[.int .i64 x.people, .int .i64 x.guides, .int .i64 x.beacons, .int .i64 x.shovels, .int .i64 x.probes, .int .i64 x.skill] 2)) := (Below.refl _ _).alloc (Nat.le_refl _) _
  have hsl := Sl.lit2 (E := fInt) w1 [x.people, x.guides, x.beacons, x.shovels, x.probes, x.skill] 2 _ rfl hl4.out (by show 0 < 6; decide) (by show 6 ≤ _; decide)
  have hB2 := hB1.trans (hBL.mono hB1.size)
  have ht2 := ht1.below hBL
  clear hl4
  go_wp2_with fail
  refine (withId_any _ _ [x.people, x.guides, x.beacons, x.shovels, x.probes, x.skill] _ _ hsl (by show 6 ≤ _; decide) (by omega) ht2).mono ?_
  rintro e w2 ⟨rfl, hb2⟩
  go_wp2
  go_ret
  exact ⟨ret_str HT.out.symm, hB2.trans (hb2.mono hB2.size)⟩
set_option maxRecDepth 100000 in
set_option maxHeartbeats 8000000 in
theorem ReadGroup_of (x : DGroup) (w : World) (hv : groupB x = true) (hok : fGroup.ok x) (m : Int) (hm : w.cell? ⟨0, 0, none⟩ = some (.int .i64 m)) (ht : RdTabs w) :
    Calls Tryz.prog 7 #[.string (groupT x)] w fun e w' => e = .returned (.tuple #[agGroup x, .bool true]) ∧ Below w.heap.size w w' := by
  have hnm := (groupB_bounds hv).1
  go_enter Tryz.func7, Tryz.ntmps7
  go_wp2_with fail
  refine (readWithId_of x.id [x.people, x.guides, x.beacons, x.shovels, x.probes, x.skill] 6 _ (name_noblank hnm) (by have := nameB_len hnm; omega) (group_fits hv) rfl m (cell_below ((Below.refl _ _).alloc (Nat.le_refl _) _) hm) (ht.below ((Below.refl _ _).alloc (Nat.le_refl _) _))).mono ?_
  rintro e w1 ⟨v1, rfl, ⟨⟨fpy, hsy, hlo, _⟩, hb1⟩⟩
  have hX1 : BxGroup w1 w.heap.size := (BxGroup.new w _).belowB hb1 (by simp)
  have hB1 : Below w.heap.size w w1 := ((Below.refl _ _).alloc (Nat.le_refl _) _).trans (hb1.mono (by simp))
  have hg1 : w.heap.size < w1.heap.size := hX1.lt
  clear hb1 hnm
  obtain ⟨A2, cap2, rfl, hle2, _⟩ := hsy.form
  obtain ⟨g2, o2, rfl, _, _, n0, _⟩ := hsy.cell1 rfl (k := 0) (by simp) rfl
  obtain ⟨g3, o3, hA2, _, _, n1, _⟩ := hsy.cell1 rfl (k := 1) (by simp) rfl
  injection hA2 with hA2; injection hA2 with ha1 ha2 _; subst ha1 ha2
  obtain ⟨g3, o3, hA2, _, _, n2, _⟩ := hsy.cell1 rfl (k := 2) (by simp) rfl
  injection hA2 with hA2; injection hA2 with ha1 ha2 _; subst ha1 ha2
  obtain ⟨g3, o3, hA2, _, _, n3, _⟩ := hsy.cell1 rfl (k := 3) (by simp) rfl
  injection hA2 with hA2; injection hA2 with ha1 ha2 _; subst ha1 ha2
  obtain ⟨g3, o3, hA2, _, _, n4, _⟩ := hsy.cell1 rfl (k := 4) (by simp) rfl
  injection hA2 with hA2; injection hA2 with ha1 ha2 _; subst ha1 ha2
  obtain ⟨g3, o3, hA2, _, _, n5, _⟩ := hsy.cell1 rfl (k := 5) (by simp) rfl
  injection hA2 with hA2; injection hA2 with ha1 ha2 _; subst ha1 ha2
  replace n0 : w1.cell? ⟨g2, o2, none⟩ = some (.int .i64 x.people) := by simpa using n0
  replace n1 : w1.cell? ⟨g2, o2 + 1, none⟩ = some (.int .i64 x.guides) := n1
  replace n2 : w1.cell? ⟨g2, o2 + 2, none⟩ = some (.int .i64 x.beacons) := n2
  replace n3 : w1.cell? ⟨g2, o2 + 3, none⟩ = some (.int .i64 x.shovels) := n3
  replace n4 : w1.cell? ⟨g2, o2 + 4, none⟩ = some (.int .i64 x.probes) := n4
  replace n5 : w1.cell? ⟨g2, o2 + 5, none⟩ = some (.int .i64 x.skill) := n5
  have e3 : (([x.people, x.guides, x.beacons, x.shovels, x.probes, x.skill] : List Int).length : Int) = 6 := rfl
  have e3' : ([x.people, x.guides, x.beacons, x.shovels, x.probes, x.skill] : List Int).length = 6 := rfl
  clear hsy hlo
  go_wp2
  have gn0 := cell_regrown n0
  have gn1 := cell_regrown n1
  have gn2 := cell_regrown n2
  have gn3 := cell_regrown n3
  have gn4 := cell_regrown n4
  have gn5 := cell_regrown n5
  refine wp_region_mix (C := fun w' => ∃ p : Regrown, w' = Go.Sort.grow (redrawn w1 p.d) p.os) [true, true, true, true, true, true, true, true, true, true, true, true, true, true, true, true, true, true, true, true, false, false] (by kernel_rfl) (by kernel_rfl) (by kernel_rfl) (fun _ _ d _ _ h => by cases d <;> exact h) (regrown_of_below (Below.drew (Below.refl _ _))) ?_
  have hS0 : Below (w1.heap.size) w1 w1.drew := Below.drew (Below.refl _ _)
  refine wpMix_pure (by kernel_rfl) (fun K hK => ?_); go_big_quiet_op; refine hK _ ?_; clear hK K
  refine wpMix_pure (by kernel_rfl) (fun K hK => ?_); go_big_quiet_op; refine hK _ ?_; clear hK K
  refine wpMix_pure (by kernel_rfl) (fun K hK => ?_); go_big_quiet_op; refine hK _ ?_; clear hK K
  refine wpMix_pure (by kernel_rfl) (fun K hK => ?_); go_big_quiet_op; refine hK _ ?_; clear hK K
  refine wpMix_pure (by kernel_rfl) (fun K hK => ?_); go_big_quiet_op; refine hK _ ?_; clear hK K
  refine wpMix_pure (by kernel_rfl) (fun K hK => ?_); go_big_quiet_op; refine hK _ ?_; clear hK K
  refine wpMix_pure (by kernel_rfl) (fun K hK => ?_); go_big_quiet_op; refine hK _ ?_; clear hK K
  refine wpMix_pure (by kernel_rfl) (fun K hK => ?_); go_big_quiet_op; refine hK _ ?_; clear hK K
  refine wpMix_pure (by kernel_rfl) (fun K hK => ?_); go_big_quiet_op; refine hK _ ?_; clear hK K
  refine wpMix_pure (by kernel_rfl) (fun K hK => ?_); go_big_quiet_op; refine hK _ ?_; clear hK K
  refine wpMix_pure (by kernel_rfl) (fun K hK => ?_); go_big_quiet_op; refine hK _ ?_; clear hK K
  refine wpMix_pure (by kernel_rfl) (fun K hK => ?_); go_big_quiet_op; refine hK _ ?_; clear hK K
  refine wpMix_pure (by kernel_rfl) (fun K hK => ?_); go_big_quiet_op; refine hK _ ?_; clear hK K
  refine wpMix_pure (by kernel_rfl) (fun K hK => ?_); go_big_quiet_op; refine hK _ ?_; clear hK K
  refine wpMix_pure (by kernel_rfl) (fun K hK => ?_); go_big_quiet_op; refine hK _ ?_; clear hK K
  refine wpMix_pure (by kernel_rfl) (fun K hK => ?_); go_big_quiet_op; refine hK _ ?_; clear hK K
  refine wpMix_pure (by kernel_rfl) (fun K hK => ?_); go_big_quiet_op; refine hK _ ?_; clear hK K
  refine wpMix_pure (by kernel_rfl) (fun K hK => ?_); go_big_quiet_op; refine hK _ ?_; clear hK K
  refine wpMix_pure (by kernel_rfl) (fun K hK => ?_); go_big_quiet_op; refine hK _ ?_; clear hK K
  refine wpMix_pure (by kernel_rfl) (fun K hK => ?_); go_big_quiet_op; refine hK _ ?_; clear hK K
  refine wpMix_act (by kernel_rfl) (fun K hK => ?_)
  go_big_op
  refine hK _ _ (regrown_of_below (by first | exact hS0.alloc hS0.size _ | exact Below.drew ((Below.refl _ _).alloc (Nat.le_refl _) _) | exact (Below.drew (Below.refl _ _)).alloc (Nat.le_refl _) _ | exact Below.drew (((Below.refl _ _).alloc (Nat.le_refl _) _).alloc (by simp) _))) ?_
  clear hK K
  refine wpMix_act (by kernel_rfl) (fun K hK => ?_)
  go_big_op
  refine hK _ _ (regrown_of_below (by first | exact hS0.alloc hS0.size _ | exact Below.drew ((Below.refl _ _).alloc (Nat.le_refl _) _) | exact (Below.drew (Below.refl _ _)).alloc (Nat.le_refl _) _ | exact Below.drew (((Below.refl _ _).alloc (Nat.le_refl _) _).alloc (by simp) _))) ?_
  clear hK K
  refine wpMix_nil ?_
  have hBx : Below w1.heap.size w1 (w1.alloc (.cells #[.string x.id, .int .i64 x.people, .int .i64 x.guides, .int .i64 x.beacons, .int .i64 x.shovels, .int .i64 x.probes, .int .i64 x.skill] 25)).drew := Below.drew ((Below.refl _ _).alloc (Nat.le_refl _) _)
  have hBV := hB1.trans (hBx.mono hB1.size)
  have hXV := hX1.belowB hBx hg1
  have hpx : PGroup (w1.alloc (.cells #[.string x.id, .int .i64 x.people, .int .i64 x.guides, .int .i64 x.beacons, .int .i64 x.shovels, .int .i64 x.probes, .int .i64 x.skill] 25)).drew w1.heap.size 0 x := (PGroup.box w1 x _).below' (Below.drew (Below.refl _ _))
  clear hX1 n0 gn0 n1 gn1 n2 gn2 n3 gn3 n4 gn4 n5 gn5 hBx hS0
  generalize (w1.alloc (.cells #[.string x.id, .int .i64 x.people, .int .i64 x.guides, .int .i64 x.beacons, .int .i64 x.shovels, .int .i64 x.probes, .int .i64 x.skill] 25)).drew = V at *
  generalize w1.heap.size = b at *
  obtain ⟨x0, x1, x2, x3, x4, x5, x6⟩ := id hpx
  go_wp2_with fail
  refine (GroupText_any x _ hv hok (ht.below hBV).tab).mono ?_
  rintro e U ⟨rfl, hbU⟩
  have hBU := hBV.trans (hbU.mono hBV.size)
  have hXU := hXV.belowB hbU hXV.lt
  have hpU := hpx.below' hbU
  have hXlt := hXV.lt
  clear hXV hpx x0 x1 x2 x3 x4 x5 x6
  obtain ⟨d0, d1, d2, d3, d4, d5, d6, z0, z1, z2, z3, z4, z5, z6⟩ := hXU
  obtain ⟨x0, x1, x2, x3, x4, x5, x6⟩ := hpU
  have e9 : ((groupT x).toList == (groupT x).toList) = true := beq_self_eq_true _
  have e10 : ((groupT x).toList != (groupT x).toList) = false := by unfold bne; rw [e9]; rfl
  generalize groupT x = s at *
  have hrr := Nat.le_refl w.heap.size
  go_wp2
  exact bodyPost_ret (v := .tuple #[agGroup x, .bool true]) (by simp [agGroup, results, hit_cellX, d0, d1, d2, d3, d4, d5, d6, Tryz.results7, go_sem]) rfl ⟨rfl, by (repeat (refine Below.setCell ?_ hrr _)); exact hBU⟩

end Go.Proofs.YtdpeffaplkbkgaaGreatDoor

namespace Go.Proofs.YtdpeffaplkbkgaaGreatDoor
open Go.RowKit
set_option linter.unusedVariables false

/-! ### strings in a list -/
def memS (s : ByteArray) (xs : List ByteArray) : Bool := xs.any fun x => decide (x = s)
def NotS (xs : List ByteArray) (s : ByteArray) (k : Nat) : Prop := ∀ j (hj : j < k) (h : j < xs.length), xs[j] ≠ s
theorem NotS.zero {xs : List ByteArray} {s : ByteArray} : NotS xs s 0 := fun j hj => absurd hj (Nat.not_lt_zero _)
theorem NotS.step {xs : List ByteArray} {s : ByteArray} {k : Nat} (h : k < xs.length) (he : xs[k] ≠ s) (h0 : NotS xs s k) : NotS xs s (k + 1) := by
  intro j hj hl
  by_cases e : j = k
  · subst e; exact he
  · exact h0 j (by omega) hl
theorem NotS.none {xs : List ByteArray} {s : ByteArray} {k : Nat} (h : xs.length ≤ k) (h0 : NotS xs s k) : memS s xs = false := by
  unfold memS
  rw [List.any_eq_false]
  intro x hm
  obtain ⟨j, hj, e⟩ := List.getElem_of_mem hm
  have := h0 j (by omega) hj
  rw [e] at this
  simpa using this
theorem inS {xs : List ByteArray} {s : ByteArray} {k : Nat} (h : k < xs.length) (he : xs[k] = s) : memS s xs = true := by
  unfold memS
  rw [List.any_eq_true]
  exact ⟨xs[k], List.getElem_mem h, by simpa using he⟩
theorem memS_true {xs : List ByteArray} {s : ByteArray} : memS s xs = true ↔ s ∈ xs := by
  unfold memS; rw [List.any_eq_true]
  constructor
  · rintro ⟨x, hx, he⟩
    have he := of_decide_eq_true he
    subst he; exact hx
  · intro h; exact ⟨s, h, decide_eq_true rfl⟩
def memI (n : Int) (xs : List Int) : Bool := xs.any fun x => decide (x = n)
def NotI (xs : List Int) (n : Int) (k : Nat) : Prop := ∀ j (hj : j < k) (h : j < xs.length), xs[j] ≠ n
theorem NotI.zero {xs : List Int} {n : Int} : NotI xs n 0 := fun j hj => absurd hj (Nat.not_lt_zero _)
theorem NotI.step {xs : List Int} {n : Int} {k : Nat} (h : k < xs.length) (he : xs[k] ≠ n) (h0 : NotI xs n k) : NotI xs n (k + 1) := by
  intro j hj hl
  by_cases e : j = k
  · subst e; exact he
  · exact h0 j (by omega) hl
theorem NotI.none {xs : List Int} {n : Int} {k : Nat} (h : xs.length ≤ k) (h0 : NotI xs n k) : memI n xs = false := by
  unfold memI
  rw [List.any_eq_false]
  intro x hm
  obtain ⟨j, hj, e⟩ := List.getElem_of_mem hm
  have := h0 j (by omega) hj
  rw [e] at this
  simpa using this
theorem inI {xs : List Int} {n : Int} {k : Nat} (h : k < xs.length) (he : xs[k] = n) : memI n xs = true := by
  unfold memI
  rw [List.any_eq_true]
  exact ⟨xs[k], List.getElem_mem h, by simpa using he⟩
theorem memI_true {xs : List Int} {n : Int} : memI n xs = true ↔ n ∈ xs := by
  unfold memI; rw [List.any_eq_true]
  constructor
  · rintro ⟨x, hx, he⟩
    have he := of_decide_eq_true he
    subst he; exact hx
  · intro h; exact ⟨n, h, decide_eq_true rfl⟩
end Go.Proofs.YtdpeffaplkbkgaaGreatDoor

namespace Go.Proofs.YtdpeffaplkbkgaaGreatDoor
open Go.RowKit
set_option linter.unusedVariables false

set_option maxRecDepth 100000 in
set_option maxHeartbeats 400000 in
theorem b10Long_any (v : Value) (xs : List UInt8) (fp : List Nat) (w : World) (hx : Sl fByte.cod w v xs fp) :
    Calls Tryz.prog 4 #[v] w fun e w' => e = .returned (.bool (decide (1048576 < xs.length))) ∧ w = w' := by
  obtain ⟨A, cap, rfl, hlen, hcap⟩ := hx.form
  go_enter Tryz.func4, Tryz.ntmps4
  go_wp2
  go_ret
  refine ⟨?_, rfl⟩
  show Ending.returned (.bool _) = _
  congr 2
  rw [Bool.eq_iff_iff]
  simp <;> omega
/-- The number at index i lies in 0 .. n-1, and is greater than the one before it. -/
def riseAt (xs : List Int) (n : Int) (i : Nat) : Bool := inB (xs.getD i 0) 0 (n - 1) && (i == 0 || decide (xs.getD (i - 1) 0 < xs.getD i 0))
def risesB (xs : List Int) (n : Int) : Bool := allIdx (riseAt xs n) xs.length
theorem riseAt_in {xs : List Int} {n : Int} {k : Nat} (h : k < xs.length) : riseAt xs n k = (inB xs[k] 0 (n - 1) && (k == 0 || decide (xs.getD (k - 1) 0 < xs[k]))) := by
  unfold riseAt; rw [getD_of_lt h]
theorem riseAt_neg {xs : List Int} {n : Int} {k : Nat} (h : k < xs.length) (h1 : xs[k] < 0) : riseAt xs n k = false := by
  rw [riseAt_in h]; unfold inB; rw [decide_eq_false (by omega)]; rfl
theorem riseAt_far {xs : List Int} {n : Int} {k : Nat} (h : k < xs.length) (h1 : n ≤ xs[k]) : riseAt xs n k = false := by
  rw [riseAt_in h]; unfold inB; rw [decide_eq_false (by omega : ¬ xs[k] ≤ n - 1)]; simp
theorem riseAt_low {xs : List Int} {n : Int} {m : Nat} (h : m + 1 < xs.length) (h1 : xs[m + 1] ≤ xs[m]) : riseAt xs n (m + 1) = false := by
  rw [riseAt_in h, show m + 1 - 1 = m from rfl, getD_of_lt (by omega : m < xs.length), decide_eq_false (by omega)]
  simp
theorem riseAt_zero {xs : List Int} {n : Int} (h : 0 < xs.length) (h0 : (0 : Int) ≤ xs[0]) (h1 : xs[0] < n) : riseAt xs n 0 = true := by
  rw [riseAt_in h]; unfold inB; rw [decide_eq_true h0, decide_eq_true (by omega)]; rfl
theorem riseAt_ok {xs : List Int} {n : Int} {m : Nat} (h : m + 1 < xs.length) (h0 : (0 : Int) ≤ xs[m + 1]) (h1 : xs[m + 1] < n) (h2 : xs[m] < xs[m + 1]) : riseAt xs n (m + 1) = true := by
  rw [riseAt_in h, show m + 1 - 1 = m from rfl, getD_of_lt (by omega : m < xs.length), decide_eq_true h2]
  unfold inB; rw [decide_eq_true h0, decide_eq_true (by omega)]; simp
end Go.Proofs.YtdpeffaplkbkgaaGreatDoor

namespace Go.Proofs.YtdpeffaplkbkgaaGreatDoor
open Go.RowKit
set_option linter.unusedVariables false
set_option linter.unusedSimpArgs false

theorem groupB_ok {x : DGroup} (h : groupB x = true) : fGroup.ok x := by
  obtain ⟨h1, h2, h3, h4, h5, h6, h7⟩ := groupB_bounds h
  have := nameB_len h1
  exact ⟨by show _ ≤ _; omega, by show _ ∧ _; omega, by show _ ∧ _; omega, by show _ ∧ _; omega, by show _ ∧ _; omega, by show _ ∧ _; omega, by show _ ∧ _; omega⟩
theorem shareS_in {n : Int} {p k : Nat} (h0 : 0 ≤ n) (h1 : n ≤ 30) (hp : 0 < p) (hk : k ≤ p) : 0 ≤ shareS n (p : Int) k ∧ shareS n (p : Int) k ≤ 30 := by
  rw [shareS_eq]
  have h2 : n * (k : Int) ≤ n * (p : Int) := Int.mul_le_mul_of_nonneg_left (by omega) h0
  have h3 : n * (k : Int) / (p : Int) ≤ n * (p : Int) / (p : Int) := Int.ediv_le_ediv (by omega) h2
  rw [Int.mul_ediv_cancel _ (by omega)] at h3
  exact ⟨Int.ediv_nonneg (Int.mul_nonneg h0 (by omega)) (by omega), by omega⟩
theorem lack_len {b p : Int} (s : List UInt8) : (lack b p s).length = if b < p then 1 else 0 := by unfold lack; split <;> rfl
theorem lacks_len (x : DGroup) : (lacksF x).length = (if x.beacons < x.people then 1 else 0) + (if x.shovels < x.people then 1 else 0) + (if x.probes < x.people then 1 else 0) := by
  unfold lacksF; rw [List.length_append, List.length_append, lack_len, lack_len, lack_len]
theorem if_le {p q : Prop} [Decidable p] [Decidable q] (h : p → q) : (if p then 1 else 0 : Nat) ≤ if q then 1 else 0 := by
  by_cases hp : p
  · rw [if_pos hp, if_pos (h hp)]; exact Nat.le_refl _
  · rw [if_neg hp]; exact Nat.zero_le _
theorem lendA_lacks (a b : DGroup) : (lacksF (lendA a b)).length ≤ (lacksF a).length := by
  rw [lacks_len, lacks_len]
  simp only [lendA]
  have h1 := give_a (ha := a.beacons) (pa := a.people) (hb := b.beacons) (pb := b.people)
  have h2 := give_a (ha := a.shovels) (pa := a.people) (hb := b.shovels) (pb := b.people)
  have h3 := give_a (ha := a.probes) (pa := a.people) (hb := b.probes) (pb := b.people)
  exact Nat.add_le_add (Nat.add_le_add (if_le (by omega)) (if_le (by omega))) (if_le (by omega))
theorem lendB_lacks (a b : DGroup) : (lacksF (lendB a b)).length ≤ (lacksF b).length := by
  rw [lacks_len, lacks_len]
  simp only [lendB]
  have h1 := give_nn a.beacons a.people b.beacons b.people
  have h2 := give_nn a.shovels a.people b.shovels b.people
  have h3 := give_nn a.probes a.people b.probes b.people
  exact Nat.add_le_add (Nat.add_le_add (if_le (by omega)) (if_le (by omega))) (if_le (by omega))
theorem lend_lacks {xs : List DGroup} {i j : Nat} (hi : i < xs.length) (hj : j < xs.length) (hne : i ≠ j) (k : Nat) (hk : k < xs.length) (hk2 : k < (lendL xs i j).length) : (lacksF (lendL xs i j)[k]).length ≤ (lacksF xs[k]).length := by
  rw [lend_get hi hj hne k hk]
  split
  · rename_i e; subst e; exact lendB_lacks _ _
  · split
    · rename_i e; subst e; exact lendA_lacks _ _
    · exact Nat.le_refl _
theorem lendC_zero {xs : List DGroup} {i j : Int} (h : lendC xs i j = 0) : groupsB xs = true ∧ (0 ≤ i ∧ i < (xs.length : Int)) ∧ (0 ≤ j ∧ j < (xs.length : Int)) ∧ i ≠ j := by
  unfold lendC at h
  cases h1 : groupsB xs
  · rw [h1] at h; simp at h
  · rw [h1] at h
    cases h2 : inB i 0 ((xs.length : Int) - 1) <;> cases h3 : inB j 0 ((xs.length : Int) - 1) <;> cases h4 : decide (i ≠ j) <;> simp [h2, h3, h4] at h
    have a := inB_true.1 h2
    have b := inB_true.1 h3
    refine ⟨rfl, by omega, by omega, of_decide_eq_true h4⟩
theorem zf_below {w w' : World} {b B : Nat} (h : ∀ j, w.frozen? ⟨b, j, none⟩ = false) (hb : Below B w w') (hB : b < B) : ∀ j, w'.frozen? ⟨b, j, none⟩ = false := fun j => (hb.frozen (p := ⟨b, j, none⟩) hB).trans (h j)
set_option maxRecDepth 100000 in
set_option maxHeartbeats 16000000 in
theorem walkGroups (v0 : Value) (xs0 : List UInt8) (fp0 : List Nat) (v1 : Value) (xs1 : List UInt8) (fp1 : List Nat) (w : World) (hx0 : Sl fByte.cod w v0 xs0 fp0) (hx1 : Sl fByte.cod w v1 xs1 fp1) (hsh : w.ShapedOpen Tryz.prog) (hrd : RdTabs w) :
    Calls Tryz.prog 3 #[v0, v1] w fun e w' => YesR w e w' := by
  obtain ⟨mx, hm⟩ := maxLen_cell hsh
  clear hsh
  go_enter Tryz.func3, Tryz.ntmps3
  go_wp2_with fail
  refine (b10Long_any _ _ _ _ hx0).mono ?_
  rintro e w' ⟨rfl, rfl⟩
  cases hl0 : decide (1048576 < xs0.length)
  case true =>
    go_wp2
    go_ret
    exact ⟨rfl, Below.refl _ _⟩
  clear hl0
  go_wp2_with fail
  refine (b10Long_any _ _ _ _ hx1).mono ?_
  rintro e w' ⟨rfl, rfl⟩
  cases hl1 : decide (1048576 < xs1.length)
  case true =>
    go_wp2
    go_ret
    exact ⟨rfl, Below.refl _ _⟩
  clear hl1
  go_wp2_with fail
  refine (DrawSplitGroup_any _ _ _ _ hx0).mono ?_
  rintro e w1 ⟨x, parts, rfl, hsm, hpt, hb1⟩
  have hokx := hsm.ok
  have hAl : Below w1.heap.size w1 (w1.alloc (.cells #[.string x.id, .int .i64 x.people, .int .i64 x.guides, .int .i64 x.beacons, .int .i64 x.shovels, .int .i64 x.probes, .int .i64 x.skill] 25)) := (Below.refl _ _).alloc (Nat.le_refl _) _
  have hp2 := PGroup.box w1 x 25
  unfold agGroup
  go_wp2_with fail
  refine (implSplitGroup_any x parts _ hokx).mono ?_
  rintro e w2 ⟨vl, rfl, hown, hbN⟩
  replace hp2 := hp2.below' hbN
  replace hown : Own fGroup w2 w1.heap.size 25 vl (splitF x parts) := ownM_ hown (by simp)
  replace hbN : Below w1.heap.size w1 w2 := hAl.trans (hbN.mono (by simp))
  have hB2 := hb1.trans (hbN.mono hb1.size)
  replace hx0 := hx0.below' hB2
  replace hx1 := hx1.below' hB2
  replace hrd := hrd.below hB2
  replace hm := cell_below hB2 hm
  clear hAl hbN hb1 hsm
  generalize w1.heap.size = bx at *
  clear w1
  go_upto_if 51 with fail
  go_cut [7, 8, 9, 10, 11, 12, 13] from 33 (fun _ _ _ _ _ _ _ wx => Below w2.heap.size w2 wx)
  case first =>
    by_cases hC : splitC x parts = 0
    rotate_left
    · have e1 : (splitC x parts == 0) = false := beq_eq_false_iff_ne.2 hC
      generalize splitC x parts = cc at *
      clear hC hown
      go_wp2
      go_meet
      case rel => exact Below.refl _ _
    obtain ⟨hv, hpr, hgd⟩ := splitC_zero hC
    obtain ⟨p, rfl⟩ : ∃ p : Nat, parts = p := ⟨parts.toNat, by omega⟩
    have hF : splitF x (p : Int) = partsF_ x (p : Int) p := by unfold splitF; rw [if_pos hC]; rfl
    rw [hC]
    rw [hF] at hown
    have hlen := partsF_len x (p : Int) p
    have hget : ∀ k (hk : k < (partsF_ x (p : Int) p).length), groupB (partsF_ x (p : Int) p)[k] = true ∧ Hid ((partsF_ x (p : Int) p)[k] = partF x (p : Int) k) := fun k hk => by
      have e := partsF_get x (p : Int) p k hk
      exact ⟨by rw [e]; exact hgd k (by rw [hlen] at hk; omega), e⟩
    have hokL : ∀ y ∈ partsF_ x (p : Int) p, fGroup.ok y := fun y hy => by
      obtain ⟨k, hk, rfl⟩ := List.getElem_of_mem hy
      exact groupB_ok (hget k hk).1
    obtain ⟨hnx, hx1b, hx2b, hx3b, hx4b, hx5b, hx6b⟩ := groupB_bounds hv
    have hS : ∀ (n : Int) (k : Nat), 0 ≤ n → n ≤ 30 → k ≤ p → 0 ≤ shareS n (p : Int) k ∧ shareS n (p : Int) k ≤ 30 := fun n k h0 h1 hk => shareS_in h0 h1 (by omega) hk
    have hSN : ∀ n : Int, Hid (shareS n (p : Int) p = n) := fun n => share_all (by omega)
    clear hC hF hgd hv hokx
    generalize partsF_ x (p : Int) p = L at *
    obtain ⟨fq, hsl, hlo, hnd⟩ := Sl.of_own (n := L.length) rfl hown hokL
    obtain ⟨A, cap, rfl, _, _⟩ := hsl.form
    have hlp1 : L.length ≤ p := by omega
    have hlp2 : p ≤ L.length := by omega
    have e2 : ((L.length : Int) != (p : Int)) = false := by rw [bne_eq_false_iff_eq]; omega
    have hp4 : 2 ≤ p ∧ p ≤ 4 := by omega
    clear hown hlo hnd hokL hlen hnx hpr hpt
    obtain ⟨c0, c1, c2, c3, c4, c5, c6⟩ := id hp2
    have hA2 : Below w2.heap.size w2 (w2.alloc (.cells #[.string x.id, .int .i64 0, .int .i64 0, .int .i64 0, .int .i64 0, .int .i64 0, .int .i64 x.skill] 25)) := (Below.refl _ _).alloc (Nat.le_refl _) _
    have hps := PGroup.box w2 ⟨x.id, 0, 0, 0, 0, 0, x.skill⟩ 25
    have hzs : ∀ q, (w2.alloc (.cells #[.string x.id, .int .i64 0, .int .i64 0, .int .i64 0, .int .i64 0, .int .i64 0, .int .i64 x.skill] 25)).frozen? ⟨w2.heap.size, q, none⟩ = false := fun q => World.frozen?_alloc_at _ _ _ _ rfl
    have hlb := hp2.lt
    go_wp2
    clear c0 c1 c2 c3 c4 c5 c6
    have hsb : w2.heap.size ≤ w2.heap.size := Nat.le_refl _
    generalize hsbe : w2.heap.size = sb at hps hzs hsb ⊢
    have hsl2 : sb ≤ w2.heap.size ∧ w2.heap.size ≤ sb := by omega
    clear hsbe
    go_loopw [10] (fun iv wr => ∃ i : Nat, iv = .int .i64 i ∧ i ≤ p ∧ PGroup wr sb 0 ⟨x.id, shareS x.people (p : Int) i, shareS x.guides (p : Int) i, shareS x.beacons (p : Int) i, shareS x.shovels (p : Int) i, shareS x.probes (p : Int) i, x.skill⟩ ∧ (∀ q, wr.frozen? ⟨sb, q, none⟩ = false) ∧ Below w2.heap.size w2 wr) (fun iv _ => p - (intOf iv).toNat)
    case atStart => exact ⟨0, rfl, Nat.zero_le _, hps, hzs, hA2⟩
    case round =>
      clear hps hzs hA2
      obtain ⟨i, rfl, hi, hps, hzs, hb⟩ := hrel
      rename World => wo
      by_cases hlt : i < p
      · have hltL : i < L.length := by omega
        have hlt9 : (i : Int) < (L.length : Int) := by omega
        obtain ⟨bb, off, rfl, _, _, hpy⟩ := PGroup.elem (hsl.below' hb) hltL
        obtain ⟨hgy, hyL⟩ := hget i hltL
        have hoky := groupB_ok hgy
        have hskY : L[i].skill = x.skill := by rw [hyL.out]; rfl
        have e3 : (L[i].skill != x.skill) = false := by rw [bne_eq_false_iff_eq]; exact hskY
        have H1 := Lib.hid (show shareS x.people (p : Int) (i + 1) = shareS x.people (p : Int) i + L[i].people by rw [hyL.out]; rfl)
        have hs1 := hS x.people i (by omega) (by omega) hi
        generalize shareS x.people (p : Int) i = s1 at *
        have H2 := Lib.hid (show shareS x.guides (p : Int) (i + 1) = shareS x.guides (p : Int) i + L[i].guides by rw [hyL.out]; rfl)
        have hs2 := hS x.guides i (by omega) (by omega) hi
        generalize shareS x.guides (p : Int) i = s2 at *
        have H3 := Lib.hid (show shareS x.beacons (p : Int) (i + 1) = shareS x.beacons (p : Int) i + L[i].beacons by rw [hyL.out]; rfl)
        have hs3 := hS x.beacons i (by omega) (by omega) hi
        generalize shareS x.beacons (p : Int) i = s3 at *
        have H4 := Lib.hid (show shareS x.shovels (p : Int) (i + 1) = shareS x.shovels (p : Int) i + L[i].shovels by rw [hyL.out]; rfl)
        have hs4 := hS x.shovels i (by omega) (by omega) hi
        generalize shareS x.shovels (p : Int) i = s4 at *
        have H5 := Lib.hid (show shareS x.probes (p : Int) (i + 1) = shareS x.probes (p : Int) i + L[i].probes by rw [hyL.out]; rfl)
        have hs5 := hS x.probes i (by omega) (by omega) hi
        generalize shareS x.probes (p : Int) i = s5 at *
        clear hskY hyL
        generalize L[i] = y at *
        obtain ⟨hny, hy1b, hy2b, hy3b, hy4b, hy5b, hy6b⟩ := groupB_bounds hgy
        have hpx := hp2.below' hb
        obtain ⟨c0, c1, c2, c3, c4, c5, c6⟩ := id hpy
        have hpy2 := PGroup.box wo y 25
        have hAy : Below wo.heap.size wo (wo.alloc (.cells #[.string y.id, .int .i64 y.people, .int .i64 y.guides, .int .i64 y.beacons, .int .i64 y.shovels, .int .i64 y.probes, .int .i64 y.skill] 25)) := (Below.refl _ _).alloc (Nat.le_refl _) _
        go_wp2_with fail
        refine (GroupText_any y _ hgy hoky ((hrd.below hb).below hAy).tab).mono ?_
        rintro e w4 ⟨rfl, hbN⟩
        replace hpy2 := hpy2.below' hbN
        have hb4 : Below wo.heap.size wo w4 := hAy.trans (hbN.mono (by simp))
        have hb5 := hb.trans (hb4.mono hb.size)
        clear c0 c1 c2 c3 c4 c5 c6 hAy hbN
        go_wp2_with fail
        refine (ReadGroup_of y _ hgy hoky mx (cell_below hb5 hm) (hrd.below hb5)).mono ?_
        rintro e w6 ⟨rfl, hbN⟩
        replace hpy2 := hpy2.below' hbN
        have hb6 := hb4.trans (hbN.mono hb4.size)
        have hA6 : Below w6.heap.size w6 (w6.alloc (.cells #[.string y.id, .int .i64 y.people, .int .i64 y.guides, .int .i64 y.beacons, .int .i64 y.shovels, .int .i64 y.probes, .int .i64 y.skill] 25)) := (Below.refl _ _).alloc (Nat.le_refl _) _
        have hb7 := hb6.trans (hA6.mono hb6.size)
        have hb9 := hb.trans (hb7.mono hb.size)
        have hps9 := hps.below' hb7
        have hzs9 := zf_below hzs hb7 hps.lt
        have hpx9 := hpx.below' hb7
        have hpy9 := hpy2.below' hA6
        have hpr9 := PGroup.box w6 y 25
        have hsb9 := hps.lt
        have hyb9 : wo.heap.size < w6.heap.size := hpy2.lt
        clear hps hzs hpx hpy2 hbN hA6 hb4 hb5 hb6 hb7 hgy hoky hb
        obtain ⟨a0, a1, a2, a3, a4, a5, a6⟩ := id hps9
        obtain ⟨b0, b1, b2, b3, b4, b5, b6⟩ := id hpx9
        obtain ⟨c0, c1, c2, c3, c4, c5, c6⟩ := id hpy9
        obtain ⟨d0, d1, d2, d3, d4, d5, d6⟩ := id hpr9
        simp only [] at a0 a1 a2 a3 a4 a5 a6
        have z1 := hzs9 1
        have z2 := hzs9 2
        have z3 := hzs9 3
        have z4 := hzs9 4
        have z5 := hzs9 5
        have e4 : (y.id.toList == y.id.toList) = true := beq_self_eq_true _
        unfold agGroup
        go_wp2
        go_roundw
        case rel => exact ⟨i + 1, by go_num, by omega, by rw [H1.out, H2.out, H3.out, H4.out, H5.out]; exact (((((hps9.vset1 (s1 + y.people)).vset2 (s2 + y.guides)).vset3 (s3 + y.beacons)).vset4 (s4 + y.shovels)).vset5 (s5 + y.probes)), (fun q => (frozen?_setCell _ _ _ _).trans ((fun q => (frozen?_setCell _ _ _ _).trans ((fun q => (frozen?_setCell _ _ _ _).trans ((fun q => (frozen?_setCell _ _ _ _).trans ((fun q => (frozen?_setCell _ _ _ _).trans (hzs9 q)) q)) q)) q)) q)), (((((hb9.setCell (p := ⟨sb, 1, none⟩) hsl2.2 _).setCell (p := ⟨sb, 2, none⟩) hsl2.2 _).setCell (p := ⟨sb, 3, none⟩) hsl2.2 _).setCell (p := ⟨sb, 4, none⟩) hsl2.2 _).setCell (p := ⟨sb, 5, none⟩) hsl2.2 _)⟩
        case measure => simp [intOf]; omega
      · obtain rfl : i = p := by omega
        have hq : ¬ (i : Int) < (L.length : Int) := by omega
        rw [(hSN x.people).out, (hSN x.guides).out, (hSN x.beacons).out, (hSN x.shovels).out, (hSN x.probes).out] at hps
        have hpx := hp2.below' hb
        obtain ⟨a0, a1, a2, a3, a4, a5, a6⟩ := id hps
        obtain ⟨b0, b1, b2, b3, b4, b5, b6⟩ := id hpx
        have e4 : (x.id.toList == x.id.toList) = true := beq_self_eq_true _
        go_wp2
        go_meet
        case rel => exact hb
  case rest =>
    have hB3 := hB2.trans (hcut.mono hB2.size)
    replace hx1 := hx1.below' hcut
    replace hx0 := hx0.below' hcut
    clear hcut hB2 hp2 hrd hm hokx hown
    go_wp2_with fail
    refine (DrawLendKit_any _ _ _ _ hx1).mono ?_
    rintro e w4 ⟨vy, ys, fq, i, j, rfl, hys, hyl, hi, hj, hb4⟩
    obtain ⟨A, cap, rfl, _, _⟩ := hys.form
    have hB4 := hB3.trans (hb4.mono hB3.size)
    replace hx0 := hx0.below' hb4
    clear hx1 hB3 hb4 wc
    go_wp2_with fail
    refine (implLendKit_any _ ys fq i j _ hys).mono ?_
    rintro e w5 ⟨vn, rfl, hown, hb5⟩
    have hB5 := hB4.trans (hb5.mono hB4.size)
    replace hys := hys.below' hb5
    replace hx0 := hx0.below' hb5
    clear hB4 hb5
    go_upto_if 143 with fail
    go_cut [17, 18, 19, 20, 21, 22, 23, 24, 25, 26, 27] from 33 (fun _ _ _ _ _ _ _ _ _ _ _ wx => Below w5.heap.size w5 wx)
    case first =>
      by_cases hC : lendC ys i j = 0
      rotate_left
      · have e1 : (lendC ys i j == 0) = false := beq_eq_false_iff_ne.2 hC
        generalize lendC ys i j = cc at *
        clear hC hown
        go_wp2
        go_meet
        case rel => exact Below.refl _ _
      obtain ⟨hv, hi2, hj2, hij⟩ := lendC_zero hC
      obtain ⟨a, rfl⟩ : ∃ a : Nat, i = a := ⟨i.toNat, by omega⟩
      obtain ⟨b, rfl⟩ : ∃ b : Nat, j = b := ⟨j.toNat, by omega⟩
      have ha : a < ys.length := by omega
      have hb : b < ys.length := by omega
      have hab : a ≠ b := fun e => hij (by rw [e])
      have hF : lendV ys a b = lendL ys a b := by unfold lendV; rw [if_pos hC]; rfl
      rw [hC]
      rw [hF] at hown
      have hvn := lend_ok hv ha hb hab
      have hln := lend_len ys a b
      have hkit := kit_lend (xs := ys) ha hb hab
      have hlk : ∀ k (h1 : k < ys.length) (h2 : k < (lendL ys a b).length), (lacksF (lendL ys a b)[k]).length ≤ (lacksF ys[k]).length := fun k h1 h2 => lend_lacks ha hb hab k h1 h2
      have hl8 := groupsB_len hv
      clear hC hF hi2 hj2 hij ha hb hab hi hj
      generalize lendL ys a b = L at *
      obtain ⟨fn, hsl, hlo, hnd⟩ := Sl.of_own (n := L.length) rfl hown (fun y hy => by
        obtain ⟨k, hk, rfl⟩ := List.getElem_of_mem hy
        exact groupB_ok (groupsB_one hvn hk))
      obtain ⟨A2, cap2, rfl, _, _⟩ := hsl.form
      have hlen1 : L.length ≤ ys.length := by omega
      have hlen2 : ys.length ≤ L.length := by omega
      have eV : kitV ys = kitS ys ∧ kitC ys = 0 := by unfold kitV kitC; rw [hv]; exact ⟨rfl, rfl⟩
      have eN : kitV L = kitS L ∧ kitC L = 0 := by unfold kitV kitC; rw [hvn]; exact ⟨rfl, rfl⟩
      rw [hkit] at eN
      clear hkit hln hown hlo hnd
      go_wp2_with fail
      refine (implKitShort_any _ ys fq _ hys).mono ?_
      rintro e w6 ⟨rfl, hb6⟩
      rw [eV.1, eV.2]
      replace hys := hys.below' hb6
      replace hsl := hsl.below' hb6
      clear eV
      go_wp2_with fail
      refine (implKitShort_any _ L fn _ hsl).mono ?_
      rintro e w7 ⟨rfl, hb7⟩
      rw [eN.1, eN.2]
      generalize kitS ys = ks at *
      have hb7' := hb6.trans (hb7.mono hb6.size)
      replace hys := hys.below' hb7
      replace hsl := hsl.below' hb7
      clear eN hb6 hb7
      go_wp2_with fail
      refine (specValidGroups_any _ L fn _ hsl).mono ?_
      rintro e w8 ⟨rfl, hb8⟩
      rw [hvn]
      have hb9 := hb7'.trans (hb8.mono hb7'.size)
      replace hys := hys.below' hb8
      replace hsl := hsl.below' hb8
      clear hb7' hb8
      have e2 : (((L.length : Nat) : Int) != ((ys.length : Nat) : Int)) = false := by rw [bne_eq_false_iff_eq]; omega
      go_wp2
      go_loopw [23] (fun iv wr => ∃ k : Nat, iv = .int .i64 k ∧ k ≤ L.length ∧ Below w8.heap.size w8 wr) (fun iv _ => L.length - (intOf iv).toNat)
      case atStart => exact ⟨0, rfl, Nat.zero_le _, Below.refl _ _⟩
      case round =>
        obtain ⟨k, rfl, hk, hbr⟩ := hrel
        rename World => wo
        by_cases hlt : k < L.length
        · have hlt9 : (k : Int) < (L.length : Int) := by omega
          have hlt8 : (k : Int) < (ys.length : Int) := by omega
          have hltY : k < ys.length := by omega
          have hgx := groupsB_one hv hltY
          have hgy := groupsB_one hvn hlt
          have hll := hlk k hltY hlt
          have hsl9 := hsl.below' hbr
          have hys9 := hys.below' hbr
          obtain ⟨bb, off, rfl, _, _, hpy⟩ := PGroup.elem hsl9 hlt
          obtain ⟨bx, ofx, rfl, _, _, hpx⟩ := PGroup.elem hys9 hltY
          generalize ys[k] = x at *
          generalize L[k] = y at *
          have hokx := groupB_ok hgx
          have hoky := groupB_ok hgy
          have g1 : gpF x = lacksF x ∧ gpC x = 0 := by unfold gpF gpC; rw [hgx]; exact ⟨rfl, rfl⟩
          have g2 : gpF y = lacksF y ∧ gpC y = 0 := by unfold gpF gpC; rw [hgy]; exact ⟨rfl, rfl⟩
          obtain ⟨c0, c1, c2, c3, c4, c5, c6⟩ := id hpx
          go_wp2_with fail
          refine (specGroupProblems_any x _ hokx).mono ?_
          rintro e wa ⟨va, rfl, ⟨fa, hva, _, _⟩, hba⟩
          rw [g1.1] at hva
          rw [g1.2]
          obtain ⟨Aa, ca, rfl, _, _⟩ := hva.form
          have hpy2 := hpy.below' hba
          clear c0 c1 c2 c3 c4 c5 c6 g1 hpx hpy
          obtain ⟨c0, c1, c2, c3, c4, c5, c6⟩ := id hpy2
          go_wp2_with fail
          refine (specGroupProblems_any y _ hoky).mono ?_
          rintro e wb ⟨vb, rfl, ⟨fb, hvb, _, _⟩, hbb⟩
          rw [g2.1] at hvb
          rw [g2.2]
          obtain ⟨Ab, cb, rfl, _, _⟩ := hvb.form
          have hbo := hbr.trans ((hba.trans (hbb.mono hba.size)).mono hbr.size)
          have e5 : ¬ ((lacksF x).length < (lacksF y).length) := by omega
          have e6 : (lacksF y).length ≤ (lacksF x).length := hll
          generalize (lacksF y).length = ny at *
          generalize (lacksF x).length = nx at *
          clear c0 c1 c2 c3 c4 c5 c6 g2 hpy2 hva hvb hba hbb hgx hgy hokx hoky hsl9 hys9
          go_wp2
          go_roundw
          case rel => exact ⟨k + 1, by go_num, by omega, hbo⟩
          case measure => simp [intOf]; omega
        · obtain rfl : k = L.length := by omega
          go_wp2
          go_meet
          case rel => exact hb9.trans (hbr.mono hb9.size)
    case rest =>
      have hB6 := hB5.trans (hcut.mono hB5.size)
      replace hx0 := hx0.below' hcut
      clear hcut hB5 hys hown
      go_wp2_with fail
      refine (DrawJoinGroups_any _ _ _ _ hx0).mono ?_
      rintro e w6 ⟨a, b, t, rfl, hsa, hsb, ht, hbN⟩
      have hB7 := hB6.trans (hbN.mono hB6.size)
      have hA1 : Below w6.heap.size w6 ((w6.alloc (.cells #[.string a.id, .int .i64 a.people, .int .i64 a.guides, .int .i64 a.beacons, .int .i64 a.shovels, .int .i64 a.probes, .int .i64 a.skill] 25)).alloc (.cells #[.string b.id, .int .i64 b.people, .int .i64 b.guides, .int .i64 b.beacons, .int .i64 b.shovels, .int .i64 b.probes, .int .i64 b.skill] 25)) := ((Below.refl _ _).alloc (Nat.le_refl _) _).alloc (by simp) _
      have hpa : PGroup ((w6.alloc (.cells #[.string a.id, .int .i64 a.people, .int .i64 a.guides, .int .i64 a.beacons, .int .i64 a.shovels, .int .i64 a.probes, .int .i64 a.skill] 25)).alloc (.cells #[.string b.id, .int .i64 b.people, .int .i64 b.guides, .int .i64 b.beacons, .int .i64 b.shovels, .int .i64 b.probes, .int .i64 b.skill] 25)) w6.heap.size 0 a := (PGroup.box w6 a 25).below ((Below.refl (w6.heap.size + 1) _).alloc (by simp) _) (Nat.lt_succ_self _)
      have hpb : PGroup ((w6.alloc (.cells #[.string a.id, .int .i64 a.people, .int .i64 a.guides, .int .i64 a.beacons, .int .i64 a.shovels, .int .i64 a.probes, .int .i64 a.skill] 25)).alloc (.cells #[.string b.id, .int .i64 b.people, .int .i64 b.guides, .int .i64 b.beacons, .int .i64 b.shovels, .int .i64 b.probes, .int .i64 b.skill] 25)) (w6.heap.size + 1) 0 b := by
        have h := PGroup.box (w6.alloc (.cells #[.string a.id, .int .i64 a.people, .int .i64 a.guides, .int .i64 a.beacons, .int .i64 a.shovels, .int .i64 a.probes, .int .i64 a.skill] 25)) b 25
        rw [World.size_alloc] at h; exact h
      have hB8 := hB7.trans (hA1.mono hB7.size)
      clear hB6 hB7 hA1 hbN hx0
      unfold agGroup
      go_wp2_with fail
      refine (implJoinGroups_any a b t _ hsa.ok hsb.ok (by omega)).mono ?_
      rintro e w7 ⟨rfl, hb7⟩
      have hB9 := hB8.trans (hb7.mono hB8.size)
      have hpa7 := hpa.below' hb7
      have hpb7 := hpb.below' hb7
      have hpal := hpa7.lt
      have hpbl := hpb7.lt
      clear hpa hpb hB8 hb7
      generalize hA : w6.heap.size = ba at *
      clear hA w6
      by_cases hc : joinC a b t = 0
      rotate_left
      · have e1 : (joinC a b t != 0) = true := by rw [bne_iff_ne]; exact hc
        have hF : joinF a b t = ⟨⟨#[]⟩, 0, 0, 0, 0, 0, 0⟩ := by unfold joinF; rw [if_neg hc]
        have hBA := hB9.alloc hB9.size (.cells #[.string ⟨#[]⟩, .int .i64 0, .int .i64 0, .int .i64 0, .int .i64 0, .int .i64 0, .int .i64 0] 25)
        rw [hF]
        generalize joinC a b t = cc at *
        unfold agGroup
        clear hc hF hpa7 hpb7 hB9
        go_wp2
        go_ret
        exact ⟨rfl, hBA⟩
      have hF : joinF a b t = sumG a b t := by unfold joinF; rw [if_pos hc]
      have hgs := joinC_zero hc
      rw [hc, hF]
      have hoks := groupB_ok hgs
      have hgl : groupsB [sumG a b t] = true := by
        unfold groupsB
        rw [Bool.and_eq_true]
        refine ⟨allIdx_true.2 (fun k hk => ?_), decide_eq_true (show 1 ≤ 8 by decide)⟩
        obtain rfl : k = 0 := by simpa using hk
        rw [gOk_zero (show 0 < [sumG a b t].length from Nat.one_pos)]; exact hgs
      have hAs : Below w7.heap.size w7 (w7.alloc (.cells #[.string t, .int .i64 (a.people + b.people), .int .i64 (a.guides + b.guides), .int .i64 (a.beacons + b.beacons), .int .i64 (a.shovels + b.shovels), .int .i64 (a.probes + b.probes), .int .i64 (min a.skill b.skill)] 25)) := (Below.refl _ _).alloc (Nat.le_refl _) _
      have hps := PGroup.box w7 (sumG a b t) 25
      have hpa8 := hpa7.below' hAs
      have hpb8 := hpb7.below' hAs
      have hBA := hB9.trans (hAs.mono hB9.size)
      have hsl : Sl fGroup.cod ((w7.alloc (.cells #[.string t, .int .i64 (a.people + b.people), .int .i64 (a.guides + b.guides), .int .i64 (a.beacons + b.beacons), .int .i64 (a.shovels + b.shovels), .int .i64 (a.probes + b.probes), .int .i64 (min a.skill b.skill)] 25)).alloc (.cells #[.string t, .int .i64 (a.people + b.people), .int .i64 (a.guides + b.guides), .int .i64 (a.beacons + b.beacons), .int .i64 (a.shovels + b.shovels), .int .i64 (a.probes + b.probes), .int .i64 (min a.skill b.skill)] 25)) (.slice (some ⟨w7.heap.size + 1, 0, none⟩) 1 1) [sumG a b t] [w7.heap.size + 1] := World.size_alloc w7 (.cells #[.string t, .int .i64 (a.people + b.people), .int .i64 (a.guides + b.guides), .int .i64 (a.beacons + b.beacons), .int .i64 (a.shovels + b.shovels), .int .i64 (a.probes + b.probes), .int .i64 (min a.skill b.skill)] 25) ▸ Sl.lit2 (E := fGroup) (w7.alloc (.cells #[.string t, .int .i64 (a.people + b.people), .int .i64 (a.guides + b.guides), .int .i64 (a.beacons + b.beacons), .int .i64 (a.shovels + b.shovels), .int .i64 (a.probes + b.probes), .int .i64 (min a.skill b.skill)] 25)) [sumG a b t] 25 _ rfl (by intro y hy; rw [List.mem_singleton] at hy; subst hy; exact hoks) (by show 0 < 1; decide) (by show 1 ≤ _; decide)
      have hAl2 : Below (w7.alloc (.cells #[.string t, .int .i64 (a.people + b.people), .int .i64 (a.guides + b.guides), .int .i64 (a.beacons + b.beacons), .int .i64 (a.shovels + b.shovels), .int .i64 (a.probes + b.probes), .int .i64 (min a.skill b.skill)] 25)).heap.size (w7.alloc (.cells #[.string t, .int .i64 (a.people + b.people), .int .i64 (a.guides + b.guides), .int .i64 (a.beacons + b.beacons), .int .i64 (a.shovels + b.shovels), .int .i64 (a.probes + b.probes), .int .i64 (min a.skill b.skill)] 25)) ((w7.alloc (.cells #[.string t, .int .i64 (a.people + b.people), .int .i64 (a.guides + b.guides), .int .i64 (a.beacons + b.beacons), .int .i64 (a.shovels + b.shovels), .int .i64 (a.probes + b.probes), .int .i64 (min a.skill b.skill)] 25)).alloc (.cells #[.string t, .int .i64 (a.people + b.people), .int .i64 (a.guides + b.guides), .int .i64 (a.beacons + b.beacons), .int .i64 (a.shovels + b.shovels), .int .i64 (a.probes + b.probes), .int .i64 (min a.skill b.skill)] 25)) := (Below.refl _ _).alloc (Nat.le_refl _) _
      have hBB := hBA.trans (hAl2.mono hBA.size)
      obtain ⟨a0, a1, a2, a3, a4, a5, a6⟩ := id hpa8
      obtain ⟨b0, b1, b2, b3, b4, b5, b6⟩ := id hpb8
      obtain ⟨c0, c1, c2, c3, c4, c5, c6⟩ := id hps
      simp only [sumG] at c0 c1 c2 c3 c4 c5 c6
      have e4 : (t.toList == t.toList) = true := beq_self_eq_true _
      have e5 : min a.skill b.skill ≤ a.skill := Int.min_le_left _ _
      have e6 : min a.skill b.skill ≤ b.skill := Int.min_le_right _ _
      have hpp : -2000000000 ≤ a.people + b.people ∧ a.people + b.people ≤ 2000000000 := by unfold SmGroup at hsa hsb; omega
      clear hc hF hgs hoks hAs hAl2 hpa7 hpb7 hpa8 hpb8 hps hB9 hBA hsa hsb ht
      unfold agGroup sumG
      go_wp2_with fail
      refine (specValidGroups_any _ _ _ _ hsl).mono ?_
      rintro e w9 ⟨rfl, hb9⟩
      rw [hgl]
      go_wp2
      go_ret
      exact ⟨rfl, hBB.trans (hb9.mono hBB.size)⟩

end Go.Proofs.YtdpeffaplkbkgaaGreatDoor

namespace Go.Proofs.YtdpeffaplkbkgaaGreatDoor
open Go.RowKit Go.WideShapes Go.ChangeShapes Go.ChangeAt

set_option maxRecDepth 100000 in
theorem law_liftedL {F : FuncId} {fn : Func} {s : ChangeSpec} (laid : List (String × DataW Unit)) (os : Os) (started : os.Started) (H : Type) (enc : TypeId × Value → H)
    (hfn : Tryz.checked.prog.funcs[F]? = some fn) (noInit : Tryz.checked.prog.inits.idxOf? F = none)
    (witness : ∃ (w : World) (tape : Tape) (i : Input), w.os = os ∧ (w.forCall tape i).Shaped Tryz.checked.prog ∧ i.vars = [] ∧ Input.okWide Tryz.checked.prog (w.forCall tape i) .any w.heap.size F i ∧
      ((s.pre enc Tryz.checked.prog fn [] false (w.forCall tape i).memory i.args ∧ laidMetH Tryz.checked.prog laid (w.forCall tape i).memory) ∧ sizedMet enc Tryz.checked.prog fn (OpenSpec.ofChange s) false (w.forCall tape i).memory i.args) ∧ ({} : Assume).holds Tryz.checked.prog (lone (Frame.enter Tryz.checked.prog F i.args .normal) [] (w.forCall tape i)))
    (hs : s.vars = []) (hres : fn.resultTypes = #[4]) (hread : ∀ t ∈ fn.params.toList, Tryz.prog.readableRec t = true ∧ t < Tryz.prog.types.size)
    (hspec : ∀ ds : List (DataW H), ds.length = fn.params.toList.length → s.fn H ds = { results := [.lit (.bool true)], args := ds })
    (walk : ∀ (W : World) (args : Array Value) (ds : List (DataW H)) (p : List MemPlace), W.ShapedOpen Tryz.prog → laidMetH Tryz.prog laid W → (∀ (j : Nat) t v, fn.params[j]? = some t → args[j]? = some v → ∃ base, Value.okWide Tryz.prog W .any base t v) →
      DataW.TrodAll enc Tryz.prog W 0 (fun _ => true) true fn.params.toList args.toList ds p → W.noneFrozen p → Calls Tryz.prog F args W fun e W' => e = .returned (.bool true) ∧ Below W.heap.size W W') :
    ReturnsInHanded {} Tryz.checked os F .any (fun w args => (s.pre enc Tryz.checked.prog fn [] false w args ∧ laidMetH Tryz.checked.prog laid w) ∧ sizedMet enc Tryz.checked.prog fn (OpenSpec.ofChange s) false w args) (s.post enc Tryz.checked.prog fn false true false false) := by
  refine returnsInHanded_of_calls (C := Tryz.checked) Tryz.own started noInit witness ?_
  intro w tape i _ hsh _ hok hpre hholds
  obtain ⟨_, _, _, fn', hfn', _, _, _, _, hval⟩ := hok
  have e : fn' = fn := Option.some.inj (hfn'.symm.trans hfn)
  subst e
  obtain ⟨⟨⟨ds, gs, before, hw, hc⟩, hx⟩, hz⟩ := hpre
  have hW := DataW.Whole.of_heap (w' := w.forCall tape i) (by rfl) hw
  have hX : laidMetH Tryz.prog laid (w.forCall tape i) := laidMetH.of_heap (by rfl) hx
  generalize w.forCall tape i = W at *
  have hW' := hW
  obtain ⟨p, q, hA, hV, hpq, hfz, hnd⟩ := hW
  rw [hs] at hV
  obtain ⟨rfl, rfl⟩ := trodVars_none hV
  rw [List.append_nil] at hpq
  subst hpq
  refine (walk W i.args ds _ hsh hX (fun j t v h1 h2 => ⟨w.heap.size, hval j t v h1 h2⟩) hA hfz).mono fun e W' ⟨he, hb⟩ => ?_
  subst he
  have hsp : s.fn H (ds ++ []) = { results := [.lit (.bool true)], args := ds } := by
    rw [List.append_nil]; exact hspec ds (trodAll_len _ _ _ _ hA)
  have hlt := fun x hx => hW'.lt x hx
  refine ChangeSpec.post_blind (W := W) ?_
  refine post_of_below (pa := before) (pv := []) hW' (fun b sp hd => ?_) (fun sp h => ?_) (fun sp h => ?_) (by simp) hb ?_
  · rw [hsp, hres]; exact trodAll_mk1 (shut_bool Tryz.underlying4 _)
  · rw [hsp]; exact trodAll_below Tryz.laidOut hb _ _ _ _ hread hA hlt h
  · rw [hsp, hs]; rfl
  · rw [hres]; exact fun j t r h1 h2 => ok_one (f := fn') hres rfl (okWide_bool_mk Tryz.underlying4 _) j t r (by rw [hres]; exact h1) (by rw [hres]; exact h2)
end Go.Proofs.YtdpeffaplkbkgaaGreatDoor

namespace Go.Proofs.YtdpeffaplkbkgaaGreatDoor
noncomputable def doorWorld (os : Os) : World := (World.doorLaid Tryz.prog 72 os).setRow 4 (Go.Pinned.utf8FirstZ.map (fun z : Nat => Value.int .u8 (z : Int))).toArray
end Go.Proofs.YtdpeffaplkbkgaaGreatDoor

namespace Go.Proofs.YtdpeffaplkbkgaaGreatDoor
open Go.RowKit Go.WideShapes Go.ChangeShapes Go.ChangeAt Go.Deep

/-- Whatever the form's reader reads at type t reads by E. -/
def Opens {α : Type} (t : TypeId) (E : Cod α) : Prop :=
  ∀ {H : Type} {enc : TypeId × Value → H} {w : World} {n : Nat} {cs : List Value} {x : DataW H × List MemPlace},
    DataW.trod enc Tryz.prog w 0 (fun _ => true) true n t cs = some x → w.noneFrozen x.2 → ∃ y fp, E.rd w cs y fp

theorem opens_int {t : TypeId} (ht : Tryz.prog.underlying t = some (.int .i64)) : Opens t fInt.cod := by
  intro H enc w n cs x h _
  obtain ⟨k, rfl, rfl, wk⟩ := DataW.trod_int ht h
  refine ⟨k, [], rfl, ?_, rfl⟩
  exact bounds_i64 wk
theorem opens_str {t : TypeId} (ht : Tryz.prog.underlying t = some .string) : Opens t fStr.cod := by
  intro H enc w n cs x h _
  obtain ⟨s, rfl, rfl, hs⟩ := DataW.trod_string ht h
  exact ⟨s, [], rfl, by unfold maxLen at hs; exact hs, rfl⟩
theorem opens_bool {t : TypeId} (ht : Tryz.prog.underlying t = some .bool) : Opens t fBool.cod := by
  intro H enc w n cs x h _
  obtain ⟨s, rfl, rfl⟩ := DataW.trod_bool ht h
  exact ⟨s, [], rfl, trivial, rfl⟩

theorem add_none (b off x y : Nat) : ((⟨b, off, none⟩ : Addr).add x).add y = ⟨b, off + x + y, none⟩ := by
  unfold Addr.add
  by_cases hx : x = 0 <;> by_cases hy : y = 0 <;> simp [hx, hy]

theorem opens_slice {α : Type} {E : Cod α} {t e : TypeId} (ht : Tryz.prog.underlying t = some (.slice e)) (hn : Tryz.prog.cellsOf e = E.n) (he : Opens e E) : Opens t E.slice := by
  intro H enc w n cs x h hfz
  rcases open_slice ht h with ⟨rfl, rfl⟩ | ⟨a, len, cap, m, n', D, Pl, rfl, hb, hl, hm, hmm, hx, hi⟩
  · exact ⟨[], [], _, rfl, none, 0, rfl, by simp, by simp [maxLen], .inl ⟨rfl, rfl⟩⟩
  · simp only [if_true] at hmm
    subst hmm
    rcases Nat.eq_zero_or_pos len with h0 | h0
    · subst h0
      exact ⟨[], [], _, rfl, some a, m, rfl, by simp, hm, .inl ⟨rfl, rfl⟩⟩
    · rw [hn] at hi
      have hspot : a = ⟨a.block, a.off, none⟩ := by
        obtain ⟨cs', hc, _⟩ := hi 0 (by omega)
        obtain ⟨_, hcl, hat⟩ := World.cells?_some hc
        have h1 := hat 0 E.pos
        have hps := E.pos
        rw [List.getElem?_eq_getElem (by omega)] at h1
        have h2 : w.cell? a = some cs'[0] := by simpa [Addr.add] using h1
        have := World.cell?_spot h2
        cases a; simp_all
      have hel : ∀ i : Fin len, ∃ p : α × List Nat × List Value, (∀ j, j < E.n → w.cell? ⟨a.block, a.off + i.1 * E.n + j, none⟩ = p.2.2[j]?) ∧ (∀ j, j < E.n → w.frozen? ⟨a.block, a.off + i.1 * E.n + j, none⟩ = false) ∧ E.rd w p.2.2 p.1 p.2.1 := by
        intro ⟨i, hil⟩
        obtain ⟨cs', hc, htr⟩ := hi i (by omega)
        obtain ⟨_, hcl, hat⟩ := World.cells?_some hc
        have hsub : ∀ pl ∈ Pl i, pl ∈ x.2 := by
          intro pl hpl
          rw [hx]
          exact List.mem_append_right _ (List.mem_flatMap.2 ⟨i, by simp; omega, hpl⟩)
        obtain ⟨y, fp, hy⟩ := he htr (fun b off hmem => hfz b off (hsub _ hmem))
        refine ⟨⟨y, fp, cs'⟩, fun j hj => ?_, fun j hj => ?_, hy⟩
        · have := hat j hj
          rw [hspot, add_none] at this
          exact this
        · refine hfz _ _ ?_
          rw [hx]
          refine List.mem_append_left _ ?_
          unfold MemPlace.row
          refine List.mem_map.2 ⟨i * E.n + j, ?_, by rw [Nat.add_assoc]⟩
          rw [List.mem_range, hn]
          have : (i + 1) * E.n ≤ m * E.n := Nat.mul_le_mul_right _ (by omega)
          rw [Nat.succ_mul] at this
          omega
      obtain ⟨f, hf⟩ := Classical.axiomOfChoice hel
      have hblk : a.block < w.heap.size := by
        obtain ⟨h1, _, h3⟩ := hf ⟨0, h0⟩
        have h1 := h1 0 E.pos
        have h4 := E.len h3
        have hps := E.pos
        rw [List.getElem?_eq_getElem (by omega)] at h1
        exact block_lt_of_cell (a := ⟨a.block, _, none⟩) h1
      refine ⟨List.ofFn fun i => (f i).1, a.block :: (List.range len).flatMap fun i => if h : i < len then (f ⟨i, h⟩).2.1 else [], _, rfl, some a, m, by simp, by simpa using hl, hm,
        .inr ⟨a.block, a.off, _, by rw [← hspot], hblk, by rw [List.length_ofFn], fun i hil => ?_⟩⟩
      rw [List.length_ofFn] at hil
      obtain ⟨h1, h2, h3⟩ := hf ⟨i, hil⟩
      refine ⟨(f ⟨i, hil⟩).2.2, h1, h2, ?_⟩
      simpa [hil] using h3

/-- A struct of fields of one cell each. -/
theorem opens_fields {t : TypeId} {fs : Array Field} (ht : Tryz.prog.underlying t = some (.struct fs)) (hone : oneCellFields Tryz.prog fs = true) (hC : Tryz.prog.cellsOf t = fs.size)
    {H : Type} {enc : TypeId × Value → H} {w : World} {n : Nat} {cs : List Value} {x : DataW H × List MemPlace} (h : DataW.trod enc Tryz.prog w 0 (fun _ => true) true n t cs = some x) (hfz : w.noneFrozen x.2) :
    cs.length = fs.size ∧ ∀ (j : Nat) (f : Field), fs[j]? = some f → ∃ (v : Value) (m : Nat) (y : DataW H × List MemPlace), cs[j]? = some v ∧ DataW.trod enc Tryz.prog w 0 (fun _ => true) true m f.type [v] = some y ∧ w.noneFrozen y.2 := by
  obtain ⟨xs, n', rfl, hx, hl, hxl, hf⟩ := DataW.trod_struct ht h
  refine ⟨hl.trans hC, fun j f hj => ?_⟩
  have hjl : j < fs.size := (Array.getElem?_eq_some_iff.1 hj).1
  obtain ⟨ho, hk⟩ := hone_of hone j f hj
  have h1 := hf j f hj
  rw [ho, hk] at h1
  have hcl : j < cs.length := by rw [hl, hC]; exact hjl
  have e1 : (cs.drop j).take 1 = [cs[j]] := by
    rw [List.drop_eq_getElem_cons hcl]; rfl
  rw [e1, List.getElem?_eq_getElem (by omega)] at h1
  refine ⟨cs[j], n', xs[j], List.getElem?_eq_getElem hcl, h1, fun b off hm => hfz b off ?_⟩
  rw [hx]
  exact List.mem_flatMap.2 ⟨xs[j], List.getElem_mem _, hm⟩

/-- An argument that came in: its value reads. -/
theorem Opens.arg {α : Type} {t : TypeId} {E : Cod α} (ho : Opens t E) {H : Type} {enc : TypeId × Value → H} {w : World} {v : Value} {d : DataW H} {ps : List MemPlace}
    (h : DataW.Trod enc Tryz.prog w 0 (fun _ => true) true t v d ps) (hfz : w.noneFrozen ps) : ∃ y fp, E.rd w v.cells.toList y fp := by
  obtain ⟨n, hn⟩ := h
  exact ho hn hfz
theorem Opens.sl {α : Type} {t : TypeId} {E : Cod α} (ho : Opens t E.slice) {H : Type} {enc : TypeId × Value → H} {w : World} {v : Value} {d : DataW H} {ps : List MemPlace}
    (h : DataW.Trod enc Tryz.prog w 0 (fun _ => true) true t v d ps) (hfz : w.noneFrozen ps) {A : Option Addr} {len cap : Nat} (hv : v = .slice A len cap) : ∃ y fp, Sl E w v y fp := by
  obtain ⟨y, fp, u, hu, hs⟩ := ho.arg h hfz
  subst hv
  simp [Value.cells] at hu
  subst hu
  exact ⟨y, fp, hs⟩

end Go.Proofs.YtdpeffaplkbkgaaGreatDoor

namespace Go.Proofs.YtdpeffaplkbkgaaGreatDoor
open Go.RowKit Go.WideShapes Go.ChangeShapes Go.ChangeAt Go.Deep

set_option maxRecDepth 100000 in
set_option maxHeartbeats 400000 in
theorem opens_byte {t : TypeId} (ht : Tryz.prog.underlying t = some (.int .u8)) : Opens t fByte.cod := by
  intro H enc w n cs x h _
  obtain ⟨k, rfl, rfl, wk⟩ := DataW.trod_int ht h
  have hk : 0 ≤ k ∧ k ≤ 255 := by
    have h1 : IntKind.u8.min = 0 := by decide
    have h2 : IntKind.u8.max = 255 := by decide
    have := wk
    simp [Lit.wf, h1, h2] at this
    omega
  refine ⟨UInt8.ofNat k.toNat, [], ?_, trivial, rfl⟩
  show _ = [Value.int .u8 _]
  rw [UInt8.toNat_ofNat']
  congr 2
  omega
end Go.Proofs.YtdpeffaplkbkgaaGreatDoor
