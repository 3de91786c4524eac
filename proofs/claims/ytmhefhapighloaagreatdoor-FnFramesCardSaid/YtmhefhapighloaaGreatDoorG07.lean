/- Parts of the proof: Rl, Rg, Gb, Bg, Fg, Dg, Lb, Re. -/
import Derived.Test.YtmhefhapighloaaGreatDoorG05
import Derived.Test.YtmhefhapighloaaGreatDoorG06
import Derived.Test.YtmhefhapighloaaGreatDoorG03
import Derived.Test.YtmhefhapighloaaGreatDoorG01
namespace Go.Proofs.YtmhefhapighloaaGreatDoor
open Go.RowKit
set_option linter.unusedVariables false

/-- Pieces without the byte, joined, are divided again. -/
theorem splL_app (c : UInt8) : ∀ (x l : List UInt8), (∀ b ∈ x, b ≠ c) → splL c (x ++ c :: l) = x :: splL c l
  | [], l, _ => by show (if c = c then [] :: splL c l else _) = _; rw [if_pos rfl]
  | b :: x, l, h => by
    have ih := splL_app c x l (fun y hy => h y (by simp [hy]))
    show (if b = c then [] :: splL c (x ++ c :: l) else match splL c (x ++ c :: l) with | [] => [[b]] | q :: r => (b :: q) :: r) = _
    rw [if_neg (h b (by simp)), ih]
theorem spl_joinX : ∀ (L : List (List UInt8)), L ≠ [] → (∀ x ∈ L, ∀ b ∈ x, b ≠ 44) → splL 44 (joinX L) = L
  | [], h, _ => absurd rfl h
  | [x], _, h => by rw [joinX_one]; exact splL_none (h x (by simp))
  | x :: y :: r, _, h => by
    have e : joinX (x :: y :: r) = x ++ 44 :: joinX (y :: r) := by simp [joinX]
    rw [e, splL_app 44 x _ (h x (by simp)), spl_joinX (y :: r) (by simp) (fun z hz => h z (by simp [hz]))]
theorem joinX_cat (P : List (List UInt8)) (q : List UInt8) : joinX (P ++ [q]) = (P.flatMap fun p => p ++ [44]) ++ q := by
  induction P with
  | nil => simp [joinX]
  | cons a P ih =>
    cases P with
    | nil => simp [joinX]
    | cons b P =>
      have e : joinX (a :: b :: P ++ [q]) = a ++ 44 :: joinX (b :: P ++ [q]) := by simp [joinX]
      rw [e, ih]; simp
theorem joinX_spl (l : List UInt8) : joinX (splL 44 l) = l := by
  obtain ⟨P, q, h⟩ : ∃ P q, splL 44 l = P ++ [q] := ⟨_, _, (List.dropLast_concat_getLast (splL_ne 44 l)).symm⟩
  rw [h, joinX_cat, splL_join 44 l P q h]
open Go.Lib in
theorem splitK_more (c : UInt8) : ∀ (l : List UInt8) (k : Nat), (splL c l).length ≤ k + 1 → splitK [c] 0 k l = splL c l
  | [], k, _ => by
    have h : index ([] : List UInt8) [c] = -1 := rfl
    cases k with
    | zero => rfl
    | succ k => rw [splitK, h]; rfl
  | b :: l, k, hk => by
    have hi := index_one c b l
    unfold splL at hk ⊢
    by_cases e : b = c
    · rw [if_pos e] at hi hk ⊢
      obtain ⟨j, rfl⟩ : ∃ j, k = j + 1 := ⟨k - 1, by have := splL_ne c l; have h2 : 0 < (splL c l).length := List.length_pos_iff.2 this; rw [List.length_cons] at hk; omega⟩
      rw [splitK, hi]
      have ih := splitK_more c l j (by rw [List.length_cons] at hk; omega)
      simp [ih]
    · rw [if_neg e] at hi hk ⊢
      have hk2 : (splL c l).length ≤ k + 1 := by
        cases hs : splL c l with
        | nil => simp
        | cons q r => rw [hs] at hk; simpa using hk
      have ih := splitK_more c l k hk2
      cases k with
      | zero =>
        have ih' : [l] = splL c l := ih
        rw [← ih']; rfl
      | succ k =>
        rcases index_spec l [c] with ⟨h1, _⟩ | ⟨i, h1, _⟩
        · rw [h1] at hi
          have hm : index (b :: l) [c] = -1 := hi
          rw [splitK, h1] at ih
          have ih' : [l] = splL c l := ih
          rw [splitK, hm, ← ih']; rfl
        · have hm : index (b :: l) [c] = ((i + 1 : Nat) : Int) := by
            rw [hi, h1, if_neg (by rw [beq_iff_eq]; omega)]; omega
          rw [splitK, h1, if_neg (by rw [beq_iff_eq]; omega)] at ih
          rw [splitK, hm, if_neg (by rw [beq_iff_eq]; omega), ← ih]
          simp
def inR (n : Int) : Bool := inB n (-1000000000000) 1000000000000
def pieceB (p : ByteArray) : Bool := numOk p && inR (numV p)
def minusS : ByteArray := ⟨#[45]⟩
/-- The list that a text is of. -/
def rlF (s : ByteArray) : Option (List Int) := if s = minusS then some [] else if decide ((splS 44 s).length ≤ 64) && (splS 44 s).all pieceB then some ((splS 44 s).map numV) else none
theorem num_parts {p : ByteArray} (h : numOk p = true) : Lib.itoa (numV p) = p.data.toList ∧ numL p.data.toList = some (numV p) := by
  unfold numOk at h
  cases hn : numL p.data.toList with
  | none => rw [hn] at h; cases h
  | some v =>
    have hv := (num_some hn).2
    rw [hv]
    exact ⟨(numL_back hn).1, rfl⟩
theorem itoa_bytes (v : Int) : ∀ b ∈ Lib.itoa v, b ≠ 44 ∧ b ≠ 32 := by
  have hd : ∀ u, ∀ b ∈ dig u, b ≠ 44 ∧ b ≠ 32 := fun u b hb => by
    have := List.all_eq_true.1 (dig_all u) b hb
    unfold digB at this
    simp only [Bool.and_eq_true, decide_eq_true_eq] at this
    constructor <;> (intro e; subst e; revert this; decide)
  intro b hb
  by_cases h0 : v = 0
  · subst h0; rw [itoa_zeroL] at hb; simp at hb; subst hb; decide
  · rw [itoa_ne h0, List.mem_append] at hb
    rcases hb with hb | hb
    · split at hb
      · simp at hb; subst hb; decide
      · cases hb
    · exact hd _ b hb
theorem listS_data {xs : List Int} (h : xs ≠ []) : (listS xs).data.toList = joinX (xs.map Lib.itoa) := by unfold listS; rw [if_neg h]
theorem splS_list {xs : List Int} (h : xs ≠ []) : splS 44 (listS xs) = xs.map decS := by
  refine (splS_of ?_).symm
  rw [listS_data h, spl_joinX _ (by simpa using h) (fun x hx b hb => by
    obtain ⟨v, _, rfl⟩ := List.mem_map.1 hx
    exact (itoa_bytes v b hb).1), List.map_map]
  congr 1
theorem numOk_dec {v : Int} (h : inR v = true) : numOk (decS v) = true ∧ numV (decS v) = v := by
  have hb : v.natAbs < 10 ^ 18 := by
    unfold inR inB at h
    simp only [Bool.and_eq_true, decide_eq_true_eq] at h
    have : (10 : Nat) ^ 18 = 1000000000000000000 := by decide
    omega
  exact num_some (by rw [show (decS v).data.toList = Lib.itoa v from by unfold decS; simp]; exact numL_itoa v hb)
/-- A text that is a list's text is read as that list. -/
theorem rlF_list {xs : List Int} (h : fitsL xs = true) : rlF (listS xs) = some xs := by
  unfold fitsL at h
  simp only [Bool.and_eq_true, decide_eq_true_eq] at h
  unfold rlF
  by_cases hn : xs = []
  · subst hn; rfl
  · have hm : ¬ listS xs = minusS := by
      intro e
      have hs := splS_list hn
      rw [e, show splS 44 minusS = [minusS] from rfl] at hs
      cases xs with
      | nil => exact hn rfl
      | cons x r =>
        rw [List.map_cons] at hs
        injection hs with h1 _
        have h2 := congrArg (fun s : ByteArray => s.data.toList) h1
        have h3 : ([45] : List UInt8) = Lib.itoa x := by simpa [decS, minusS] using h2
        by_cases h0 : x = 0
        · subst h0; rw [itoa_zeroL] at h3; cases h3
        · have h4 := dig_first x.natAbs (by omega)
          obtain ⟨c, r', h5⟩ := h4
          have h6 := List.all_eq_true.1 (dig_all x.natAbs) c (by rw [h5]; simp)
          rw [itoa_ne h0, h5] at h3
          split at h3
          · simp at h3
          · simp at h3; rw [← h3.1] at h6; revert h6; decide
    rw [if_neg hm, splS_list hn, List.length_map, decide_eq_true h.1, List.map_map]
    have ha : (xs.map decS).all pieceB = true := by
      rw [List.all_eq_true]
      intro y hy
      obtain ⟨v, hv, rfl⟩ := List.mem_map.1 hy
      have hr : inR v = true := List.all_eq_true.1 h.2 v hv
      obtain ⟨h1, h2⟩ := numOk_dec hr
      unfold pieceB; rw [h1, h2, hr]; rfl
    rw [ha, if_pos (by rfl)]
    congr 1
    have : (xs.map (numV ∘ decS)) = xs.map id := List.map_congr_left (fun v hv => (numOk_dec (List.all_eq_true.1 h.2 v hv)).2)
    rw [this, List.map_id]
/-- What is read spells the text. -/
theorem rlF_text {s : ByteArray} {xs : List Int} (h : rlF s = some xs) : fitsL xs = true ∧ listS xs = s := by
  unfold rlF at h
  split at h
  · rename_i hm
    injection h with h
    subst h
    exact ⟨rfl, by rw [hm]; rfl⟩
  · split at h
    · rename_i hc
      simp only [Bool.and_eq_true, decide_eq_true_eq] at hc
      injection h with h
      have hall := List.all_eq_true.1 hc.2
      subst h
      constructor
      · unfold fitsL
        rw [List.length_map, decide_eq_true hc.1, Bool.true_and, List.all_eq_true]
        intro y hy
        obtain ⟨p, hp, rfl⟩ := List.mem_map.1 hy
        have := hall p hp
        unfold pieceB at this
        simp only [Bool.and_eq_true] at this
        exact this.2
      · have hne : (splS 44 s).map numV ≠ [] := by
          have := splS_data 44 s
          intro e
          have h2 : splS 44 s = [] := by simpa using e
          rw [h2] at this
          exact splL_ne 44 _ this.symm
        refine data_inj ?_
        rw [listS_data hne, List.map_map]
        have : (splS 44 s).map (Lib.itoa ∘ numV) = (splS 44 s).map (fun x : ByteArray => x.data.toList) := List.map_congr_left (fun p hp => by
          have := hall p hp
          unfold pieceB at this
          simp only [Bool.and_eq_true] at this
          exact (num_parts this.1).1)
        rw [this, splS_data, joinX_spl]
    · cases h
theorem splS_len (c : UInt8) (s : ByteArray) : (splS c s).length ≤ s.size + 1 := by
  have hl : ∀ l : List UInt8, (splL c l).length ≤ l.length + 1 := by
    intro l
    induction l with
    | nil => simp [splL]
    | cons b l ih =>
      unfold splL
      split
      · rw [List.length_cons, List.length_cons]; omega
      · cases hs : splL c l with
        | nil => simp
        | cons q r => rw [hs] at ih; rw [List.length_cons] at ih ⊢; rw [List.length_cons]; omega
  unfold splS; rw [List.length_map]
  have := hl s.data.toList
  rwa [dataL_len] at this
/-- The pieces that SplitN(s, ",", 65) gives. -/
def cutN (s : ByteArray) : List ByteArray := Lib.splitB ⟨#[44]⟩ 0 (min 65 (s.size + 1) - 1) s
theorem cutN_data (s : ByteArray) : (cutN s).map (fun x : ByteArray => x.data.toList) = Lib.splitK [44] 0 (min 65 (s.size + 1) - 1) s.data.toList := Lib.splitB_data ⟨#[44]⟩ 0 _ s
theorem cutN_few {s : ByteArray} (h : (splS 44 s).length ≤ 64) : cutN s = splS 44 s := by
  refine splS_of ?_
  have h2 := splS_len 44 s
  have h3 : (splL 44 s.data.toList).length = (splS 44 s).length := by unfold splS; rw [List.length_map]
  rw [cutN_data]
  exact splitK_more 44 s.data.toList _ (by omega)
theorem splitB_len (sep : ByteArray) : ∀ (k : Nat) (s : ByteArray), (Lib.splitB sep 0 k s).length ≤ k + 1 ∧ ∀ x ∈ Lib.splitB sep 0 k s, x.size ≤ s.size
  | 0, s => ⟨by rw [Lib.splitB_zero]; simp, by intro x hx; rw [Lib.splitB_zero, List.mem_singleton] at hx; subst hx; omega⟩
  | k + 1, s => by
    unfold Lib.splitB
    split
    · exact ⟨by simp, by intro x hx; rw [List.mem_singleton] at hx; subst hx; omega⟩
    · obtain ⟨h1, h2⟩ := splitB_len sep k (s.extract ((Lib.indexB s sep).toNat + sep.size) s.size)
      refine ⟨by rw [List.length_cons]; omega, ?_⟩
      intro x hx
      rcases List.mem_cons.1 hx with rfl | hx
      · rw [ByteArray.size_extract]; omega
      · have := h2 x hx
        rw [ByteArray.size_extract] at this
        omega
theorem cutN_len (s : ByteArray) : (cutN s).length ≤ 65 := by have := (splitB_len ⟨#[44]⟩ (min 65 (s.size + 1) - 1) s).1; unfold cutN; omega
theorem cutN_size (s : ByteArray) : ∀ x ∈ cutN s, x.size ≤ s.size := (splitB_len ⟨#[44]⟩ _ s).2
theorem cutN_empty : cutN ⟨#[]⟩ = [⟨#[]⟩] := rfl
theorem rlF_bad {s : ByteArray} {k : Nat} (hm : ¬ s = minusS) (hk : k < (cutN s).length) (h : numOk (cutN s)[k] = false) : rlF s = none := by
  unfold rlF; rw [if_neg hm]
  split
  · rename_i hc
    simp only [Bool.and_eq_true, decide_eq_true_eq] at hc
    have e := cutN_few hc.1
    have := List.all_eq_true.1 hc.2 (cutN s)[k] (by rw [← e]; exact List.getElem_mem hk)
    unfold pieceB at this
    rw [h] at this; cases this
  · rfl
theorem rlF_end {s : ByteArray} (hm : ¬ s = minusS) (hall : ∀ x ∈ cutN s, numOk x = true) : (listT ((cutN s).map numV) = s → rlF s = some ((cutN s).map numV)) ∧ (¬ listT ((cutN s).map numV) = s → rlF s = none) := by
  constructor
  · intro h
    unfold listT at h
    split at h
    · rename_i hf
      have := rlF_list hf
      rw [h] at this
      exact this
    · subst h
      have := hall ⟨#[]⟩ (by rw [cutN_empty]; simp)
      exact absurd this (by decide)
  · intro h
    cases hr : rlF s with
    | none => rfl
    | some xs =>
      obtain ⟨h1, h2⟩ := rlF_text hr
      have hlen : (splS 44 s).length ≤ 64 ∧ xs = (splS 44 s).map numV := by
        unfold rlF at hr
        rw [if_neg hm] at hr
        split at hr
        · rename_i hc
          simp only [Bool.and_eq_true, decide_eq_true_eq] at hc
          injection hr with hr
          exact ⟨hc.1, hr.symm⟩
        · cases hr
      refine absurd ?_ h
      rw [cutN_few hlen.1, ← hlen.2]
      unfold listT; rw [if_pos h1, h2]
def RlR (w : World) (s : ByteArray) (e : Ending) (w' : World) : Prop := ∃ v, e = .returned (.tuple #[v, .bool (rlF s).isSome]) ∧ New fInt.cod w v ((rlF s).getD []) w'
theorem RlR.none_ {w w' : World} {s : ByteArray} (h : rlF s = none) (hb : Below w.heap.size w w') : RlR w s (.returned (.tuple #[.slice none 0 0, .bool false])) w' := ⟨_, by rw [h]; rfl, by rw [h]; exact New.nil hb⟩
theorem RlR.some_ {w w' : World} {s : ByteArray} {v : Value} {xs : List Int} (h : rlF s = some xs) (hn : New fInt.cod w v xs w') : RlR w s (.returned (.tuple #[v, .bool true])) w' := ⟨_, by rw [h]; rfl, by rw [h]; exact hn⟩
theorem infoIntR : (Tryz.prog.info? 2).map (fun i => (i.zero, i.size, i.bytes)) = some (some (.int .i64 0), 1, 8) := by kernel_rfl
theorem numV_ok (p : ByteArray) : fInt.ok (numV p) := by
  unfold numV
  cases h : numL p.data.toList with
  | none => show _ ∧ _; simp
  | some v =>
    have := (numL_back h).2.1
    have e : (10 : Nat) ^ 18 = 1000000000000000000 := by decide
    show _ ∧ _
    simp only [Option.getD_some]
    omega
theorem numVs_ok (L : List ByteArray) : ∀ x ∈ L.map numV, fInt.ok x := by
  intro x hx; obtain ⟨p, _, rfl⟩ := List.mem_map.1 hx; exact numV_ok p
theorem spl_sizeR (c : UInt8) (s : ByteArray) : ∀ x ∈ splS c s, x.size ≤ s.size := by
  intro x hx
  obtain ⟨P, q, h1, h2⟩ := splS_cut c s
  have h3 := congrArg List.length h2
  rw [List.length_append, dataL_len, dataL_len] at h3
  rw [h1, List.mem_append] at hx
  rcases hx with hx | hx
  · obtain ⟨A, B, e⟩ := List.append_of_mem hx
    rw [e, List.flatMap_append, List.flatMap_cons, List.length_append, List.length_append, List.length_append, dataL_len] at h3
    omega
  · rw [List.mem_singleton] at hx; subst hx; omega
theorem cutN_any (s : ByteArray) (m : Int) (w : World) (hs : s.size ≤ 1048576) (hm : w.cell? ⟨1, 0, none⟩ = some (.int .i64 m)) :
    Calls Tryz.prog 123 #[.string s, .string ⟨#[44]⟩, .int .i64 65] w fun e w' => ∃ v fp, e = .returned v ∧ Sl fStr.cod w' v (cutN s) fp ∧ Below w.heap.size w w' := by
  have hlen := cutN_len s
  have hsz := cutN_size s
  have hl2 := (splitB_len ⟨#[44]⟩ (min 65 (s.size + 1) - 1) s).1
  refine (Tryz.strings_SplitN s ⟨#[44]⟩ 65 m w (by omega) hm (Nat.le_refl 1) (by decide) (by decide)).mono ?_
  rintro e w' ⟨rfl, rfl⟩
  refine ⟨_, [w.heap.size], rfl, ?_, (Below.refl _ _).alloc (Nat.le_refl _) _⟩
  have hpos : 0 < (cutN s).length := by
    unfold cutN
    cases hk : (min 65 (s.size + 1) - 1) with
    | zero => rw [Lib.splitB_zero]; simp
    | succ k => unfold Lib.splitB; split <;> simp
  refine Sl.of_cells (by show (cutN s).length ≤ _; unfold cutN at hpos ⊢; omega) (by omega) (by simp) (fun j hj => ⟨?_, ?_⟩) (fun x hx => by have := hsz x hx; show x.size ≤ 9223372036854775807; omega) hpos
  · have e1 : (cutN s).flatMap fStr.enc = (cutN s).map Value.string := by
      generalize cutN s = L
      induction L with
      | nil => rfl
      | cons x L ih => rw [List.flatMap_cons, List.map_cons, ih]; rfl
    have hj2 : j < (cutN s).length := by
      have h : j < ((cutN s).flatMap fStr.enc).length := hj
      rw [e1, List.length_map] at h; exact h
    rw [World.cell?_alloc_at _ _ _ _ rfl]
    show (Lib.cellsOf (cutN s) (min 65 (s.size + 1)))[0 + j]? = ((cutN s).flatMap fStr.enc)[j]?
    rw [e1, Nat.zero_add]
    unfold Lib.cellsOf
    rw [List.getElem?_toArray, List.getElem?_append_left (by rw [List.length_map]; exact hj2)]
  · rw [World.frozen?_alloc_at _ _ _ _ rfl]
set_option maxRecDepth 100000 in
set_option maxHeartbeats 4000000 in
theorem implReadList_any (s : ByteArray) (m : Int) (w : World) (hs : s.size ≤ 1048576) (hm9 : w.cell? ⟨1, 0, none⟩ = some (.int .i64 m)) (ht : RdTabs w) :
    Calls Tryz.prog 100 #[.string s] w fun e w' => RlR w s e w' := by
  obtain ⟨i0, hi, hz0, hz1, hz2⟩ := info_parts infoIntR
  by_cases hm : s = minusS
  · have e1 : (s.toList == [45]) = true := by rw [hm, beq_iff_eq]; unfold minusS; simp [ByteArray.toList_eq]
    have HR := Lib.hid (show rlF s = some [] from by unfold rlF; rw [if_pos hm])
    clear hm
    go_enter Tryz.func100, Tryz.ntmps100
    go_wp2
    go_ret2
    exact RlR.some_ HR.out (New.nil (Below.refl _ _))
  · have e1 : (s.toList == [45]) = false := by
      rw [beq_eq_false_iff_ne]; intro e
      exact hm (bytes_toList_inj (e.trans (by unfold minusS; simp [ByteArray.toList_eq])))
    have hsz := cutN_size s
    have hl65 := cutN_len s
    have HBAD : Hid (∀ k (hk : k < (cutN s).length), numOk (cutN s)[k] = false → rlF s = none) := fun k hk h => rlF_bad hm hk h
    have HEND : Hid ((∀ x ∈ cutN s, numOk x = true) → (listT ((cutN s).map numV) = s → rlF s = some ((cutN s).map numV)) ∧ (¬ listT ((cutN s).map numV) = s → rlF s = none)) := fun h => rlF_end hm h
    clear hm
    go_enter Tryz.func100, Tryz.ntmps100
    go_wp2_with fail
    refine (cutN_any s m _ hs hm9).mono ?_
    rintro e w1 ⟨v1, fp1, rfl, hsl, hb1⟩
    have ht1 := ht.below hb1
    generalize cutN s = P at *
    obtain ⟨A, cap, rfl, hle, hca⟩ := hsl.form
    go_wp2
    go_loopw [4, 14] (fun v i wr => ∃ k : Nat, k ≤ P.length ∧ i = .int .i64 k ∧ Hid ((P.take k).all numOk = true) ∧ Own fInt wr w1.heap.size 2 v ((P.map numV).take k) ∧ Below w1.heap.size w1 wr) (fun _ i _ => P.length - (intOf i).toNat)
    case atStart => exact ⟨0, Nat.zero_le _, rfl, rfl, Own.nil fInt _ _ _, Below.refl _ _⟩
    case round =>
      obtain ⟨k, hk, rfl, HA, ho, hb⟩ := hrel
      by_cases hlt : k < P.length
      · obtain ⟨b, off, rfl, _, _, hc, _⟩ := (hsl.below' hb).cell1 rfl hlt rfl
        have hps := hsz P[k] (List.getElem_mem hlt)
        have hkl : ((P.map numV).take k).length ≤ 65 := by rw [List.length_take, List.length_map]; omega
        go_wp2_with fail
        refine (ReadDecimal_any P[k] _ (by omega) (ht1.below hb)).mono ?_
        rintro e w2 ⟨rfl, hb2⟩
        have hB2 := hb.trans (hb2.mono hb.size)
        cases hn : numOk P[k]
        · have HN := Lib.hid (HBAD.out k hlt hn)
          clear ho hn
          go_wp2
          go_ret2
          exact RlR.none_ HN.out (hb1.trans (hB2.mono hb1.size))
        · have HA2 : Hid ((P.take (k + 1)).all numOk = true) := by
            show _ = _
            rw [List.take_succ_eq_append_getElem hlt, List.all_append, HA.out]; simp [hn]
          have HST : Hid ((P.map numV).take (k + 1) = (P.map numV).take k ++ [numV P[k]]) := by show _ = _; rw [List.take_succ_eq_append_getElem (by rw [List.length_map]; exact hlt), List.getElem_map]
          have ho3 : w2.ownsRow w1.heap.size 2 1 u4 ((P.map numV).take k).length (((P.map numV).take k).flatMap fInt.enc) := ho.below hb2
          have hs2 := hB2.size
          clear ho hn
          go_wp2_with (at_builtin; refine wpList_append_one rfl _ _ 30 rfl w1.heap.size 2 i0 (.int .i64 0) 1 8 Tryz.underlying30 hi hz0 hz1 hz2 rfl (by decide) u4 ((P.map numV).take k).length _ rfl ho3 [.int .i64 (numV P[k])] rfl (by intro u hu; rw [List.mem_singleton] at hu; subst hu; rfl) rfl (by omega) (by decide) hs2 ?_)
          intro v' u hown hbu _ _
          have hbu' := hB2.trans hbu
          have ho4 : Own fInt u w1.heap.size 2 v' ((P.map numV).take (k + 1)) := by rw [HST.out]; exact Own.push _ (by rw [List.length_take, List.length_map]; omega) hown
          clear hown
          go_wp2
          go_roundw
          case rel => exact ⟨k + 1, by omega, by go_num, HA2, ho4, hbu'⟩
          case measure => simp [intOf]; omega
      · obtain rfl : k = P.length := by omega
        rw [← List.length_map (f := numV), List.take_length] at ho
        have hall : ∀ x ∈ P, numOk x = true := by
          have h := HA.out
          rw [List.take_length] at h
          exact List.all_eq_true.1 h
        obtain ⟨hE1, hE2⟩ := HEND.out hall
        have hoks := numVs_ok P
        obtain ⟨fpy, hsy, hlo, hnd⟩ := Sl.of_own (n := (P.map numV).length) rfl ho hoks
        have hls := listT_size hoks (by rw [List.length_map]; omega)
        clear hall
        go_wp2_with fail
        refine (ListText_any _ (P.map numV) fpy _ hsy (ht1.below hb).tab).mono ?_
        rintro e w2 ⟨rfl, hb2⟩
        have hB2 := hb.trans (hb2.mono hb.size)
        by_cases hq : listT (P.map numV) = s
        · have HY := Lib.hid (hE1 hq)
          have e2 : ((listT (P.map numV)).toList == s.toList) = true := eqS_true.2 hq
          have hnew := ((ho.below hb2).new hB2 hoks).later hb1
          clear hE1 hE2 hq hsy ho
          go_wp2
          go_ret2
          exact RlR.some_ HY.out hnew
        · have HN := Lib.hid (hE2 hq)
          have e2 : ((listT (P.map numV)).toList == s.toList) = false := bytes_beq_false hq
          clear hE1 hE2 hq hsy ho
          go_wp2
          go_ret2
          exact RlR.none_ HN.out (hb1.trans (hB2.mono hb1.size))

end Go.Proofs.YtmhefhapighloaaGreatDoor

namespace Go.Proofs.YtmhefhapighloaaGreatDoor
open Go.RowKit
set_option linter.unusedVariables false

def one3 (b : ByteArray) : Bool := match rlF b with | some [_, _, _] => true | _ => false
def num3 (b : ByteArray) : List Int := match rlF b with | some [p, q, r] => [p, q, r] | _ => [0, 0, 0]
theorem one3_yes {b : ByteArray} (h : one3 b = true) : rlF b = some (num3 b) ∧ (num3 b).length = 3 := by
  unfold one3 num3 at *
  split at h
  · rename_i hr; rw [hr]; exact ⟨rfl, rfl⟩
  · cases h
theorem one3_no {b : ByteArray} (h : one3 b = false) : num3 b = [0, 0, 0] := by
  unfold one3 num3 at *
  split at h
  · cases h
  · rfl
theorem one3_of {b : ByteArray} {p q r : Int} (h : rlF b = some [p, q, r]) : one3 b = true ∧ num3 b = [p, q, r] := by unfold one3 num3; rw [h]; exact ⟨rfl, rfl⟩
theorem num3_len (b : ByteArray) : (num3 b).length = 3 := by unfold num3; split <;> rfl
theorem num3_abc (b : ByteArray) : ∃ p q r, num3 b = [p, q, r] := by
  have h := num3_len b
  match hn : num3 b, h with
  | [p, q, r], _ => exact ⟨p, q, r, rfl⟩
theorem one3_len {b : ByteArray} {xs : List Int} (h : rlF b = some xs) : one3 b = decide (xs.length = 3) := by
  unfold one3
  rw [h]
  match xs with
  | [] => rfl
  | [_] => rfl
  | [_, _] => rfl
  | [_, _, _] => rfl
  | _ :: _ :: _ :: _ :: l => simp
theorem one3_none {b : ByteArray} (h : rlF b = none) : one3 b = false := by unfold one3; rw [h]
def e0 : ByteArray := ⟨#[]⟩
def openS : ByteArray := ⟨#[111, 112, 101, 110]⟩
def shutS : ByteArray := ⟨#[115, 104, 117, 116]⟩
def xgX (X : List ByteArray) : DGate := ⟨X.getD 0 e0, (num3 (X.getD 1 e0)).getD 0 0, (num3 (X.getD 1 e0)).getD 1 0, (num3 (X.getD 1 e0)).getD 2 0, decide (X.length = 4), if X.length = 4 then numV (X.getD 3 e0) else 0⟩
def twoX (X : List ByteArray) : Bool := !decide (X.length = 4) || numOk (X.getD 3 e0)
def gtT (x : DGate) : ByteArray := if gateB x then gtS x else ⟨#[]⟩
def rgF (s : ByteArray) : Option DGate := if decide (3 ≤ (splS 32 s).length) && one3 ((splS 32 s).getD 1 e0) && twoX (splS 32 s) && decide (gtT (xgX (splS 32 s)) = s) then some (xgX (splS 32 s)) else none
theorem name_noblank {x : ByteArray} (h : nameB x = true) : ∀ b ∈ x.data.toList, b ≠ 32 := by
  intro b hb e
  subst e
  unfold nameB at h
  simp only [Bool.and_eq_true] at h
  have ha : allNm x.data.toList = true := by first | exact h.2 | exact h.1.2 | exact h.1.1.2 | exact h.1.1.1
  unfold allNm at ha
  have := List.all_eq_true.1 ha 32 hb
  revert this; decide
theorem joinX_bytes : ∀ (L : List (List UInt8)), (∀ x ∈ L, ∀ b ∈ x, b ≠ 32) → ∀ b ∈ joinX L, b ≠ 32
  | [], _, b, hb => by simp [joinX] at hb
  | x :: r, h, b, hb => by
    unfold joinX at hb
    rw [List.mem_append, List.mem_flatMap] at hb
    rcases hb with hb | ⟨y, hy, hb⟩
    · exact h x (by simp) b hb
    · rcases List.mem_cons.1 hb with rfl | hb
      · decide
      · exact h y (by simp [hy]) b hb
theorem listS_noblank (xs : List Int) : ∀ b ∈ (listS xs).data.toList, b ≠ 32 := by
  by_cases h : xs = []
  · subst h; intro b hb; have : b = 45 := by simpa [listS] using hb
    subst this; decide
  · rw [listS_data h]
    exact joinX_bytes _ (fun y hy b hb => by obtain ⟨v, _, rfl⟩ := List.mem_map.1 hy; exact (itoa_bytes v b hb).2)
theorem decS_data (v : Int) : (decS v).data.toList = Lib.itoa v := by unfold decS; simp
theorem gtN_xg {X : List ByteArray} {p q r : Int} (h : num3 (X.getD 1 e0) = [p, q, r]) : gtN (xgX X) = num3 (X.getD 1 e0) := by unfold gtN xgX; rw [h]; rfl
/-- The words of a gate's text. -/
theorem spl_open {a b : ByteArray} (ha : ∀ y ∈ a.data.toList, y ≠ 32) (hb : ∀ y ∈ b.data.toList, y ≠ 32) {s : ByteArray} (h : a ++ ⟨#[32]⟩ ++ b ++ ⟨#[32, 111, 112, 101, 110]⟩ = s) : splS 32 s = [a, b, openS] := by
  refine (splS_of ?_).symm
  have hd : s.data.toList = a.data.toList ++ 32 :: (b.data.toList ++ 32 :: [111, 112, 101, 110]) := by
    rw [← h, Go.Joins.data_append, Go.Joins.data_append, Go.Joins.data_append]; simp
  rw [hd, splL_app 32 _ _ ha, splL_app 32 _ _ hb]; rfl
theorem spl_shut {a b d : ByteArray} (ha : ∀ y ∈ a.data.toList, y ≠ 32) (hb : ∀ y ∈ b.data.toList, y ≠ 32) (hd0 : ∀ y ∈ d.data.toList, y ≠ 32) {s : ByteArray} (h : a ++ ⟨#[32]⟩ ++ b ++ ⟨#[32, 115, 104, 117, 116, 32]⟩ ++ d = s) : splS 32 s = [a, b, shutS, d] := by
  refine (splS_of ?_).symm
  have hd : s.data.toList = a.data.toList ++ 32 :: (b.data.toList ++ 32 :: ([115, 104, 117, 116] ++ 32 :: d.data.toList)) := by
    rw [← h, Go.Joins.data_append, Go.Joins.data_append, Go.Joins.data_append, Go.Joins.data_append]; simp
  rw [hd, splL_app 32 _ _ ha, splL_app 32 _ _ hb, splL_app 32 [115, 104, 117, 116] _ (by decide), splL_none hd0]; rfl
theorem words3 {s a b c : ByteArray} (h : splS 32 s = [a, b, c]) : a ++ ⟨#[32]⟩ ++ b ++ ⟨#[32]⟩ ++ c = s := by
  have hd := splS_data 32 s
  rw [h] at hd
  have hj := splL_join 32 s.data.toList [a.data.toList, b.data.toList] c.data.toList hd.symm
  refine data_inj ?_
  rw [Go.Joins.data_append, Go.Joins.data_append, Go.Joins.data_append, Go.Joins.data_append, ← hj]; simp
theorem words4 {s a b c d : ByteArray} (h : splS 32 s = [a, b, c, d]) : a ++ ⟨#[32]⟩ ++ b ++ ⟨#[32]⟩ ++ c ++ ⟨#[32]⟩ ++ d = s := by
  have hd := splS_data 32 s
  rw [h] at hd
  have hj := splL_join 32 s.data.toList [a.data.toList, b.data.toList, c.data.toList] d.data.toList hd.symm
  refine data_inj ?_
  rw [Go.Joins.data_append, Go.Joins.data_append, Go.Joins.data_append, Go.Joins.data_append, Go.Joins.data_append, Go.Joins.data_append, ← hj]; simp
theorem app_open (t : ByteArray) : t ++ ⟨#[32]⟩ ++ openS = t ++ ⟨#[32, 111, 112, 101, 110]⟩ := by
  refine data_inj ?_
  rw [Go.Joins.data_append, Go.Joins.data_append, Go.Joins.data_append]; simp [openS]
theorem app_shut (t d : ByteArray) : t ++ ⟨#[32]⟩ ++ shutS ++ ⟨#[32]⟩ ++ d = t ++ ⟨#[32, 115, 104, 117, 116, 32]⟩ ++ d := by
  refine data_inj ?_
  rw [Go.Joins.data_append, Go.Joins.data_append, Go.Joins.data_append, Go.Joins.data_append, Go.Joins.data_append, Go.Joins.data_append]; simp [shutS]
def specB (X : List ByteArray) : Bool := decide (3 ≤ X.length) && decide (X.length ≤ 4) && one3 (X.getD 1 e0) && (if X.length = 4 then numOk (X.getD 3 e0) && decide (X.getD 2 e0 = shutS) else decide (X.getD 2 e0 = openS)) && gateB (xgX X)
theorem gateB_name {x : DGate} (h : gateB x = true) : nameB x.id = true := by
  unfold gateB at h
  simp only [Bool.and_eq_true] at h
  exact h.1.1.1.1.1
theorem rg_spec (s : ByteArray) : rgF s = if specB (splS 32 s) then some (xgX (splS 32 s)) else none := by
  have key : (decide (3 ≤ (splS 32 s).length) && one3 ((splS 32 s).getD 1 e0) && twoX (splS 32 s) && decide (gtT (xgX (splS 32 s)) = s)) = specB (splS 32 s) := by
    rw [Bool.eq_iff_iff]
    constructor
    · intro h
      simp only [Bool.and_eq_true, decide_eq_true_eq] at h
      obtain ⟨⟨⟨h3, h1⟩, h2⟩, ht⟩ := h
      have hg : gateB (xgX (splS 32 s)) = true := by
        cases hg : gateB (xgX (splS 32 s)) with
        | true => rfl
        | false =>
          unfold gtT at ht
          rw [hg] at ht
          have : s = ⟨#[]⟩ := ht.symm
          subst this
          exact absurd h3 (by decide)
      unfold gtT at ht
      rw [if_pos hg] at ht
      have hid := name_noblank (gateB_name hg)
      have hls := listS_noblank (gtN (xgX (splS 32 s)))
      unfold gtS at ht
      by_cases hsh : (xgX (splS 32 s)).shuts = true
      · rw [if_pos hsh] at ht
        have hw := spl_shut hid hls (fun y hy => by rw [decS_data] at hy; exact (itoa_bytes _ y hy).2) ht
        have h4 : (splS 32 s).length = 4 := by unfold xgX at hsh; simpa using hsh
        have h22 : (splS 32 s).getD 2 e0 = shutS := by rw [hw]; rfl
        unfold twoX at h2
        rw [decide_eq_true h4] at h2
        unfold specB
        rw [if_pos h4, h1, hg, h22, decide_eq_true h3, decide_eq_true (show (splS 32 s).length ≤ 4 by omega)]
        have h2' : numOk ((splS 32 s).getD 3 e0) = true := by simpa using h2
        rw [h2']; rfl
      · rw [if_neg hsh] at ht
        have hw := spl_open hid hls ht
        have h4 : (splS 32 s).length = 3 := by rw [hw]; rfl
        have h22 : (splS 32 s).getD 2 e0 = openS := by rw [hw]; rfl
        unfold specB
        rw [if_neg (by omega), h1, hg, h22, decide_eq_true h3, decide_eq_true (show (splS 32 s).length ≤ 4 by omega)]
        rfl
    · intro h
      unfold specB at h
      simp only [Bool.and_eq_true, decide_eq_true_eq] at h
      obtain ⟨⟨⟨⟨h3, h4⟩, h1⟩, h2⟩, hg⟩ := h
      obtain ⟨hr, hrl⟩ := one3_yes h1
      obtain ⟨p, q, r, habc⟩ := num3_abc ((splS 32 s).getD 1 e0)
      have hlt := (rlF_text hr).2
      have hgn := gtN_xg habc
      simp only [Bool.and_eq_true, decide_eq_true_eq]
      refine ⟨⟨⟨h3, h1⟩, ?_⟩, ?_⟩
      · unfold twoX
        by_cases hl : (splS 32 s).length = 4
        · rw [if_pos hl] at h2
          simp only [Bool.and_eq_true] at h2
          rw [h2.1]; simp
        · rw [decide_eq_false hl]; rfl
      · unfold gtT
        rw [if_pos hg]
        unfold gtS
        rw [hgn, hlt]
        by_cases hl : (splS 32 s).length = 4
        · rw [if_pos hl] at h2
          simp only [Bool.and_eq_true, decide_eq_true_eq] at h2
          rw [if_pos (by unfold xgX; simpa using hl)]
          obtain ⟨a, b, c, d, hX⟩ : ∃ a b c d, splS 32 s = [a, b, c, d] := by
            match hm : splS 32 s, hl with
            | [a, b, c, d], _ => exact ⟨a, b, c, d, rfl⟩
          have hw := words4 hX
          have hcl : (xgX (splS 32 s)).calm = numV d := by unfold xgX; rw [hX]; rfl
          have hidd : (xgX (splS 32 s)).id = a := by unfold xgX; rw [hX]; rfl
          rw [hX] at h2
          have hc : c = shutS := h2.2
          have hdd : decS (numV d) = d := by
            refine data_inj ?_
            rw [decS_data]; exact (num_parts h2.1).1
          rw [hcl, hidd, hdd, ← app_shut, ← hc]
          rw [hX]
          exact hw
        · rw [if_neg hl] at h2
          simp only [decide_eq_true_eq] at h2
          rw [if_neg (by unfold xgX; simpa using hl)]
          obtain ⟨a, b, c, hX⟩ : ∃ a b c, splS 32 s = [a, b, c] := by
            have h33 : (splS 32 s).length = 3 := by omega
            match hm : splS 32 s, h33 with
            | [a, b, c], _ => exact ⟨a, b, c, rfl⟩
          have hw := words3 hX
          have hidd : (xgX (splS 32 s)).id = a := by unfold xgX; rw [hX]; rfl
          rw [hX] at h2
          have hc : c = openS := h2
          rw [hidd, ← app_open, ← hc]
          rw [hX]
          exact hw
  unfold rgF
  rw [key]
def gAgg (x : DGate) : Value := .agg #[.string x.id, .int .i64 x.shut, .int .i64 x.open_, .int .i64 x.hold, .bool x.shuts, .int .i64 x.calm]
def gt00 : DGate := ⟨⟨#[]⟩, 0, 0, 0, false, 0⟩
def GRet (s : ByteArray) (e : Ending) : Prop := e = .returned (.tuple #[gAgg ((rgF s).getD gt00), .bool (rgF s).isSome])
theorem GRet.no {s : ByteArray} (h : rgF s = none) : GRet s (.returned (.tuple #[gAgg gt00, .bool false])) := by unfold GRet; rw [h]; rfl
theorem GRet.yes {s : ByteArray} {x : DGate} (h : rgF s = some x) : GRet s (.returned (.tuple #[gAgg x, .bool true])) := by unfold GRet; rw [h]; rfl
structure Box6 (w : World) (g : Nat) : Prop where
  d0 : w.cell? ⟨g, 0, none⟩ = some (.string ⟨#[]⟩)
  d1 : w.cell? ⟨g, 1, none⟩ = some (.int .i64 0)
  d2 : w.cell? ⟨g, 2, none⟩ = some (.int .i64 0)
  d3 : w.cell? ⟨g, 3, none⟩ = some (.int .i64 0)
  d4 : w.cell? ⟨g, 4, none⟩ = some (.bool false)
  d5 : w.cell? ⟨g, 5, none⟩ = some (.int .i64 0)
  z0 : w.frozen? ⟨g, 0, none⟩ = false
  z1 : w.frozen? ⟨g, 1, none⟩ = false
  z2 : w.frozen? ⟨g, 2, none⟩ = false
  z3 : w.frozen? ⟨g, 3, none⟩ = false
  z4 : w.frozen? ⟨g, 4, none⟩ = false
  z5 : w.frozen? ⟨g, 5, none⟩ = false
theorem Box6.new (w : World) (T : TypeId) : Box6 (w.alloc (.cells #[.string ⟨#[]⟩, .int .i64 0, .int .i64 0, .int .i64 0, .bool false, .int .i64 0] T)) w.heap.size := by
  constructor <;> simp
theorem Box6.below {w w' : World} {g B : Nat} (h : Box6 w g) (hb : Below B w w') (hg : g < B) : Box6 w' g :=
  ⟨(hb.cell (p := ⟨g, _, none⟩) hg).trans h.d0, (hb.cell (p := ⟨g, _, none⟩) hg).trans h.d1, (hb.cell (p := ⟨g, _, none⟩) hg).trans h.d2, (hb.cell (p := ⟨g, _, none⟩) hg).trans h.d3, (hb.cell (p := ⟨g, _, none⟩) hg).trans h.d4, (hb.cell (p := ⟨g, _, none⟩) hg).trans h.d5,
   (hb.frozen (p := ⟨g, _, none⟩) hg).trans h.z0, (hb.frozen (p := ⟨g, _, none⟩) hg).trans h.z1, (hb.frozen (p := ⟨g, _, none⟩) hg).trans h.z2, (hb.frozen (p := ⟨g, _, none⟩) hg).trans h.z3, (hb.frozen (p := ⟨g, _, none⟩) hg).trans h.z4, (hb.frozen (p := ⟨g, _, none⟩) hg).trans h.z5⟩
theorem hit_cell {w : World} {p : Addr} {x : Value} (h : (w.cell? p).isSome = true) : (w.setCell p x).cell? p = some x := by
  obtain ⟨v, hv⟩ := Option.isSome_iff_exists.1 h
  exact World.cell?_setCell_same w p x hv
theorem PGate.closed {V : World} {g : Nat} {x : DGate} (h : PGate V g 0 x) (c : Int) : PGate ((V.setCell ⟨g, 4, none⟩ (.bool true)).setCell ⟨g, 5, none⟩ (.int .i64 c)) g 0 ⟨x.id, x.shut, x.open_, x.hold, true, c⟩ := by
  have n4 : ∀ j, j ≠ 4 → (⟨g, 4, none⟩ : Addr) ≠ ⟨g, j, none⟩ := fun j hj e => by injection e with _ e _; exact hj e.symm
  have n5 : ∀ j, j ≠ 5 → (⟨g, 5, none⟩ : Addr) ≠ ⟨g, j, none⟩ := fun j hj e => by injection e with _ e _; exact hj e.symm
  have k : ∀ j, j ≠ 4 → j ≠ 5 → ((V.setCell ⟨g, 4, none⟩ (.bool true)).setCell ⟨g, 5, none⟩ (.int .i64 c)).cell? ⟨g, j, none⟩ = V.cell? ⟨g, j, none⟩ := fun j h4 h5 => by
    rw [World.cell?_setCell_other _ _ _ _ (n5 j h5), World.cell?_setCell_other _ _ _ _ (n4 j h4)]
  refine ⟨(k _ (by decide) (by decide)).trans h.c0, (k _ (by decide) (by decide)).trans h.c1, (k _ (by decide) (by decide)).trans h.c2, (k _ (by decide) (by decide)).trans h.c3, ?_, ?_⟩
  · show (World.setCell _ _ _).cell? ⟨g, 4, none⟩ = _
    rw [World.cell?_setCell_other _ _ _ _ (n5 4 (by decide))]
    exact hit_cell (by have := h.c4; rw [show (0 + 4 : Nat) = 4 from rfl] at this; rw [this]; rfl)
  · show (World.setCell _ _ _).cell? ⟨g, 5, none⟩ = _
    refine hit_cell ?_
    rw [World.cell?_setCell_other _ _ _ _ (n4 5 (by decide))]
    have := h.c5; rw [show (0 + 5 : Nat) = 5 from rfl] at this; rw [this]; rfl
theorem PGate.set4 {V : World} {g : Nat} {x : DGate} (h : PGate V g 0 x) (c : Bool) : PGate (V.setCell ⟨g, 4, none⟩ (.bool c)) g 0 ⟨x.id, x.shut, x.open_, x.hold, c, x.calm⟩ := by
  have n4 : ∀ j, j ≠ 4 → (⟨g, 4, none⟩ : Addr) ≠ ⟨g, j, none⟩ := fun j hj e => by injection e with _ e _; exact hj e.symm
  have k : ∀ j, j ≠ 4 → (V.setCell ⟨g, 4, none⟩ (.bool c)).cell? ⟨g, j, none⟩ = V.cell? ⟨g, j, none⟩ := fun j h4 => World.cell?_setCell_other _ _ _ _ (n4 j h4)
  exact ⟨(k _ (by decide)).trans h.c0, (k _ (by decide)).trans h.c1, (k _ (by decide)).trans h.c2, (k _ (by decide)).trans h.c3, hit_cell (by have := h.c4; rw [show (0 + 4 : Nat) = 4 from rfl] at this; rw [this]; rfl), (k _ (by decide)).trans h.c5⟩
theorem PGate.set5 {V : World} {g : Nat} {x : DGate} (h : PGate V g 0 x) (c : Int) : PGate (V.setCell ⟨g, 5, none⟩ (.int .i64 c)) g 0 ⟨x.id, x.shut, x.open_, x.hold, x.shuts, c⟩ := by
  have n5 : ∀ j, j ≠ 5 → (⟨g, 5, none⟩ : Addr) ≠ ⟨g, j, none⟩ := fun j hj e => by injection e with _ e _; exact hj e.symm
  have k : ∀ j, j ≠ 5 → (V.setCell ⟨g, 5, none⟩ (.int .i64 c)).cell? ⟨g, j, none⟩ = V.cell? ⟨g, j, none⟩ := fun j h4 => World.cell?_setCell_other _ _ _ _ (n5 j h4)
  exact ⟨(k _ (by decide)).trans h.c0, (k _ (by decide)).trans h.c1, (k _ (by decide)).trans h.c2, (k _ (by decide)).trans h.c3, (k _ (by decide)).trans h.c4, hit_cell (by have := h.c5; rw [show (0 + 5 : Nat) = 5 from rfl] at this; rw [this]; rfl)⟩
theorem Box6.far {V : World} {b g j : Nat} {v : Value} (h : Box6 V b) (hne : b ≠ g) : Box6 (V.setCell ⟨g, j, none⟩ v) b := by
  have k : ∀ i, (V.setCell ⟨g, j, none⟩ v).cell? ⟨b, i, none⟩ = V.cell? ⟨b, i, none⟩ := fun i => World.cell?_setCell_far V ⟨g, j, none⟩ ⟨b, i, none⟩ v (fun e => hne e.symm)
  have f : ∀ i, (V.setCell ⟨g, j, none⟩ v).frozen? ⟨b, i, none⟩ = V.frozen? ⟨b, i, none⟩ := fun i => frozen?_setCell _ _ _ _
  exact ⟨(k _).trans h.d0, (k _).trans h.d1, (k _).trans h.d2, (k _).trans h.d3, (k _).trans h.d4, (k _).trans h.d5, (f _).trans h.z0, (f _).trans h.z1, (f _).trans h.z2, (f _).trans h.z3, (f _).trans h.z4, (f _).trans h.z5⟩
theorem num3_ok {b : ByteArray} : ∀ x ∈ num3 b, fInt.ok x := by
  cases h : one3 b
  · rw [one3_no h]; intro x hx; simp at hx; subst hx; show _ ∧ _; simp
  · have h1 := (rlF_text (one3_yes h).1).1
    unfold fitsL at h1
    simp only [Bool.and_eq_true] at h1
    intro x hx
    have := List.all_eq_true.1 h1.2 x hx
    unfold inB at this
    simp only [Bool.and_eq_true, decide_eq_true_eq] at this
    show _ ∧ _; omega
theorem made3 (v : Value) : madeCells #[v] 3 = #[v, v, v] := by
  unfold madeCells
  rw [show Array.range 3 = #[0, 1, 2] from by decide]
  simp [Nat.mod_one]
set_option maxRecDepth 100000 in
set_option maxHeartbeats 2000000 in
theorem readNumbers_any (s : ByteArray) (m : Int) (w : World) (hs : s.size ≤ 1048576) (hm9 : w.cell? ⟨1, 0, none⟩ = some (.int .i64 m)) (ht : RdTabs w) :
    Calls Tryz.prog 69 #[.string s, .int .i64 3] w fun e w' => ∃ v, e = .returned (.tuple #[v, .bool (one3 s)]) ∧ New fInt.cod w v (num3 s) w' := by
  obtain ⟨i0, hi, hz0, hz1, hz2⟩ := info_parts infoIntR
  have hmk : ∀ W : World, (Instr.makeSlice 30 (.int .i64 3) (.int .i64 3)).run Tryz.prog W = .ok (.slice (some ⟨W.heap.size, 0, none⟩) 3 3) (W.alloc (.cells (madeCells (Value.int .i64 0).cells (3 * i0.size)) 2)) := fun W => run_make_rowN (P := Tryz.prog) 30 2 i0 _ Tryz.underlying30 hi hz0 .i64 .i64 3 3 (Nat.le_refl _) (by rw [hz2]; decide) (by decide) W
  rw [hz1] at hmk
  have hzero : ∀ W : World, Own fInt (W.alloc (.cells (madeCells #[Value.int .i64 0] 3) 2)) W.heap.size 2 (.slice (some ⟨W.heap.size, 0, none⟩) 3 3) [0, 0, 0] := fun W => by
    rw [made3]
    exact World.ownsRow_lit (e := 2) (size := 1) W #[Value.int .i64 0, .int .i64 0, .int .i64 0] 3 (Nat.le_refl _) (by decide) rfl
  go_enter Tryz.func69, Tryz.ntmps69
  go_wp2_with fail
  refine (implReadList_any s m _ hs hm9 ht).mono ?_
  rintro e w1 ⟨v1, rfl, hn1⟩
  have hb1 := hn1.below
  have hfail : one3 s = false → ∃ v, Ending.returned (.tuple #[.slice (some ⟨w1.heap.size, 0, none⟩) 3 3, .bool false]) = .returned (.tuple #[v, .bool (one3 s)]) ∧ New fInt.cod w v (num3 s) (w1.alloc (.cells (madeCells #[Value.int .i64 0] 3) 2)) := fun h => ⟨_, by rw [h], by
    rw [one3_no h]
    exact ((hzero w1).new ((Below.refl _ _).alloc (Nat.le_refl _) _) (by intro x hx; simp at hx; subst hx; show _ ∧ _; simp)).later hb1⟩
  have HFAIL := Lib.hid hfail
  clear hfail hzero
  cases hr : rlF s with
  | none =>
    have h1 := one3_none hr
    rw [show (none : Option (List Int)).isSome = false from rfl]
    clear hn1 hr
    go_wp2
    go_ret2
    exact HFAIL.out h1
  | some xs =>
    have h1 := one3_len hr
    rw [show (some xs : Option (List Int)).isSome = true from rfl]
    rw [hr] at hn1
    have hn2 : New fInt.cod w v1 xs w1 := hn1
    obtain ⟨⟨fpy, hsy, _, _⟩, _⟩ := id hn2
    obtain ⟨A, cap, rfl, _, _⟩ := hsy.form
    clear hn1 hsy
    by_cases h3 : xs.length = 3
    · rw [decide_eq_true h3] at h1
      have hnum : num3 s = xs := by have := (one3_yes h1).1; rw [hr] at this; exact (Option.some.inj this).symm
      have HN := Lib.hid hnum
      have hn3 : New fInt.cod w (.slice A 3 cap) xs w1 := by rw [← h3]; exact hn2
      have H1 := Lib.hid h1
      have e5 : ((xs.length : Int) == 3) = true := by rw [beq_iff_eq]; omega
      have e6 : ((xs.length : Int) != 3) = false := by unfold bne; rw [e5]; rfl
      clear hr hnum h1
      go_wp2
      go_ret2
      exact ⟨_, by rw [H1.out]; rfl, by rw [HN.out]; exact hn3⟩
    · rw [decide_eq_false h3] at h1
      have H1 := Lib.hid h1
      have e5 : ((xs.length : Int) == 3) = false := by rw [beq_eq_false_iff_ne]; omega
      have e6 : ((xs.length : Int) != 3) = true := by unfold bne; rw [e5]; rfl
      clear hr h1 hn2
      go_wp2
      go_ret2
      exact HFAIL.out H1.out
set_option maxRecDepth 100000 in
set_option maxHeartbeats 2000000 in
theorem GateText_all (x : DGate) (w : World) (hok : fGate.ok x) (ht : Tab10 w) :
    Calls Tryz.prog 39 #[gAgg x] w fun e w' => e = .returned (.string (gtT x)) ∧ Below w.heap.size w w' := by
  unfold gAgg
  cases hv : gateB x
  · have HT : Hid (gtT x = ⟨#[]⟩) := by show _ = _; unfold gtT; rw [hv]; rfl
    have HV := Lib.hid hv
    obtain ⟨c0, c1, c2, c3, c4, c5⟩ := PGate.box w x 43
    go_enter Tryz.func39, Tryz.ntmps39
    go_wp2_with fail
    refine (gateValid_any x _ hok).mono ?_
    rintro e w1 ⟨rfl, hb1⟩
    have hB1 : Below w.heap.size w w1 := ((Below.refl _ _).alloc (Nat.le_refl _) _).trans (hb1.mono (by simp))
    rw [HV.out]
    go_wp2
    go_ret
    exact ⟨by rw [HT.out]; rfl, hB1⟩
  · have e : gtT x = gtS x := by unfold gtT; rw [if_pos hv]
    rw [e]
    exact GateText_any x w hok hv ht
theorem splitR_any (s : ByteArray) (c : UInt8) (m : Int) (w : World) (hs : s.size ≤ 1048576) (hm : w.cell? ⟨1, 0, none⟩ = some (.int .i64 m)) :
    Calls Tryz.prog 26 #[.string s, .string ⟨#[c]⟩] w fun e w' => OwnRT fStr 9 w (splS c s) e w' := by
  refine (Tryz.strings_Split s ⟨#[c]⟩ m w (by omega) hm (Nat.le_refl 1)).mono ?_
  rintro e w' ⟨rfl, rfl⟩
  have hl := Lib.splitB_all ⟨#[c]⟩ (Nat.le_refl 1) 0 _ s rfl
  rw [splS_split] at hl ⊢
  rw [← hl]
  have hb0 : Below w.heap.size w (w.alloc (.cells ((splS c s).map Value.string).toArray 9)) := (Below.refl _ _).alloc (Nat.le_refl _) _
  refine ⟨_, rfl, ?_, hb0⟩
  have hll : (splS c s).length ≤ s.size + 1 := by
    have h1 := Lib.countB_le ⟨#[c]⟩ (Nat.le_refl 1) s.size s (Nat.le_refl _)
    omega
  have h := World.ownsRow_lit (e := 9) (size := 1) (base := w.heap.size) w ((splS c s).map Value.string).toArray (splS c s).length (Nat.le_refl _) (by unfold maxLen; omega) (by simp)
  have e1 : (splS c s).map Value.string = (splS c s).flatMap fStr.enc := by
    generalize splS c s = L
    induction L with
    | nil => rfl
    | cons x L ih => rw [List.map_cons, List.flatMap_cons, ih]; rfl
  rw [show ((splS c s).map Value.string).toArray.toList = (splS c s).flatMap fStr.enc from by simpa using e1] at h
  exact h
set_option maxRecDepth 100000 in
set_option maxHeartbeats 8000000 in
theorem implReadGate_any (s : ByteArray) (m : Int) (w : World) (hs : s.size ≤ 1048576) (hm : w.cell? ⟨1, 0, none⟩ = some (.int .i64 m)) (ht : RdTabs w) :
    Calls Tryz.prog 40 #[.string s] w fun e w' => GRet s e ∧ Below w.heap.size w w' := by
  have hsz := spl_sizeR 32 s
  have hrg : rgF s = if decide (3 ≤ (splS 32 s).length) && one3 ((splS 32 s).getD 1 e0) && twoX (splS 32 s) && decide (gtT (xgX (splS 32 s)) = s) then some (xgX (splS 32 s)) else none := rfl
  go_enter Tryz.func40, Tryz.ntmps40
  go_wp2_with fail
  refine (splitR_any s 32 m _ hs (cell_below ((Below.refl _ _).alloc (Nat.le_refl _) _) hm)).mono ?_
  rintro e w1 ⟨v1, rfl, hown, hb1⟩
  have hX6 : Box6 w1 w.heap.size := (Box6.new w _).below hb1 (by simp)
  have hB1 : Below w.heap.size w w1 := ((Below.refl _ _).alloc (Nat.le_refl _) _).trans (hb1.mono (by simp))
  have hg1 : w.heap.size < w1.heap.size := by have := hb1.size; simp at this; omega
  have hok : ∀ x ∈ splS 32 s, fStr.ok x := fun x hx => by have := hsz x hx; show _ ≤ _; omega
  obtain ⟨fp1, hsl, _, _⟩ := Sl.of_own (n := (splS 32 s).length) rfl hown hok
  generalize splS 32 s = X at *
  have HRG := Lib.hid hrg
  clear hown hok hrg hb1
  obtain ⟨A, cap, rfl, hle, hca⟩ := hsl.form
  by_cases h3 : 3 ≤ X.length
  · obtain ⟨b, off, rfl, _, _, ca, _⟩ := hsl.cell1 rfl (k := 1) (by omega) rfl
    have hs1 := hsz X[1] (List.getElem_mem (by omega))
    have hx1 : X.getD 1 e0 = X[1] := by rw [List.getD_eq_getElem?_getD, List.getElem?_eq_getElem (by omega)]; rfl
    have hx0 : X.getD 0 e0 = X[0] := by rw [List.getD_eq_getElem?_getD, List.getElem?_eq_getElem (by omega)]; rfl
    go_wp2_with fail
    refine (readNumbers_any X[1] m _ (by omega) (cell_below hB1 hm) (ht.below hB1)).mono ?_
    rintro e w2 ⟨v2, rfl, ⟨⟨fpy, hsy, _, _⟩, hb2⟩⟩
    have hB2 := hB1.trans (hb2.mono hB1.size)
    have hX62 := hX6.below hb2 hg1
    have hg2 : w.heap.size < w2.heap.size := Nat.lt_of_lt_of_le hg1 hb2.size
    have hsl2 := hsl.below' hb2
    have hbw1 : b < w1.heap.size := block_lt_of_cell ca
    have hbw : b < w2.heap.size := Nat.lt_of_lt_of_le hbw1 hb2.size
    have hnok : ∀ x ∈ num3 X[1], fInt.ok x := num3_ok
    obtain ⟨p, q, r, hnum⟩ := num3_abc X[1]
    rw [hnum] at hsy hnok
    have okp := hnok p (by simp)
    have okq := hnok q (by simp)
    have okr := hnok r (by simp)
    obtain ⟨A2, cap2, rfl, hle2, _⟩ := hsy.form
    obtain ⟨g2, o2, rfl, _, _, n0, _⟩ := hsy.cell1 rfl (k := 0) (by simp) rfl
    obtain ⟨g2', o2', hA2, _, _, n1, _⟩ := hsy.cell1 rfl (k := 1) (by simp) rfl
    injection hA2 with hA2; injection hA2 with ha1 ha2 _; subst ha1 ha2
    obtain ⟨g2', o2', hA2, _, _, n2, _⟩ := hsy.cell1 rfl (k := 2) (by simp) rfl
    injection hA2 with hA2; injection hA2 with ha1 ha2 _; subst ha1 ha2
    have n00 : w2.cell? ⟨g2, o2, none⟩ = some (.int .i64 p) := by simpa using n0
    have n11 : w2.cell? ⟨g2, o2 + 1, none⟩ = some (.int .i64 q) := n1
    have n22 : w2.cell? ⟨g2, o2 + 2, none⟩ = some (.int .i64 r) := n2
    obtain ⟨b', off', hA, _, _, cb, _⟩ := hsl2.cell1 rfl (k := 0) (by omega) rfl
    injection hA with hA; injection hA with ha1 ha2 _; subst ha1 ha2
    have hcA : w2.cell? ⟨b, off, none⟩ = some (.string X[0]) := by simpa using cb
    have e3 : (([p, q, r] : List Int).length : Int) = 3 := rfl
    clear n0 n1 n2 cb hsy
    have hid0 : fStr.ok X[0] := by have := hsz X[0] (List.getElem_mem (by omega)); show _ ≤ _; omega
    have hok6 : ∀ sh c, fInt.ok c → fGate.ok ⟨X[0], p, q, r, sh, c⟩ := fun sh c hc => ⟨hid0, okp, okq, okr, trivial, hc⟩
    go_wp2
    have ghcA := cell_regrown hcA
    have gn00 := cell_regrown n00
    have gn11 := cell_regrown n11
    have gn22 := cell_regrown n22
    refine wp_region_mix (C := fun w' => ∃ p : Regrown, w' = Go.Sort.grow (redrawn w2 p.d) p.os) [true, true, true, true, true, true, true, true, true, true, true, true, true, false, false] (by kernel_rfl) (by kernel_rfl) (by kernel_rfl) (fun _ _ d _ _ h => by cases d <;> exact h) (regrown_of_below (Below.drew (Below.refl _ _))) ?_
    have hS0 : Below (w2.heap.size) w2 w2.drew := Below.drew (Below.refl _ _)
    refine wpMix_pure (by kernel_rfl) (fun K hK => ?_)
    go_big_quiet_op
    refine hK _ ?_; clear hK K
    refine wpMix_pure (by kernel_rfl) (fun K hK => ?_)
    go_big_quiet_op
    refine hK _ ?_; clear hK K
    refine wpMix_pure (by kernel_rfl) (fun K hK => ?_)
    go_big_quiet_op
    refine hK _ ?_; clear hK K
    refine wpMix_pure (by kernel_rfl) (fun K hK => ?_)
    go_big_quiet_op
    refine hK _ ?_; clear hK K
    refine wpMix_pure (by kernel_rfl) (fun K hK => ?_)
    go_big_quiet_op
    refine hK _ ?_; clear hK K
    refine wpMix_pure (by kernel_rfl) (fun K hK => ?_)
    go_big_quiet_op
    refine hK _ ?_; clear hK K
    refine wpMix_pure (by kernel_rfl) (fun K hK => ?_)
    go_big_quiet_op
    refine hK _ ?_; clear hK K
    refine wpMix_pure (by kernel_rfl) (fun K hK => ?_)
    go_big_quiet_op
    refine hK _ ?_; clear hK K
    refine wpMix_pure (by kernel_rfl) (fun K hK => ?_)
    go_big_quiet_op
    refine hK _ ?_; clear hK K
    refine wpMix_pure (by kernel_rfl) (fun K hK => ?_)
    go_big_quiet_op
    refine hK _ ?_; clear hK K
    refine wpMix_pure (by kernel_rfl) (fun K hK => ?_)
    go_big_quiet_op
    refine hK _ ?_; clear hK K
    refine wpMix_pure (by kernel_rfl) (fun K hK => ?_)
    go_big_quiet_op
    refine hK _ ?_; clear hK K
    refine wpMix_pure (by kernel_rfl) (fun K hK => ?_)
    go_big_quiet_op
    refine hK _ ?_; clear hK K
    refine wpMix_act (by kernel_rfl) (fun K hK => ?_)
    go_big_op
    refine hK _ _ (regrown_of_below (by first | exact hS0.alloc hS0.size _ | exact Below.drew ((Below.refl _ _).alloc (Nat.le_refl _) _) | exact (Below.drew (Below.refl _ _)).alloc (Nat.le_refl _) _)) ?_
    clear hK K
    refine wpMix_act (by kernel_rfl) (fun K hK => ?_)
    go_big_op
    refine hK _ _ (regrown_of_below (by first | exact hS0.alloc hS0.size _ | exact Below.drew ((Below.refl _ _).alloc (Nat.le_refl _) _) | exact (Below.drew (Below.refl _ _)).alloc (Nat.le_refl _) _)) ?_
    clear hK K
    refine wpMix_nil ?_
    have hBx : Below w2.heap.size w2 (w2.alloc (.cells #[.string X[0], .int .i64 p, .int .i64 q, .int .i64 r, .bool false, .int .i64 0] 43)).drew := Below.drew ((Below.refl _ _).alloc (Nat.le_refl _) _)
    have hBV := hB2.trans (hBx.mono hB2.size)
    have hX6V := hX62.below hBx hg2
    have hpx : PGate (w2.alloc (.cells #[.string X[0], .int .i64 p, .int .i64 q, .int .i64 r, .bool false, .int .i64 0] 43)).drew w2.heap.size 0 ⟨X[0], p, q, r, false, 0⟩ := (PGate.box w2 ⟨X[0], p, q, r, false, 0⟩ _).below' (Below.drew (Below.refl _ _))
    have hzx : ∀ j, (w2.alloc (.cells #[.string X[0], .int .i64 p, .int .i64 q, .int .i64 r, .bool false, .int .i64 0] 43)).drew.frozen? ⟨w2.heap.size, j, none⟩ = false := fun j => by
      show (w2.alloc _).frozen? _ = false
      rw [World.frozen?_alloc_at _ _ _ _ rfl]
    have hslV := hsl2.below' hBx
    have hgV : w2.heap.size < (w2.alloc (.cells #[.string X[0], .int .i64 p, .int .i64 q, .int .i64 r, .bool false, .int .i64 0] 43)).drew.heap.size := by
      show _ < (w2.alloc _).heap.size
      simp
    clear hX62 hsl2 hcA n00 n11 n22 hBx ghcA gn00 gn11 gn22 hS0
    generalize (w2.alloc (.cells #[.string X[0], .int .i64 p, .int .i64 q, .int .i64 r, .bool false, .int .i64 0] 43)).drew = V at *
    have z10 := hzx 0
    have z11 := hzx 1
    have z12 := hzx 2
    have z13 := hzx 3
    have z14 := hzx 4
    have z15 := hzx 5
    clear hzx
    obtain ⟨x0, x1, x2, x3, x4, x5⟩ := id hpx
    have hX6 := hX6V
    clear hX6V
    obtain ⟨d0, d1, d2, d3, d4, d5, z0, z1, z2, z3, z4, z5⟩ := id hX6
    generalize hwq : w2.heap.size = wq at *
    have hne : w.heap.size ≠ wq := by omega
    have htV := ht.below hBV
    by_cases hl4 : X.length = 4
    · have hx3 : X.getD 3 e0 = X[3] := by rw [List.getD_eq_getElem?_getD, List.getElem?_eq_getElem (by omega)]; rfl
      have hxg : xgX X = ⟨X[0], p, q, r, true, numV X[3]⟩ := by
        unfold xgX; rw [hx0, hx1, hnum, if_pos hl4, decide_eq_true hl4, hx3]; rfl
      have HRS : Hid (rgF s = if (one3 X[1] && numOk X[3] && decide (gtT ⟨X[0], p, q, r, true, numV X[3]⟩ = s)) then some ⟨X[0], p, q, r, true, numV X[3]⟩ else none) := by
        show _ = _; rw [HRG.out, hx1, hxg]; unfold twoX; rw [hx3, decide_eq_true h3, decide_eq_true hl4]; simp
      obtain ⟨b', off', hA, _, _, c3, _⟩ := hslV.cell1 rfl (k := 3) (by omega) rfl
      injection hA with hA; injection hA with ha1 ha2 _; subst ha1 ha2
      have hs3 := hsz X[3] (List.getElem_mem (by omega))
      have e4 : ((X.length : Int) == 4) = true := by rw [beq_iff_eq]; omega
      have hbne : wq ≠ b := by omega
      have c33 := (World.cell?_setCell_far V ⟨wq, 4, none⟩ ⟨b, off + 3, none⟩ (.bool true) hbne).trans c3
      clear hxg hslV
      have hB4 : Below w.heap.size w (V.setCell ⟨wq, 4, none⟩ (.bool true)) := hBV.setCell (show w.heap.size ≤ wq by omega) _
      go_wp2_with fail
      refine (ReadDecimal_any X[3] _ (by omega) (ht.below hB4)).mono ?_
      rintro e V2 ⟨rfl, hbV⟩
      have hB5 : Below w.heap.size w V2 := hB4.trans (hbV.mono hB4.size)
      have hgq : w.heap.size < (V.setCell ⟨wq, 4, none⟩ (.bool true)).heap.size := by simp; omega
      have hX62 : Box6 V2 w.heap.size := (hX6.far hne).below hbV hgq
      have hp4 : PGate V2 wq 0 ⟨X[0], p, q, r, true, 0⟩ := (hpx.set4 true).below' hbV
      have hwqV : wq < (V.setCell ⟨wq, 4, none⟩ (.bool true)).heap.size := (hpx.set4 true).lt
      have y5 : V2.frozen? ⟨wq, 5, none⟩ = false := (hbV.frozen (p := ⟨wq, 5, none⟩) hwqV).trans ((frozen?_setCell _ _ _ _).trans z15)
      have hX63 : Box6 (V2.setCell ⟨wq, 5, none⟩ (.int .i64 (numV X[3]))) w.heap.size := hX62.far hne
      have hp5 := hp4.set5 (numV X[3])
      have hB6 : Below w.heap.size w (V2.setCell ⟨wq, 5, none⟩ (.int .i64 (numV X[3]))) := hB5.setCell (show w.heap.size ≤ wq by omega) _
      have hg3 : w.heap.size < (V2.setCell ⟨wq, 5, none⟩ (.int .i64 (numV X[3]))).heap.size := Nat.lt_of_lt_of_le hgq (by have := hbV.size; simpa using this)
      have htV2 := (ht.below hB4).below hbV
      clear x0 x1 x2 x3 x4 x5 d0 d1 d2 d3 d4 d5 z0 z1 z2 z3 z4 z5 z10 z11 z12 z13 z14 z15 c3 c33 hX6 hpx
      cases h1 : one3 X[1]
      · have HN : Hid (rgF s = none) := by show _ = _; rw [HRS.out, h1]; rfl
        obtain ⟨d0, d1, d2, d3, d4, d5, z0, z1, z2, z3, z4, z5⟩ := hX62
        obtain ⟨q0, q1, q2, q3, q4, q5, k0, k1, k2, k3, k4, k5⟩ := hX63
        have x5 := hp4.c5
        clear h1 hp4 hp5
        go_wp2
        exact bodyPost_ret (v := .tuple #[gAgg gt00, .bool false]) (by simp [gAgg, gt00, results, hit_cell, q0, q1, q2, q3, q4, q5, Tryz.results40, go_sem]) rfl ⟨GRet.no HN.out, by (repeat (refine Below.setCell ?_ (by first | exact Nat.le_refl _ | (show _ ≤ _; omega)) _)); assumption⟩
      · cases hn : numOk X[3]
        · have HN : Hid (rgF s = none) := by show _ = _; rw [HRS.out, h1, hn]; rfl
          obtain ⟨d0, d1, d2, d3, d4, d5, z0, z1, z2, z3, z4, z5⟩ := hX62
          obtain ⟨q0, q1, q2, q3, q4, q5, k0, k1, k2, k3, k4, k5⟩ := hX63
          have x5 := hp4.c5
          clear h1 hn hp4 hp5
          go_wp2
          exact bodyPost_ret (v := .tuple #[gAgg gt00, .bool false]) (by simp [gAgg, gt00, results, hit_cell, q0, q1, q2, q3, q4, q5, Tryz.results40, go_sem]) rfl ⟨GRet.no HN.out, by (repeat (refine Below.setCell ?_ (by first | exact Nat.le_refl _ | (show _ ≤ _; omega)) _)); assumption⟩
        · have HNO : Hid (gtT ⟨X[0], p, q, r, true, numV X[3]⟩ ≠ s → rgF s = none) := fun h => by rw [HRS.out, h1, hn, decide_eq_false h]; rfl
          have HYES : Hid (gtT ⟨X[0], p, q, r, true, numV X[3]⟩ = s → rgF s = some ⟨X[0], p, q, r, true, numV X[3]⟩) := fun h => by rw [HRS.out, h1, hn, decide_eq_true h]; rfl
          obtain ⟨x0, x1, x2, x3, x4, x5⟩ := id hp4
          have htT := (ht.below hB6).tab
          clear h1 hn
          go_wp2_with fail
          generalize V2.setCell ⟨wq, 5, none⟩ (.int .i64 (numV X[3])) = V3 at *
          refine (GateText_all ⟨X[0], p, q, r, true, numV X[3]⟩ _ (hok6 true _ (numV_ok _)) htT).mono ?_
          rintro e U ⟨rfl, hbU⟩
          have hBU := hB6.trans (hbU.mono hB6.size)
          have hX6U := hX63.below hbU hg3
          have hp6U := hp5.below' hbU
          clear x0 x1 x2 x3 x4 x5
          obtain ⟨d0, d1, d2, d3, d4, d5, z0, z1, z2, z3, z4, z5⟩ := hX6U
          obtain ⟨x0, x1, x2, x3, x4, x5⟩ := hp6U
          generalize gtT ⟨X[0], p, q, r, true, numV X[3]⟩ = T at *
          by_cases hT : T = s
          · have HY := Lib.hid (HYES.out hT)
            have e9 : (T.toList == s.toList) = true := by rw [hT, beq_iff_eq]
            have e10 : (T.toList != s.toList) = false := by unfold bne; rw [e9]; rfl
            clear hT
            go_wp2
            exact bodyPost_ret (v := .tuple #[gAgg ⟨X[0], p, q, r, true, numV X[3]⟩, .bool true]) (by simp [gAgg, gt00, results, hit_cell, d0, d1, d2, d3, d4, d5, Tryz.results40, go_sem]) rfl ⟨GRet.yes HY.out, by (repeat (refine Below.setCell ?_ (by first | exact Nat.le_refl _ | (show _ ≤ _; omega)) _)); assumption⟩
          · have HN := Lib.hid (HNO.out hT)
            have e9 : (T.toList == s.toList) = false := by
              rw [beq_eq_false_iff_ne]; exact fun e => hT (bytes_toList_inj e)
            have e10 : (T.toList != s.toList) = true := by unfold bne; rw [e9]; rfl
            clear hT
            go_wp2
            exact bodyPost_ret (v := .tuple #[gAgg gt00, .bool false]) (by simp [gAgg, gt00, results, hit_cell, d0, d1, d2, d3, d4, d5, Tryz.results40, go_sem]) rfl ⟨GRet.no HN.out, by (repeat (refine Below.setCell ?_ (by first | exact Nat.le_refl _ | (show _ ≤ _; omega)) _)); assumption⟩
    · have hxg : xgX X = ⟨X[0], p, q, r, false, 0⟩ := by
        unfold xgX; rw [hx0, hx1, hnum, if_neg hl4, decide_eq_false hl4]; rfl
      have HRS : Hid (rgF s = if (one3 X[1] && decide (gtT ⟨X[0], p, q, r, false, 0⟩ = s)) then some ⟨X[0], p, q, r, false, 0⟩ else none) := by
        show _ = _; rw [HRG.out, hx1, hxg]; unfold twoX; rw [decide_eq_true h3, decide_eq_false hl4]; simp
      have e4 : ((X.length : Int) == 4) = false := by rw [beq_eq_false_iff_ne]; omega
      clear hxg hslV
      cases h1 : one3 X[1]
      · have HN : Hid (rgF s = none) := by show _ = _; rw [HRS.out, h1]; rfl
        clear h1 hpx
        go_wp2
        exact bodyPost_ret (v := .tuple #[gAgg gt00, .bool false]) (by simp [gAgg, gt00, results, hit_cell, d0, d1, d2, d3, d4, d5, Tryz.results40, go_sem]) rfl ⟨GRet.no HN.out, by (repeat (refine Below.setCell ?_ (by first | exact Nat.le_refl _ | (show _ ≤ _; omega)) _)); assumption⟩
      · have HNO : Hid (gtT ⟨X[0], p, q, r, false, 0⟩ ≠ s → rgF s = none) := fun h => by rw [HRS.out, h1, decide_eq_false h]; rfl
        have HYES : Hid (gtT ⟨X[0], p, q, r, false, 0⟩ = s → rgF s = some ⟨X[0], p, q, r, false, 0⟩) := fun h => by rw [HRS.out, h1, decide_eq_true h]; rfl
        have htT := htV.tab
        clear h1
        go_wp2_with fail
        refine (GateText_all ⟨X[0], p, q, r, false, 0⟩ _ (hok6 false 0 (by show _ ∧ _; simp)) htT).mono ?_
        rintro e U ⟨rfl, hbU⟩
        have hBU := hBV.trans (hbU.mono hBV.size)
        have hX6U := hX6.below hbU (by omega)
        have hp6U := hpx.below' hbU
        clear x0 x1 x2 x3 x4 x5
        obtain ⟨d0, d1, d2, d3, d4, d5, z0, z1, z2, z3, z4, z5⟩ := hX6U
        obtain ⟨x0, x1, x2, x3, x4, x5⟩ := hp6U
        generalize gtT ⟨X[0], p, q, r, false, 0⟩ = T at *
        by_cases hT : T = s
        · have HY := Lib.hid (HYES.out hT)
          have e9 : (T.toList == s.toList) = true := by rw [hT, beq_iff_eq]
          have e10 : (T.toList != s.toList) = false := by unfold bne; rw [e9]; rfl
          clear hT
          go_wp2
          exact bodyPost_ret (v := .tuple #[gAgg ⟨X[0], p, q, r, false, 0⟩, .bool true]) (by simp [gAgg, gt00, results, hit_cell, d0, d1, d2, d3, d4, d5, Tryz.results40, go_sem]) rfl ⟨GRet.yes HY.out, by (repeat (refine Below.setCell ?_ (by first | exact Nat.le_refl _ | (show _ ≤ _; omega)) _)); assumption⟩
        · have HN := Lib.hid (HNO.out hT)
          have e9 : (T.toList == s.toList) = false := by
            rw [beq_eq_false_iff_ne]; exact fun e => hT (bytes_toList_inj e)
          have e10 : (T.toList != s.toList) = true := by unfold bne; rw [e9]; rfl
          clear hT
          go_wp2
          exact bodyPost_ret (v := .tuple #[gAgg gt00, .bool false]) (by simp [gAgg, gt00, results, hit_cell, d0, d1, d2, d3, d4, d5, Tryz.results40, go_sem]) rfl ⟨GRet.no HN.out, by (repeat (refine Below.setCell ?_ (by first | exact Nat.le_refl _ | (show _ ≤ _; omega)) _)); assumption⟩
  · have HN : Hid (rgF s = none) := by
      show _ = _
      rw [HRG.out, decide_eq_false h3]; rfl
    obtain ⟨d0, d1, d2, d3, d4, d5, z0, z1, z2, z3, z4, z5⟩ := hX6
    go_wp2
    exact bodyPost_ret (v := .tuple #[gAgg gt00, .bool false]) (by simp [gAgg, gt00, results, hit_cell, d0, d1, d2, d3, d4, d5, Tryz.results40, go_sem]) rfl ⟨GRet.no HN.out, by (repeat (refine Below.setCell ?_ (by exact Nat.le_refl _) _)); assumption⟩

end Go.Proofs.YtmhefhapighloaaGreatDoor

namespace Go.Proofs.YtmhefhapighloaaGreatDoor
open Go.RowKit
set_option linter.unusedVariables false

theorem infoGateG : (Tryz.prog.info? 43).map (fun i => (i.zero, i.size, i.bytes)) = some (some (.agg #[.string ⟨#[]⟩, .int .i64 0, .int .i64 0, .int .i64 0, .bool false, .int .i64 0]), 6, 56) := by kernel_rfl
def gateK : ByteArray := ⟨#[103, 97, 116, 101]⟩
def gbE (b : DBlock) : Int := if b.kind = gateK then (match rgF b.text with | none => 9 | some x => if x.id = b.name then 0 else 6) else 0
def gbX (b : DBlock) : Option DGate := if b.kind = gateK then rgF b.text else none
def gbBad (xs : List DBlock) : Option DBlock := xs.find? (fun b => decide (gbE b ≠ 0))
def gbC (xs : List DBlock) : Int := if blocksB xs then (match gbBad xs with | some b => gbE b | none => if 8 < (xs.filterMap gbX).length then 5 else 0) else 1
def gbF (xs : List DBlock) : List DGate := if gbC xs = 0 then xs.filterMap gbX else []
def gbFine (xs : List DBlock) (k : Nat) : Prop := ∀ x ∈ xs.take k, gbE x = 0
theorem gbFine_step {xs : List DBlock} {k : Nat} (h : gbFine xs k) (hk : k < xs.length) (h1 : gbE xs[k] = 0) : gbFine xs (k + 1) := by
  intro x hx
  rw [List.take_succ_eq_append_getElem hk, List.mem_append, List.mem_singleton] at hx
  rcases hx with hx | rfl
  · exact h x hx
  · exact h1
theorem gbBad_some {xs : List DBlock} {k : Nat} (h : gbFine xs k) (hk : k < xs.length) (h1 : gbE xs[k] ≠ 0) : gbBad xs = some xs[k] := by
  unfold gbBad
  have e : xs = xs.take k ++ (xs[k] :: xs.drop (k + 1)) := by rw [← List.drop_eq_getElem_cons hk, List.take_append_drop]
  have h2 : (xs.take k).find? (fun b => decide (gbE b ≠ 0)) = none := by
    rw [List.find?_eq_none]; intro x hx; simp [h x hx]
  have h3 : xs.find? (fun b => decide (gbE b ≠ 0)) = (xs.take k ++ (xs[k] :: xs.drop (k + 1))).find? (fun b => decide (gbE b ≠ 0)) := by rw [← e]
  rw [h3, List.find?_append, h2, List.find?_cons_of_pos (by simp [h1])]; rfl
theorem gbBad_none {xs : List DBlock} (h : gbFine xs xs.length) : gbBad xs = none := by
  unfold gbBad; rw [List.find?_eq_none]; intro x hx; simp [h x (by rw [List.take_length]; exact hx)]
theorem gbC_bad {xs : List DBlock} {k : Nat} {c : Int} (hv : blocksB xs = true) (h : gbFine xs k) (hk : k < xs.length) (h1 : gbE xs[k] = c) (hc : c ≠ 0) : gbC xs = c ∧ gbF xs = [] := by
  have h2 : gbC xs = c := by unfold gbC; rw [if_pos hv, gbBad_some h hk (by rw [h1]; exact hc)]; exact h1
  exact ⟨h2, by unfold gbF; rw [if_neg (by rw [h2]; exact hc)]⟩
theorem gbC_inv {xs : List DBlock} (hv : blocksB xs = false) : gbC xs = 1 ∧ gbF xs = [] := by
  have h2 : gbC xs = 1 := by unfold gbC; rw [hv]; rfl
  exact ⟨h2, by unfold gbF; rw [if_neg (by rw [h2]; decide)]⟩
theorem gbC_full {xs : List DBlock} (hv : blocksB xs = true) (h : gbFine xs xs.length) (hl : 8 < (xs.filterMap gbX).length) : gbC xs = 5 ∧ gbF xs = [] := by
  have h2 : gbC xs = 5 := by unfold gbC; rw [if_pos hv, gbBad_none h]; exact if_pos hl
  exact ⟨h2, by unfold gbF; rw [if_neg (by rw [h2]; decide)]⟩
theorem gbC_ok {xs : List DBlock} (hv : blocksB xs = true) (h : gbFine xs xs.length) (hl : ¬ 8 < (xs.filterMap gbX).length) : gbC xs = 0 ∧ gbF xs = xs.filterMap gbX := by
  have h2 : gbC xs = 0 := by unfold gbC; rw [if_pos hv, gbBad_none h]; exact if_neg hl
  exact ⟨h2, by unfold gbF; rw [if_pos h2]⟩
theorem gbRows_step {xs : List DBlock} {k : Nat} (hk : k < xs.length) : (xs.take (k + 1)).filterMap gbX = (xs.take k).filterMap gbX ++ (gbX xs[k]).toList := by
  rw [List.take_succ_eq_append_getElem hk, List.filterMap_append]
  have h : List.filterMap gbX [xs[k]] = (gbX xs[k]).toList := by
    rw [List.filterMap_cons]; cases gbX xs[k] <;> rfl
  rw [h]
theorem gbRows_len (xs : List DBlock) (k : Nat) : ((xs.take k).filterMap gbX).length ≤ xs.length :=
  Nat.le_trans (List.length_filterMap_le ..) (by rw [List.length_take]; omega)
theorem gbF_len {xs : List DBlock} (h : xs.length ≤ 1048576) : (gbF xs).length ≤ 100000000000 := by
  unfold gbF; split
  · have := List.length_filterMap_le gbX xs; omega
  · simp
theorem rgF_gate {s : ByteArray} {x : DGate} (h : rgF s = some x) : gateB x = true := by
  rw [rg_spec] at h
  split at h
  · rename_i hs
    injection h with h; subst h
    unfold specB at hs
    simp only [Bool.and_eq_true] at hs
    exact hs.2
  · cases h
theorem gateB_ok {x : DGate} (h : gateB x = true) : fGate.ok x := by
  obtain ⟨h1, h2, h3, h4, h5⟩ := gateB_parts h
  exact ⟨by show x.id.size ≤ 9223372036854775807; omega, by show _ ∧ _; omega, by show _ ∧ _; omega, by show _ ∧ _; omega, trivial, by show _ ∧ _; omega⟩
theorem gbRows_ok (xs : List DBlock) (k : Nat) : ∀ x ∈ (xs.take k).filterMap gbX, fGate.ok x := by
  intro x hx
  obtain ⟨y, _, hy⟩ := List.mem_filterMap.1 hx
  unfold gbX at hy
  split at hy
  · exact gateB_ok (rgF_gate hy)
  · cases hy
theorem gb_text {b : DBlock} (h : blockB b = true) : b.text.size ≤ 400 := by
  unfold blockB at h
  simp only [Bool.and_eq_true, decide_eq_true_eq] at h
  first | exact h.2 | exact h.1.2 | exact h.1.1.2 | exact h.1.1.1
theorem gbE_other {b : DBlock} (h : ¬ b.kind = gateK) : gbE b = 0 ∧ gbX b = none := by unfold gbE gbX; rw [if_neg h, if_neg h]; exact ⟨rfl, rfl⟩
theorem gbE_none {b : DBlock} (h : b.kind = gateK) (hr : rgF b.text = none) : gbE b = 9 := by unfold gbE; rw [if_pos h, hr]
theorem gbE_other_id {b : DBlock} {x : DGate} (h : b.kind = gateK) (hr : rgF b.text = some x) (hi : ¬ x.id = b.name) : gbE b = 6 := by unfold gbE; rw [if_pos h, hr]; exact if_neg hi
theorem gbE_good {b : DBlock} {x : DGate} (h : b.kind = gateK) (hr : rgF b.text = some x) (hi : x.id = b.name) : gbE b = 0 ∧ gbX b = some x := by unfold gbE gbX; rw [if_pos h, if_pos h, hr]; exact ⟨if_pos hi, rfl⟩
set_option maxRecDepth 100000 in
set_option maxHeartbeats 8000000 in
theorem implGatesOfBlocks_any (v : Value) (xs : List DBlock) (fp : List Nat) (m : Int) (w : World) (hx : Sl fBlock.cod w v xs fp) (hm : w.cell? ⟨1, 0, none⟩ = some (.int .i64 m)) (ht : RdTabs w) :
    Calls Tryz.prog 16 #[v] w fun e w' => NewR2 fGate.cod w (gbF xs) (gbC xs) e w' := by
  obtain ⟨A, cap, rfl, hlen, hcap⟩ := hx.form
  obtain ⟨i0, hi, hz0, hz1, hz2⟩ := info_parts infoGateG
  have hlt0 := hx.lt
  go_enter Tryz.func16, Tryz.ntmps16
  go_wp2_with fail
  refine (validBlocks_any _ xs fp _ hx).mono ?_
  rintro e w1 ⟨rfl, hb1⟩
  cases h0 : blocksB xs
  · obtain ⟨hc, hf⟩ := gbC_inv h0
    go_wp2
    go_ret2
    exact ⟨_, by rw [hc]; rfl, by rw [hf]; exact New.nil hb1⟩
  · have HV := Lib.hid h0
    have hlen8 := blocksB_len h0
    clear h0
    go_wp2
    go_loopw [4, 14] (fun v i wr => ∃ k : Nat, k ≤ xs.length ∧ i = .int .i64 k ∧ Hid (gbFine xs k) ∧ Own fGate wr w.heap.size 43 v ((xs.take k).filterMap gbX) ∧ Below w.heap.size w wr) (fun _ i _ => xs.length - (intOf i).toNat)
    case atStart => exact ⟨0, Nat.zero_le _, rfl, (fun x hx => by simp at hx), Own.nil fGate _ _ _, hb1⟩
    case round =>
      obtain ⟨k, hk, rfl, HF, ho, hb⟩ := hrel
      have hrl := gbRows_len xs k
      by_cases hlt : k < xs.length
      · obtain ⟨b, off, rfl, hbm0, hok, hp⟩ := PBlock.elem (hx.below' hb) hlt
        have hbm := hlt0 b hbm0
        have htx := gb_text (blocksB_one HV.out hlt)
        have hst := gbRows_step hlt
        obtain ⟨c0, c1, c2⟩ := id hp
        have hB1 : Below w.heap.size w (wr.alloc (.cells #[.string xs[k].kind, .string xs[k].name, .string xs[k].text] 57)) := hb.alloc hb.size _
        by_cases hg : xs[k].kind = gateK
        · have e1 : (xs[k].kind.toList == [103, 97, 116, 101]) = true := by rw [hg, beq_iff_eq]; unfold gateK; simp [ByteArray.toList_eq]
          have e2 : (xs[k].kind.toList != [103, 97, 116, 101]) = false := by unfold bne; rw [e1]; rfl
          have hg1 : xs[k].kind = gateK := hg
          have HG := Lib.hid hg1
          clear hg1 hg
          go_wp2_with fail
          refine (implReadGate_any xs[k].text m _ (by omega) (cell_below hB1 hm) (ht.below hB1)).mono ?_
          rintro e w3 ⟨he, hb3⟩
          unfold GRet gAgg at he
          subst he
          have hB3 := hB1.trans (hb3.mono hB1.size)
          have ho3 := Own.below (E := fGate) (World.ownsRow.alloc ho _) hb3
          cases hr : rgF xs[k].text with
          | none =>
            obtain ⟨hc, hf⟩ := gbC_bad HV.out HF.out hlt (gbE_none HG.out hr) (by decide)
            rw [show ((none : Option DGate).getD gt00) = gt00 from rfl, show (none : Option DGate).isSome = false from rfl]
            have hBn : Below w.heap.size w (w3.alloc (.cells #[.string gt00.id, .int .i64 gt00.shut, .int .i64 gt00.open_, .int .i64 gt00.hold, .bool gt00.shuts, .int .i64 gt00.calm] 43)) := hB3.alloc hB3.size _
            clear ho ho3 hr
            go_wp2
            go_ret2
            exact ⟨_, by rw [hc]; rfl, by rw [hf]; exact New.nil hBn⟩
          | some x =>
            rw [show ((some x : Option DGate).getD gt00) = x from rfl, show (some x : Option DGate).isSome = true from rfl]
            have hbx := PGate.box w3 x 43
            have hBa : Below w.heap.size w (w3.alloc (.cells #[.string x.id, .int .i64 x.shut, .int .i64 x.open_, .int .i64 x.hold, .bool x.shuts, .int .i64 x.calm] 43)) := hB3.alloc hB3.size _
            have hoA : Own fGate (w3.alloc (.cells #[.string x.id, .int .i64 x.shut, .int .i64 x.open_, .int .i64 x.hold, .bool x.shuts, .int .i64 x.calm] 43)) w.heap.size 43 u4 ((xs.take k).filterMap gbX) := World.ownsRow.alloc ho3 _
            have hpbK : PBlock (w3.alloc (.cells #[.string x.id, .int .i64 x.shut, .int .i64 x.open_, .int .i64 x.hold, .bool x.shuts, .int .i64 x.calm] 43)) wr.heap.size 0 xs[k] := ((PBlock.box wr xs[k] 57).below' hb3).below' ((Below.refl _ _).alloc (Nat.le_refl _) _)
            obtain ⟨k0, k1, k2⟩ := hpbK
            by_cases hid : x.id = xs[k].name
            · have e3 : (x.id.toList == xs[k].name.toList) = true := by rw [hid, beq_iff_eq]
              have e4 : (x.id.toList != xs[k].name.toList) = false := by unfold bne; rw [e3]; rfl
              obtain ⟨hE, hX⟩ := gbE_good HG.out hr hid
              rw [hX] at hst
              have HST : Hid ((xs.take (k + 1)).filterMap gbX = ((xs.take k).filterMap gbX) ++ [x]) := hst
              have HF2 : Hid (gbFine xs (k + 1)) := gbFine_step HF.out hlt hE
              clear hE hX hr hst hid
              have hs2 := hBa.size
              have ho3 : (w3.alloc (.cells #[.string x.id, .int .i64 x.shut, .int .i64 x.open_, .int .i64 x.hold, .bool x.shuts, .int .i64 x.calm] 43)).ownsRow w.heap.size 43 6 u4 ((xs.take k).filterMap gbX).length (((xs.take k).filterMap gbX).flatMap fGate.enc) := hoA
              go_wp2_with (at_builtin; refine wpList_append_oneA (w3.heap.size + 1) (by simp) rfl _ _ 35 rfl w.heap.size 43 i0 (.agg #[.string ⟨#[]⟩, .int .i64 0, .int .i64 0, .int .i64 0, .bool false, .int .i64 0]) 6 56 Tryz.underlying35 hi hz0 hz1 hz2 rfl (by decide) u4 ((xs.take k).filterMap gbX).length _ rfl ho3 [.string x.id, .int .i64 x.shut, .int .i64 x.open_, .int .i64 x.hold, .bool x.shuts, .int .i64 x.calm] rfl (by intro u hu; simp at hu; rcases hu with rfl | rfl | rfl | rfl | rfl | rfl <;> rfl) rfl (by omega) (by decide) hs2 ?_)
              intro v' u hown hbu _ _
              have hbu' := hBa.trans hbu
              have ho5 : Own fGate u w.heap.size 43 v' ((xs.take (k + 1)).filterMap gbX) := by rw [HST.out]; exact Own.push x (by omega) hown
              clear hown
              go_wp2
              go_roundw
              case rel => exact ⟨k + 1, by omega, by go_num, HF2, ho5, hbu'⟩
              case measure => simp [intOf]; omega
            · have e3 : (x.id.toList == xs[k].name.toList) = false := by rw [beq_eq_false_iff_ne]; exact fun e => hid (bytes_toList_inj e)
              have e4 : (x.id.toList != xs[k].name.toList) = true := by unfold bne; rw [e3]; rfl
              obtain ⟨hc, hf⟩ := gbC_bad HV.out HF.out hlt (gbE_other_id HG.out hr hid) (by decide)
              clear hr hst hid
              clear ho ho3 hoA
              go_wp2
              go_ret2
              exact ⟨_, by rw [hc]; rfl, by rw [hf]; exact New.nil hBa⟩
        · have e1 : (xs[k].kind.toList == [103, 97, 116, 101]) = false := by
            rw [beq_eq_false_iff_ne]; intro e
            exact hg (bytes_toList_inj (e.trans (by unfold gateK; simp [ByteArray.toList_eq])))
          have e2 : (xs[k].kind.toList != [103, 97, 116, 101]) = true := by unfold bne; rw [e1]; rfl
          obtain ⟨hE, hX⟩ := gbE_other hg
          rw [hX] at hst
          have HF2 : Hid (gbFine xs (k + 1)) := gbFine_step HF.out hlt hE
          have ho2 : Own fGate (wr.alloc (.cells #[.string xs[k].kind, .string xs[k].name, .string xs[k].text] 57)) w.heap.size 43 u4 ((xs.take (k + 1)).filterMap gbX) := by rw [hst]; rw [show (none : Option DGate).toList = [] from rfl, List.append_nil]; exact World.ownsRow.alloc ho _
          clear hE hX hst hg ho
          go_wp2
          go_roundw
          case rel => exact ⟨k + 1, by omega, by go_num, HF2, ho2, hB1⟩
          case measure => simp [intOf]; omega
      · obtain rfl : k = xs.length := by omega
        have hoks := gbRows_ok xs xs.length
        obtain ⟨A9, cap9, rfl⟩ := ho.form
        rw [List.take_length] at ho hoks hrl ⊢
        by_cases hq : 8 < (xs.filterMap gbX).length
        · obtain ⟨hc, hf⟩ := gbC_full HV.out HF.out hq
          clear ho
          go_wp2
          go_ret2
          exact ⟨_, by rw [hc]; rfl, by rw [hf]; exact New.nil hb⟩
        · obtain ⟨hc, hf⟩ := gbC_ok HV.out HF.out hq
          have hnew := ho.new hb hoks
          clear ho
          go_wp2
          go_ret2
          exact ⟨_, by rw [hc]; rfl, by rw [hf]; exact hnew⟩

end Go.Proofs.YtmhefhapighloaaGreatDoor

namespace Go.Proofs.YtmhefhapighloaaGreatDoor
open Go.RowKit
set_option linter.unusedVariables false

theorem infoBlockG : (Tryz.prog.info? 57).map (fun i => (i.zero, i.size, i.bytes)) = some (some (.agg #[.string ⟨#[]⟩, .string ⟨#[]⟩, .string ⟨#[]⟩]), 3, 48) := by kernel_rfl
def bgB (x : DGate) : DBlock := ⟨⟨#[103, 97, 116, 101]⟩, x.id, gtS x⟩
def bgF (xs : List DGate) : List DBlock := if gatesB xs then xs.map bgB else []
def bgC (xs : List DGate) : Int := if gatesB xs then 0 else 1
theorem bgF_len {xs : List DGate} (h : xs.length ≤ 1048576) : (bgF xs).length ≤ 100000000000 := by
  unfold bgF; split
  · rw [List.length_map]; omega
  · simp
theorem bgB_ok {x : DGate} (h : gateB x = true) : fBlock.ok (bgB x) := by
  have h1 := (gateB_parts h).1
  have h2 := gtS_size h
  exact ⟨by show 4 ≤ _; decide, by show x.id.size ≤ 9223372036854775807; omega, by show (gtS x).size ≤ 9223372036854775807; omega⟩
theorem bg_oks {xs : List DGate} (h : gatesB xs = true) (k : Nat) : ∀ y ∈ (xs.take k).map bgB, fBlock.ok y := by
  intro y hy
  obtain ⟨x, hx, rfl⟩ := List.mem_map.1 hy
  obtain ⟨m, hm, rfl⟩ := List.getElem_of_mem (List.mem_of_mem_take hx)
  exact bgB_ok (gatesB_one h hm)
theorem PGate.kept {w w' : World} {g : Nat} {x : DGate} (h : PGate w g 0 x) (hb : ∀ j, w'.cell? ⟨g, j, none⟩ = w.cell? ⟨g, j, none⟩) : PGate w' g 0 x :=
  ⟨(hb _).trans h.c0, (hb _).trans h.c1, (hb _).trans h.c2, (hb _).trans h.c3, (hb _).trans h.c4, (hb _).trans h.c5⟩
set_option maxRecDepth 100000 in
set_option maxHeartbeats 4000000 in
theorem implBlocksOfGates_any (v : Value) (xs : List DGate) (fp : List Nat) (w : World) (hx : Sl fGate.cod w v xs fp) (hl : xs.length ≤ 1048576) (ht : Tab10 w) :
    Calls Tryz.prog 15 #[v] w fun e w' => NewR2 fBlock.cod w (bgF xs) (bgC xs) e w' := by
  obtain ⟨A, cap, rfl, hle, hca⟩ := hx.form
  obtain ⟨i0, hi, hz0, hz1, hz2⟩ := info_parts infoBlockG
  go_enter Tryz.func15, Tryz.ntmps15
  go_wp2_with fail
  refine (validGates_any _ xs fp _ hx).mono ?_
  rintro e w1 ⟨rfl, hb1⟩
  cases h0 : gatesB xs
  · go_wp2
    go_ret2
    exact ⟨_, by rw [bgC, h0]; rfl, by rw [bgF, h0]; exact New.nil hb1⟩
  · have HC := Lib.hid (show bgC xs = 0 from by rw [bgC, h0]; rfl)
    have HF := Lib.hid (show bgF xs = xs.map bgB from by rw [bgF, h0]; rfl)
    have H0 := Lib.hid h0
    clear h0
    go_wp2
    go_loopw [4, 12] (fun v i wr => ∃ k : Nat, k ≤ xs.length ∧ i = .int .i64 k ∧ Own fBlock wr w.heap.size 57 v ((xs.take k).map bgB) ∧ Below w.heap.size w wr) (fun _ i _ => xs.length - (intOf i).toNat)
    case atStart => exact ⟨0, Nat.zero_le _, rfl, Own.nil fBlock _ _ _, hb1⟩
    case round =>
      obtain ⟨k, hk, rfl, ho, hb⟩ := hrel
      by_cases hlt : k < xs.length
      · obtain ⟨b, off, rfl, _, hok, hp⟩ := PGate.elem (hx.below' hb) hlt
        have hv := gatesB_one H0.out hlt
        have HST : Hid ((xs.take (k + 1)).map bgB = (xs.take k).map bgB ++ [bgB xs[k]]) := take_map_step bgB hlt
        obtain ⟨c0, c1, c2, c3, c4, c5⟩ := id hp
        have hrow : u4.ownBlock ≠ some wr.heap.size := fun e => by have := (World.ownsRow.lt ho _ e).2; omega
        go_wp2
        refine at_world (fun W => Below w.heap.size w W ∧ PGate W wr.heap.size 0 xs[k] ∧ Own fBlock W w.heap.size 57 u4 ((xs.take k).map bgB)) ⟨hb.alloc hb.size _, PGate.box wr xs[k] _, World.ownsRow.alloc ho _⟩ ?_
        clear c0 c1 c2 c3 c4 c5 hp ho
        generalize wr.heap.size = wq at *
        rintro W ⟨hBW, hpW, hoW⟩
        have hbW := hBW.size
        have hrowne : some wq = u4.ownBlock → False := fun e => hrow e.symm
        have gk0 : ∀ p : KeptW (w.heap.size) W (fun N => PGate N wq 0 xs[k]), p.v.cell? ⟨wq, 0, none⟩ = some (.string xs[k].id) := fun p => p.x.c0
        have gk1 : ∀ p : KeptW (w.heap.size) W (fun N => PGate N wq 0 xs[k]), p.v.cell? ⟨wq, 1, none⟩ = some (.int .i64 xs[k].shut) := fun p => p.x.c1
        have gk2 : ∀ p : KeptW (w.heap.size) W (fun N => PGate N wq 0 xs[k]), p.v.cell? ⟨wq, 2, none⟩ = some (.int .i64 xs[k].open_) := fun p => p.x.c2
        have gk3 : ∀ p : KeptW (w.heap.size) W (fun N => PGate N wq 0 xs[k]), p.v.cell? ⟨wq, 3, none⟩ = some (.int .i64 xs[k].hold) := fun p => p.x.c3
        have gk4 : ∀ p : KeptW (w.heap.size) W (fun N => PGate N wq 0 xs[k]), p.v.cell? ⟨wq, 4, none⟩ = some (.bool xs[k].shuts) := fun p => p.x.c4
        have gk5 : ∀ p : KeptW (w.heap.size) W (fun N => PGate N wq 0 xs[k]), p.v.cell? ⟨wq, 5, none⟩ = some (.int .i64 xs[k].calm) := fun p => p.x.c5
        haveI hKne : Nonempty (KeptW (w.heap.size) W (fun N => PGate N wq 0 xs[k])) := ⟨⟨_, Below.drew (Below.refl _ _), (hpW.below' (Below.drew (Below.refl _ _)))⟩⟩
        refine wp_region_mix (C := fun w' => ∃ p : KeptW (w.heap.size) W (fun N => PGate N wq 0 xs[k]), w' = p.v) [true, true, true, true, false, true, false, false, true] (by kernel_rfl) (by kernel_rfl) (by kernel_rfl) (fun _ _ d _ _ h => by cases d <;> exact h) ⟨⟨_, Below.drew (Below.refl _ _), (hpW.below' (Below.drew (Below.refl _ _)))⟩, rfl⟩ ?_
        have hS0 : Below (w.heap.size) W W.drew := Below.drew (Below.refl _ _)
        refine wpMix_pure (by kernel_rfl) (fun K hK => ?_)
        go_big_quiet_op
        refine hK _ ?_; clear hK K
        refine wpMix_pure (by kernel_rfl) (fun K hK => ?_)
        go_big_quiet_op
        refine hK _ ?_; clear hK K
        refine wpMix_pure (by kernel_rfl) (fun K hK => ?_)
        go_big_quiet_op
        refine hK _ ?_; clear hK K
        refine wpMix_pure (by kernel_rfl) (fun K hK => ?_)
        go_big_quiet_op
        refine hK _ ?_; clear hK K
        refine wpMix_act (by kernel_rfl) (fun K hK => ?_)
        go_big_op
        refine (GateText_any xs[k] _ hok hv (ht.below (hBW.trans hS0))).mono ?_
        rintro e wr1 ⟨rfl, hbr1⟩
        have hbr1S : Below (w.heap.size) W wr1 := hS0.trans (hbr1.mono (Nat.le_trans hbW hS0.size))
        refine hK _ _ ⟨⟨_, hbr1S, (((hpW.below' (Below.drew (Below.refl _ _)))).below' hbr1)⟩, rfl⟩ ?_
        clear hK K
        refine wpMix_pure (by kernel_rfl) (fun K hK => ?_)
        go_big_quiet_op
        refine hK _ ?_; clear hK K
        refine wpMix_act (by kernel_rfl) (fun K hK => ?_)
        go_big_op
        refine hK _ _ ⟨⟨_, (hbr1S.alloc (Nat.le_trans hbW hbr1S.size) _), (((((hpW.below' (Below.drew (Below.refl _ _)))).below' hbr1)).below' ((Below.refl _ _).alloc (Nat.le_refl _) _))⟩, rfl⟩ ?_
        clear hK K
        refine mix_world (fun N => Below (w.heap.size) W N ∧ PGate N wq 0 xs[k] ∧ (N.ownsRow w.heap.size 57 3 u4 ((xs.take k).map bgB).length (((xs.take k).map bgB).flatMap fBlock.enc) ∧ N.cell? ⟨wr1.heap.size, 0, none⟩ = some (.string ⟨#[103, 97, 116, 101]⟩) ∧ N.cell? ⟨wr1.heap.size, 1, none⟩ = some (.string xs[k].id) ∧ N.cell? ⟨wr1.heap.size, 2, none⟩ = some (.string (gtS xs[k])))) ⟨hbr1S.alloc (Nat.le_trans hbW hbr1S.size) _, ⟨((hpW.below' (Below.drew (Below.refl _ _))).below' hbr1).below' ((Below.refl _ _).alloc (Nat.le_refl _) _), by refine ⟨World.ownsRow.alloc ((hoW.below (Below.drew (Below.refl _ _))).below hbr1) _, ?_, ?_, ?_⟩ <;> simp⟩⟩ ?_
        rintro wr2 ⟨hbr2S, hbr2F⟩
        refine wpMix_act (by kernel_rfl) (fun K hK => ?_)
        obtain ⟨hown9, q0, q1, q2⟩ := hbr2F.2
        refine wp_append_at1 _ _ _ 24 rfl w.heap.size 57 i0 (.agg #[.string ⟨#[]⟩, .string ⟨#[]⟩, .string ⟨#[]⟩]) 3 48 Tryz.underlying24 hi hz0 hz1 hz2 rfl (by decide) u4 ((xs.take k).map bgB).length _ rfl hown9 [.string ⟨#[103, 97, 116, 101]⟩, .string xs[k].id, .string (gtS xs[k])] rfl (by intro u hu; simp at hu; rcases hu with rfl | rfl | rfl <;> rfl) wr1.heap.size rfl (by intro j u hj; match j, hj with | 0, hj => (injection hj with hj; subst hj; exact q0) | 1, hj => (injection hj with hj; subst hj; exact q1) | 2, hj => (injection hj with hj; subst hj; exact q2) | j + 3, hj => (simp at hj)) (by rw [List.length_map, List.length_take]; omega) (by decide) (Nat.le_trans hbW hbr2S.size) ?_
        intro v' u hown hbu hgr
        have hpu : PGate u wq 0 xs[k] := hbr2F.1.kept (fun j => World.cell?_of_block (a := ⟨wq, j, none⟩) (hgr.block wq hbr2F.1.lt (fun e => hrowne e)))
        have hbuS : Below (w.heap.size) W u := hbr2S.trans hbu
        try simp only [Act.put, List.setIfInBounds_toArray, List.set_cons_zero, List.set_cons_succ]
        refine hK _ _ ⟨⟨_, hbuS, hpu⟩, rfl⟩ ?_
        clear hK K
        refine wpMix_pure (by kernel_rfl) (fun K hK => ?_)
        go_big_quiet_op
        refine hK _ ?_; clear hK K
        refine wpMix_nil ?_
        have ho5 : Own fBlock u w.heap.size 57 v' ((xs.take (k + 1)).map bgB) := by rw [HST.out]; exact Own.push (bgB xs[k]) (by simp) hown
        clear hown
        have hb9 := hBW.trans hbuS
        go_wp2
        go_roundw
        case rel => exact ⟨k + 1, by omega, by go_num, ho5, hb9⟩
        case measure => simp [intOf]; omega
      · have hke : k = xs.length := by omega
        subst hke
        rw [List.take_length] at ho
        have ho5 : Own fBlock wr w.heap.size 57 u4 (bgF xs) := by rw [HF.out]; exact ho
        have hoks : ∀ y ∈ bgF xs, fBlock.ok y := by rw [HF.out]; intro y hy; exact bg_oks H0.out xs.length y (by rw [List.take_length]; exact hy)
        clear ho
        go_wp2
        go_ret2
        exact ⟨_, by rw [HC.out]; rfl, ho5.new hb hoks⟩

end Go.Proofs.YtmhefhapighloaaGreatDoor

namespace Go.Proofs.YtmhefhapighloaaGreatDoor
open Go.RowKit
set_option linter.unusedVariables false

theorem gate_words {x : DGate} (h : gateB x = true) : splS 32 (gtS x) = if x.shuts then [x.id, listS (gtN x), shutS, decS x.calm] else [x.id, listS (gtN x), openS] := by
  have h1 := name_noblank (gateB_name h)
  have h2 := listS_noblank (gtN x)
  have h3 : ∀ y ∈ (decS x.calm).data.toList, y ≠ 32 := by rw [decS_data]; exact fun y hy => (itoa_bytes _ y hy).2
  unfold gtS
  split
  · exact spl_shut h1 h2 h3 rfl
  · exact spl_open h1 h2 rfl
theorem gate_back {x : DGate} (h : gateB x = true) : rgF (gtS x) = some x := by
  obtain ⟨g1, g2, g3, g4, g5⟩ := gateB_parts h
  have hfit : fitsL (gtN x) = true := by
    unfold fitsL gtN inB
    simp only [List.length_cons, List.length_nil, List.all_cons, List.all_nil, Bool.and_eq_true, decide_eq_true_eq]
    exact ⟨by omega, ⟨by omega, by omega⟩, ⟨by omega, by omega⟩, ⟨by omega, by omega⟩, trivial⟩
  have o12 : one3 (listS (gtN x)) = true ∧ num3 (listS (gtN x)) = [x.shut, x.open_, x.hold] := one3_of (rlF_list hfit)
  obtain ⟨o1, o2⟩ := o12
  have hcR : inR x.calm = true := by unfold inR inB; simp only [Bool.and_eq_true, decide_eq_true_eq]; omega
  obtain ⟨n1, n2⟩ := numOk_dec hcR
  rw [rg_spec, gate_words h]
  cases hs : x.shuts with
  | true =>
    rw [if_pos rfl]
    have hx : xgX [x.id, listS (gtN x), shutS, decS x.calm] = x := by
      unfold xgX
      simp only [List.getD_cons_zero, List.getD_cons_succ, List.length_cons, List.length_nil, if_true]
      rw [o2, n2]
      cases x; simp_all
    have hsp : specB [x.id, listS (gtN x), shutS, decS x.calm] = true := by
      unfold specB
      rw [hx, h]
      simp only [List.getD_cons_zero, List.getD_cons_succ, List.length_cons, List.length_nil, if_true]
      rw [o1, n1]; simp
    rw [if_pos hsp, hx]
  | false =>
    have hc0 : x.calm = 0 := by
      unfold gateB at h
      simp only [Bool.and_eq_true, Bool.or_eq_true, decide_eq_true_eq] at h
      rcases h.2 with h9 | h9
      · rw [hs] at h9; cases h9
      · exact h9
    simp only [Bool.false_eq_true, if_false]
    have hx : xgX [x.id, listS (gtN x), openS] = x := by
      unfold xgX
      simp only [List.getD_cons_zero, List.getD_cons_succ, List.length_cons, List.length_nil]
      rw [o2]
      cases x; simp_all
    have hsp : specB [x.id, listS (gtN x), openS] = true := by
      unfold specB
      rw [hx, h]
      simp only [List.getD_cons_zero, List.getD_cons_succ, List.length_cons, List.length_nil]
      rw [o1]; simp
    rw [if_pos hsp, hx]
theorem joinX_no10 : ∀ (L : List (List UInt8)), (∀ x ∈ L, ∀ b ∈ x, b ≠ 10) → ∀ b ∈ joinX L, b ≠ 10
  | [], _ => by intro b hb; simp [joinX] at hb
  | [x], h => by intro b hb; rw [joinX_one] at hb; exact h x (by simp) b hb
  | x :: y :: L, h => by
    intro b hb
    have e : joinX (x :: y :: L) = x ++ 44 :: joinX (y :: L) := by simp [joinX]
    rw [e] at hb
    rcases List.mem_append.1 hb with hb | hb
    · exact h x (by simp) b hb
    · rcases List.mem_cons.1 hb with rfl | hb
      · decide
      · exact joinX_no10 (y :: L) (fun z hz => h z (by simp at hz ⊢; rcases hz with hz | hz <;> simp [hz])) b hb
theorem listS_no10 {xs : List Int} (h : ∀ v ∈ xs, 0 ≤ v) : ∀ b ∈ (listS xs).data.toList, b ≠ 10 := by
  intro b hb
  by_cases h0 : xs = []
  · subst h0
    have : (listS []).data.toList = [45] := rfl
    rw [this] at hb; simp at hb; rw [hb]; decide
  · rw [listS_data h0] at hb
    refine joinX_no10 _ (fun x hx => ?_) b hb
    obtain ⟨v, hv, rfl⟩ := List.mem_map.1 hx
    obtain ⟨n, rfl⟩ : ∃ n : Nat, v = n := ⟨v.toNat, by have := h v hv; omega⟩
    exact itoa_no10 n
theorem gtS_no10 {x : DGate} (h : gateB x = true) : noNl (gtS x).data.toList = true := by
  obtain ⟨g1, g2, g3, g4, g5⟩ := gateB_parts h
  have h1 := name_nobyte (gateB_name h) (b0' := 10) (by decide)
  have h2 : ∀ b ∈ (listS (gtN x)).data.toList, b ≠ 10 := listS_no10 (by intro v hv; unfold gtN at hv; simp at hv; omega)
  have h3 : ∀ y ∈ (decS x.calm).data.toList, y ≠ 10 := by
    rw [decS_data]
    obtain ⟨n, hn⟩ : ∃ n : Nat, x.calm = n := ⟨x.calm.toNat, by omega⟩
    rw [hn]; exact itoa_no10 n
  unfold noNl
  rw [List.all_eq_true]
  intro b hb
  have : b ≠ 10 := by
    unfold gtS at hb
    split at hb
    · rw [data_append, data_append, data_append, data_append] at hb
      simp only [List.mem_append] at hb
      rcases hb with (((hb | hb) | hb) | hb) | hb
      · exact h1 b hb
      · simp at hb; rw [hb]; decide
      · exact h2 b hb
      · simp at hb; rcases hb with rfl | rfl | rfl | rfl | rfl | rfl <;> decide
      · exact h3 b hb
    · rw [data_append, data_append, data_append] at hb
      simp only [List.mem_append] at hb
      rcases hb with ((hb | hb) | hb) | hb
      · exact h1 b hb
      · simp at hb; rw [hb]; decide
      · exact h2 b hb
      · simp at hb; rcases hb with rfl | rfl | rfl | rfl | rfl <;> decide
  simpa using this
theorem bgB_block {x : DGate} (h : gateB x = true) : blockB (bgB x) = true := by
  unfold blockB bgB
  have h1 := gtS_no10 h
  have h2 := gtS_size h
  have h3 := gateB_name h
  have h4 : nameB ⟨#[103, 97, 116, 101]⟩ = true := by decide
  simp only [h1, h3, h4, Bool.true_and, decide_eq_true_eq]
  omega
theorem gates_blocks {xs : List DGate} (h : gatesB xs = true) : blocksB (xs.map bgB) = true := by
  refine dBlocks_of (fun y hy => ?_) ?_ (by have := gatesB_len h; simp; omega)
  · obtain ⟨x, hx, rfl⟩ := List.mem_map.1 hy
    obtain ⟨k, hk, rfl⟩ := List.getElem_of_mem hx
    exact bgB_block (gatesB_one h hk)
  · intro m hm
    rw [List.length_map] at hm
    rw [List.getElem_map, List.getElem_map]
    have h1 : gtOk xs (m + 1) = true := by
      unfold gatesB at h
      rw [Bool.and_eq_true] at h
      exact allIdx_true.1 h.1 (m + 1) hm
    rw [gtOk_succ hm, Bool.and_eq_true] at h1
    unfold beforeB bgB
    simp only [decide_true, Bool.true_and, h1.2, Bool.or_true]
theorem gates_back {xs : List DGate} (h : gatesB xs = true) : gbC (xs.map bgB) = 0 ∧ gbF (xs.map bgB) = xs := by
  have hg : ∀ x ∈ xs, gbE (bgB x) = 0 ∧ gbX (bgB x) = some x := by
    intro x hx
    obtain ⟨k, hk, rfl⟩ := List.getElem_of_mem hx
    exact gbE_good (b := bgB xs[k]) rfl (gate_back (gatesB_one h hk)) rfl
  have hfm : (xs.map bgB).filterMap gbX = xs := by
    rw [List.filterMap_map]
    have : ∀ ys : List DGate, (∀ y ∈ ys, gbX (bgB y) = some y) → ys.filterMap (gbX ∘ bgB) = ys := by
      intro ys
      induction ys with
      | nil => intro _; rfl
      | cons y ys ih => intro hy; rw [List.filterMap_cons, show (gbX ∘ bgB) y = some y from hy y (by simp)]; simp only; rw [ih (fun z hz => hy z (by simp [hz]))]
    exact this xs fun y hy => (hg y hy).2
  have := gbC_ok (xs := xs.map bgB) (gates_blocks h) (fun x hx => by
    obtain ⟨y, hy, rfl⟩ := List.mem_map.1 (List.mem_of_mem_take hx)
    exact (hg y hy).1) (by rw [hfm]; have := gatesB_len h; omega)
  rw [hfm] at this
  exact this
end Go.Proofs.YtmhefhapighloaaGreatDoor

namespace Go.Proofs.YtmhefhapighloaaGreatDoor
open Go.RowKit
set_option linter.unusedVariables false

def gNames : List ByteArray := [⟨#[103, 97]⟩, ⟨#[103, 98]⟩, ⟨#[103, 99]⟩, ⟨#[103, 100]⟩]
theorem gNames_ok : ∀ t ∈ gNames, nameB t = true := by decide
theorem gNames_up : gNames.Pairwise (fun a b => ltS a b = true) := of_decide_eq_true (by kernel_rfl)
def gDraw (xs : List DGate) (k : Nat) : Prop := (∀ x ∈ xs, gateB x = true) ∧ (xs.map (·.id)).Sublist (gNames.take k)
theorem gDraw_step {xs : List DGate} {k : Nat} {x : DGate} (h : gDraw xs k) (hk : k < gNames.length) (hg : gateB x = true) (hi : x.id = gNames[k]) : gDraw (xs ++ [x]) (k + 1) := by
  refine ⟨fun y hy => ?_, ?_⟩
  · rcases List.mem_append.1 hy with hy | hy
    · exact h.1 y hy
    · rw [List.mem_singleton] at hy; subst hy; exact hg
  · rw [List.take_succ_eq_append_getElem hk, List.map_append]
    exact h.2.append (by rw [← hi]; exact List.Sublist.refl _)
theorem gDraw_skip {xs : List DGate} {k : Nat} (h : gDraw xs k) (hk : k < gNames.length) : gDraw xs (k + 1) := by
  refine ⟨h.1, h.2.trans ?_⟩
  rw [List.take_succ_eq_append_getElem hk]
  exact List.sublist_append_left _ _
theorem gDraw_len {xs : List DGate} {k : Nat} (h : gDraw xs k) : xs.length ≤ k := by
  have := h.2.length_le
  rw [List.length_map, List.length_take] at this
  omega
theorem gDraw_valid {xs : List DGate} {k : Nat} (h : gDraw xs k) (hk : k ≤ 4) : gatesB xs = true := by
  have hp : (xs.map (·.id)).Pairwise (fun a b => ltS a b = true) := gNames_up.sublist (h.2.trans (List.take_sublist _ _))
  have hl := gDraw_len h
  unfold gatesB
  rw [Bool.and_eq_true, decide_eq_true_eq]
  refine ⟨allIdx_true.2 fun i hi => ?_, by omega⟩
  cases i with
  | zero => rw [gtOk_zero hi]; exact h.1 _ (List.getElem_mem _)
  | succ m =>
    rw [gtOk_succ hi, Bool.and_eq_true]
    refine ⟨h.1 _ (List.getElem_mem _), ?_⟩
    have := (List.pairwise_iff_getElem.1 hp) m (m + 1) (by simp; omega) (by simp; omega) (by omega)
    simpa using this
set_option maxRecDepth 100000 in
set_option maxHeartbeats 2000000 in
theorem l21Draw_any (n g : Nat) (w : World) (hs : SrcD n g w) (hn : n ≤ 999999900000) :
    Calls Tryz.prog 37 #[.pointer (some ⟨g, 0, none⟩)] w fun e w' => ∃ (v : Value) (xs : List DGate) (fp : List Nat), e = .returned v ∧ Sl fGate.cod w' v xs fp ∧ (∀ b ∈ fp, w.heap.size ≤ b) ∧ fp.Nodup ∧ gatesB xs = true ∧ xs.length ≤ 4 ∧ Only [g] w w' := by
  have hg := hs.lt
  obtain ⟨i0, hi, hz0, hz1, hz2⟩ := info_parts infoGateG
  go_enter Tryz.func37, Tryz.ntmps37
  go_wp2
  have hB1 : Below w.heap.size w (w.alloc (.cells #[.string ⟨#[103, 97]⟩, .string ⟨#[103, 98]⟩, .string ⟨#[103, 99]⟩, .string ⟨#[103, 100]⟩] 9)) := (Below.refl _ _).alloc (Nat.le_refl _) _
  have hB2 : ∀ T, Below w.heap.size w ((w.alloc (.cells #[.string ⟨#[103, 97]⟩, .string ⟨#[103, 98]⟩, .string ⟨#[103, 99]⟩, .string ⟨#[103, 100]⟩] 9)).alloc (.cells #[] T)) := fun T => hB1.alloc (by simp) _
  have hnm := slLit w 9 gNames _ rfl (by decide) (by decide) (by decide) w.heap.size 4 rfl rfl
  have hO0 : Own fGate ((w.alloc (.cells #[.string ⟨#[103, 97]⟩, .string ⟨#[103, 98]⟩, .string ⟨#[103, 99]⟩, .string ⟨#[103, 100]⟩] 9)).alloc (.cells #[] 43)) (w.heap.size + 1) 43 (.slice (some ⟨w.heap.size + 1, 0, none⟩) 0 0) [] := by
    have h := Own.lit0m fGate (w := w.alloc (.cells #[.string ⟨#[103, 97]⟩, .string ⟨#[103, 98]⟩, .string ⟨#[103, 99]⟩, .string ⟨#[103, 100]⟩] 9)) (base := w.heap.size + 1) (Nat.le_of_eq (World.size_alloc w _).symm) (e := 43)
    rw [World.size_alloc] at h
    exact h
  go_loopw [4, 5] (fun v i wr => ∃ (k : Nat) (xs : List DGate), i = .int .i64 k ∧ k ≤ 4 ∧ gDraw xs k ∧ Own fGate wr (w.heap.size + 1) 43 v xs ∧ Sl fStr.cod wr (.slice (some ⟨w.heap.size, 0, none⟩) 4 4) gNames [w.heap.size] ∧ SrcD (n + 30 * k) g wr ∧ Only [g] w wr) (fun _ i _ => 4 - (intOf i).toNat)
  case atStart =>
    exact ⟨0, [], rfl, by omega, ⟨by simp, List.Sublist.refl _⟩, hO0, hnm.below' ((Below.refl _ _).alloc (Nat.le_refl _) _), (hs.below (hB2 _)).mono (by omega), Only.of_below (hB2 _)⟩
  case round =>
    obtain ⟨k, xs, rfl, hk, hd, ho, hnmr, hsr, hor⟩ := hrel
    have hwr := hor.size
    by_cases hlt : k < 4
    · go_wp2_with fail
      refine (one_any _ g 2 _ hsr (by omega) (by omega)).mono ?_
      rintro e w1 ⟨o1, rfl, hs1, ho1⟩
      have hor1 := hor.trans ho1
      have hO1 := ho.only ho1 (fun b hb => by rw [List.mem_singleton] at hb; omega)
      have hnm1 := hnmr.only ho1 (fun b hb => by rw [List.mem_singleton] at hb; simp; omega)
      clear ho hnmr hsr
      cases o1
      · go_wp2
        go_roundw
        case rel => exact ⟨k + 1, xs, by go_num, by omega, gDraw_skip hd hlt, hO1, hnm1, hs1.mono (by omega), hor1⟩
        case measure => simp [intOf]; omega
      · have hkl : k < gNames.length := hlt
        obtain ⟨b, off, hbo, _, _, hc, _⟩ := hnm1.cell1 rfl hkl rfl
        injection hbo with hbo
        injection hbo with hbo1 hbo2
        subst hbo1
        subst hbo2
        rw [Nat.zero_add] at hc
        go_wp2_with fail
        refine (l21DrawOne_any _ g _ _ hs1 (by omega)).mono ?_
        rintro e w2 ⟨x, he, ⟨hgx, hix⟩, hs2, ho2⟩
        unfold gAg at he
        subst he
        have hgx := hgx (gNames_ok _ (List.getElem_mem hkl))
        have hor2 := hor1.trans ho2
        have hO2 := hO1.only ho2 (fun b hb => by rw [List.mem_singleton] at hb; omega)
        have hnm2 := hnm1.only ho2 (fun b hb => by rw [List.mem_singleton] at hb; simp; omega)
        have hd2 := gDraw_step hd hkl hgx hix
        have hl2 := gDraw_len hd
        have hw2 : w.heap.size < w2.heap.size := hnm2.lt _ (by simp)
        clear hO1 hnm1 hs1 hix hc
        go_wp2_with (at_builtin; refine wpList_append_one rfl _ _ 35 rfl (w.heap.size + 1) 43 i0 (.agg #[.string ⟨#[]⟩, .int .i64 0, .int .i64 0, .int .i64 0, .bool false, .int .i64 0]) 6 56 Tryz.underlying35 hi hz0 hz1 hz2 rfl (by decide) u4 xs.length _ rfl hO2 [.string x.id, .int .i64 x.shut, .int .i64 x.open_, .int .i64 x.hold, .bool x.shuts, .int .i64 x.calm] rfl (by intro u hu; simp at hu; rcases hu with rfl | rfl | rfl | rfl | rfl | rfl <;> rfl) rfl (by omega) (by decide) (by omega) ?_)
        intro v' u hown hbu _ _
        have ho5 : Own fGate u (w.heap.size + 1) 43 v' (xs ++ [x]) := Own.push x (by omega) hown
        clear hown
        have hnm5 := hnm2.keep (fun b hb => hbu.block b (by rw [List.mem_singleton] at hb; omega)) hbu.size
        have hs5 := hs2.belowB hbu (by omega)
        have hor5 := hor2.then (hbu.mono (by omega))
        clear hnm2 hs2 hO2
        go_wp2
        go_roundw
        case rel => exact ⟨k + 1, xs ++ [x], by go_num, by omega, hd2, ho5, hnm5, hs5.mono (by omega), hor5⟩
        case measure => simp [intOf]; omega
    · have hl : k = 4 := by omega
      obtain ⟨fp, hsl, hlo, hnd⟩ := Sl.of_own (n := xs.length) rfl ho (fun x hx => gateB_ok (hd.1 x hx))
      go_wp2
      go_ret
      exact ⟨_, xs, fp, rfl, hsl, fun b hb => by have := hlo b hb; omega, hnd, gDraw_valid hd hk, by have := gDraw_len hd; omega, hor⟩
set_option maxRecDepth 100000 in
set_option maxHeartbeats 2000000 in
theorem R8Gates_any (v : Value) (xs : List UInt8) (fp : List Nat) (w : World) (hx : Sl fByte.cod w v xs fp) :
    Calls Tryz.prog 14 #[v] w fun e w' => ∃ (y : Value) (ys : List DGate), e = .returned y ∧ gatesB ys = true ∧ ys.length ≤ 4 ∧ New fGate.cod w y ys w' := by
  go_enter Tryz.func14, Tryz.ntmps14
  go_wp2_with fail
  refine (l00From_any _ _ _ _ hx).mono ?_
  rintro e w1 ⟨rfl, hs1, hb1⟩
  go_wp2_with fail
  refine (l21Draw_any _ _ _ hs1 (by omega)).mono ?_
  rintro e w2 ⟨y, ys, fq, rfl, hsl, hlo, hnd, hdr, hl5, ho⟩
  go_wp2
  go_ret
  have hsz := hb1.size
  exact ⟨_, ys, rfl, hdr, hl5, ⟨⟨fq, hsl, fun b hb => Nat.le_trans hsz (hlo b hb), hnd⟩, hb1.trans (ho.below hsz (by simp))⟩⟩
end Go.Proofs.YtmhefhapighloaaGreatDoor

namespace Go.Proofs.YtmhefhapighloaaGreatDoor
open Go.RowKit
set_option linter.unusedVariables false

theorem infoBlockL : (Tryz.prog.info? 57).map (fun i => (i.zero, i.size, i.bytes)) = some (some (.agg #[.string ⟨#[]⟩, .string ⟨#[]⟩, .string ⟨#[]⟩]), 3, 48) := by kernel_rfl
def LdR (w : World) (s : ByteArray) (e : Ending) (w' : World) : Prop := ∃ v, e = .returned (.tuple #[v, .int .i64 (ldRes s).2.1, .int .i64 (ldRes s).2.2]) ∧ New fBlock.cod w v (ldRes s).1 w'
theorem LdR.of {w w' : World} {s : ByteArray} {v : Value} {l : List DBlock} {a c : Int} (h : ldRes s = (l, a, c)) (hn : New fBlock.cod w v l w') : LdR w s (.returned (.tuple #[v, .int .i64 a, .int .i64 c])) w' := ⟨v, by rw [h], by rw [h]; exact hn⟩
theorem LdR.of2 {w w' : World} {s : ByteArray} {v : Value} {l : List DBlock} {a a' c c' : Int} (h : ldRes s = (l, a, c)) (ha : a = a') (hc : c = c') (hn : New fBlock.cod w v l w') : LdR w s (.returned (.tuple #[v, .int .i64 a', .int .i64 c'])) w' := by subst ha hc; exact LdR.of h hn
theorem spl_size (c : UInt8) (s : ByteArray) : ∀ x ∈ splS c s, x.size ≤ s.size := by
  intro x hx
  obtain ⟨P, q, h1, h2⟩ := splS_cut c s
  have h3 := congrArg List.length h2
  rw [List.length_append, data_len, data_len] at h3
  rw [h1, List.mem_append] at hx
  rcases hx with hx | hx
  · obtain ⟨A, B, e⟩ := List.append_of_mem hx
    rw [e, List.flatMap_append, List.flatMap_cons, List.length_append, List.length_append, List.length_append, data_len] at h3
    omega
  · rw [List.mem_singleton] at hx; subst hx; omega
theorem trim_size (s : ByteArray) : (⟨(Lib.trimSuffix s.data.toList [10]).toArray⟩ : ByteArray).size ≤ s.size := by
  rw [mk_size]
  unfold Lib.trimSuffix
  split
  · rw [List.length_take, data_len]; omega
  · rw [data_len]; omega
theorem trimP_size (s : ByteArray) (p : List UInt8) : (⟨(Lib.trimPrefix s.data.toList p).toArray⟩ : ByteArray).size ≤ s.size := by
  rw [mk_size]
  unfold Lib.trimPrefix
  split
  · rw [List.length_drop, data_len]; omega
  · rw [data_len]; omega
set_option maxRecDepth 100000 in
set_option maxHeartbeats 8000000 in
theorem implLoadBlocks_any (s : ByteArray) (m : Int) (w : World) (hs : s.size ≤ 1048576) (hm : w.cell? ⟨1, 0, none⟩ = some (.int .i64 m)) (ht : RdTabs w) :
    Calls Tryz.prog 7 #[.string s] w fun e w' => LdR w s e w' := by
  obtain ⟨i0, hi, hz0, hz1, hz2⟩ := info_parts infoBlockL
  have hlen := lin_len s
  have hszs : ∀ x ∈ linL s, x.size ≤ s.size := fun x hx => linL_size hx
  have hsuf : Lib.hasSuffix s.data.toList (ByteArray.mk #[10]).data.toList = ldGo s := ldGo_suffix s
  cases hgo : ldGo s
  · have HNO := Lib.hid (ldRes_no hgo)
    rw [hgo] at hsuf
    go_enter Tryz.func7, Tryz.ntmps7
    go_wp2_with fail
    refine (Tryz.strings_HasSuffix s _ _ (by omega)).mono ?_
    rintro e w' ⟨rfl, hw⟩
    rw [hw, hsuf]
    go_wp2
    go_ret3
    exact LdR.of HNO.out (New.nil (Below.refl _ _))
  · have hpos : 0 < (linL s).length := by
      have h := hgo
      unfold ldGo at h
      simp only [Bool.and_eq_true, Bool.not_eq_true', List.isEmpty_eq_false_iff] at h
      exact List.length_pos_iff.2 h.2
    have htr := lin_trim hgo
    have hts := trim_size s
    have HG := Lib.hid hgo
    rw [hgo] at hsuf
    clear hgo
    go_enter Tryz.func7, Tryz.ntmps7
    go_wp2_with fail
    refine (Tryz.strings_HasSuffix s _ _ (by omega)).mono ?_
    rintro e w' ⟨rfl, hw⟩
    rw [hw, hsuf]
    clear hw w' hsuf
    go_wp2_with fail
    refine (Tryz.strings_TrimSuffix s _ _ (by omega)).mono ?_
    rintro e w' ⟨rfl, hw⟩
    rw [hw, show (ByteArray.mk #[10]).data.toList = [10] from rfl]
    clear hw w'
    generalize (⟨(Lib.trimSuffix s.data.toList [10]).toArray⟩ : ByteArray) = T at *
    go_wp2_with fail
    refine (splitD_any T 10 m _ (by omega) hm).mono ?_
    rintro e w1 ⟨v1, rfl, hown, hb1⟩
    rw [htr] at hown
    have hoks0 : ∀ x ∈ linL s, fStr.ok x := fun x hx => by have := hszs x hx; show _ ≤ _; omega
    obtain ⟨fp1, hsl, _, _⟩ := Sl.of_own (n := (linL s).length) rfl hown hoks0
    obtain ⟨L, hL⟩ : ∃ L, L = linL s := ⟨_, rfl⟩
    rw [← hL] at hsl hlen hszs hpos
    have HL := Lib.hid hL
    clear hL htr hown hoks0
    have hm1 := cell_below hb1 hm
    have ht1 := ht.below hb1
    obtain ⟨A, cap, rfl, hle, hca⟩ := hsl.form
    obtain ⟨p, hp⟩ : ∃ p, L.length = p + 1 := ⟨L.length - 1, by omega⟩
    obtain ⟨b, off, rfl, _, _, hc0, _⟩ := hsl.cell1 rfl hpos rfl
    have hc00 : w1.cell? ⟨b, off, none⟩ = some (.string L[0]) := by simpa using hc0
    have hls0 := hszs L[0] (List.getElem_mem hpos)
    have hl0 : lineAt L 0 = L[0] := lineAt_get hpos
    rw [hp] at hsl hle ⊢
    clear hc0
    go_wp2_with fail
    refine (Tryz.strings_CutPrefix L[0] _ _).mono ?_
    rintro e w' ⟨rfl, hw⟩
    rw [hw, show (ByteArray.mk #[97, 114, 99, 104, 105, 118, 101, 32]).data.toList = arcL from rfl]
    clear hw w'
    have hcts := trimP_size L[0] arcL
    have hctd : Lib.hasPrefix L[0].data.toList arcL = true → (⟨(Lib.trimPrefix L[0].data.toList arcL).toArray⟩ : ByteArray).data.toList = L[0].data.toList.drop 8 := fun h => by
      unfold Lib.trimPrefix; rw [if_pos h]; rfl
    generalize (⟨(Lib.trimPrefix L[0].data.toList arcL).toArray⟩ : ByteArray) = ct at *
    have hhead : ldHead L[0] = if Lib.hasPrefix L[0].data.toList arcL = true then (match numL (L[0].data.toList.drop 8) with | some n => if inHead n then some n else none | none => none) else none := rfl
    go_wp2_with fail
    refine (ReadDecimal_any ct _ (by omega) ht1).mono ?_
    rintro e w2 ⟨rfl, hb2⟩
    have hB2 := hb1.trans (hb2.mono hb1.size)
    have hsl2 := hsl.below' hb2
    have hm2 := cell_below hb2 hm1
    have ht2 := ht1.below hb2
    have HNONE : Hid (ldHead L[0] = none → ldRes s = ([], 1, 9)) := fun h => ldRes_head HG.out (by rw [← HL.out, hl0]; exact h)
    have HSOME : Hid (∀ n, ldHead L[0] = some n → ldHead (lineAt (linL s) 0) = some n) := fun n h => by rw [← HL.out, hl0]; exact h
    clear hc00 hl0
    cases hpf : Lib.hasPrefix L[0].data.toList arcL
    · have hh : ldHead L[0] = none := by rw [hhead, hpf]; rfl
      have HR := Lib.hid (HNONE.out hh)
      clear hh hhead hpf hctd
      go_wp2
      go_ret3
      exact LdR.of HR.out (New.nil hB2)
    · have hd8 := hctd hpf
      rw [if_pos hpf, ← hd8] at hhead
      clear hd8 hctd hpf
      cases hn : numL ct.data.toList with
      | none =>
        rw [hn] at hhead
        obtain ⟨hn1, hn2⟩ := num_none hn
        have HR := Lib.hid (HNONE.out hhead)
        rw [hn1]
        clear hhead hn hn1 hn2
        go_wp2
        go_ret3
        exact LdR.of HR.out (New.nil hB2)
      | some n =>
        rw [hn] at hhead
        obtain ⟨hn1, hn2⟩ := num_some hn
        rw [hn1, hn2]
        cases hin : inHead n
        · have hh : ldHead L[0] = none := by rw [hhead]; simp [hin]
          have HR := Lib.hid (HNONE.out hh)
          have e2 : inB n 0 32 = false := hin
          clear hh hhead hn hn1 hn2
          go_wp2_with (go_at_call 30; refine (withinB_any _ _ _ _).mono ?_; rintro e w' ⟨rfl, rfl⟩)
          go_ret3
          exact LdR.of HR.out (New.nil hB2)
        · have hh : ldHead L[0] = some n := by rw [hhead]; simp [hin]
          have HH := Lib.hid (HSOME.out n hh)
          have e2 : inB n 0 32 = true := hin
          clear hh hhead hn hn1 hn2 hb2 ht1 hm1
          go_wp2_with (go_at_call 30; refine (withinB_any _ _ _ _).mono ?_; rintro e w' ⟨rfl, rfl⟩)
          · skip
            go_loopw [10, 47] (fun v i wr => ∃ j : Nat, j ≤ p ∧ i = .int .i64 j ∧ Hid (ldFine L (j + 1)) ∧ Own fBlock wr w2.heap.size 57 v (ldRows L (j + 1)) ∧ Below w2.heap.size w2 wr) (fun _ i _ => p - (intOf i).toNat)
            case atStart =>
              refine ⟨0, Nat.zero_le _, rfl, ldFine_one L, ?_, Below.refl _ _⟩
              rw [ldRows_one]
              exact Own.nil fBlock _ _ _
            case round =>
              obtain ⟨j, hj, rfl, HF, ho, hb⟩ := hrel
              by_cases hjp : j < p
              · exact absurd hjp (by omega)
              · obtain rfl : j = p := by omega
                have hoks := ldRows_ok (L := L) (k := j + 1) (by omega) HF.out
                have hbn : ldBad (linL s) = none := by rw [← HL.out]; exact ldBad_none (by rw [hp]; exact HF.out)
                have hB9 := hB2.trans (hb.mono hB2.size)
                obtain ⟨A9, cap9, rfl⟩ := ho.form
                by_cases hq : ((ldRows L (j + 1)).length : Int) = n
                · have HR := Lib.hid (ldRes_ok HG.out HH.out hbn (by rw [← HL.out, hp]; exact hq))
                  have hnew := (ho.new hb hoks).later hB2
                  have e5 : (((ldRows L (j + 1)).length : Int) == n) = true := by rw [beq_iff_eq]; exact hq
                  have e6 : (((ldRows L (j + 1)).length : Int) != n) = false := by rw [hq]; simp
                  clear hbn ho
                  go_wp2
                  go_ret3
                  exact LdR.of (by rw [HR.out, ← HL.out, hp]) hnew
                · have HR := Lib.hid (ldRes_short HG.out HH.out hbn (by rw [← HL.out, hp]; exact hq))
                  have e5 : (((ldRows L (j + 1)).length : Int) == n) = false := by rw [beq_eq_false_iff_ne]; exact hq
                  have e6 : (((ldRows L (j + 1)).length : Int) != n) = true := by rw [bne_iff_ne]; exact hq
                  clear hbn ho
                  go_wp2
                  go_ret3
                  exact LdR.of HR.out (New.nil hB9)
          · skip
            go_loopw [10, 47] (fun v i wr => ∃ j : Nat, j ≤ p ∧ i = .int .i64 j ∧ Hid (ldFine L (j + 1)) ∧ Own fBlock wr w2.heap.size 57 v (ldRows L (j + 1)) ∧ Below w2.heap.size w2 wr) (fun _ i _ => p - (intOf i).toNat)
            case atStart =>
              refine ⟨0, Nat.zero_le _, rfl, ldFine_one L, ?_, Below.refl _ _⟩
              rw [ldRows_one]
              exact Own.nil fBlock _ _ _
            case round =>
              obtain ⟨j, hj, rfl, HF, ho, hb⟩ := hrel
              by_cases hjp : j < p
              · have hlt : j + 1 < L.length := by omega
                obtain ⟨b', off', hA', _, _, hc1, _⟩ := (hsl2.below' hb).cell1 rfl hlt rfl
                injection hA' with hA'; injection hA' with hA1 hA2 _; subst hA1 hA2
                have hc0 : wr.cell? ⟨b, off + 1 + j, none⟩ = some (.string L[j + 1]) := by rw [Nat.add_assoc, Nat.add_comm 1 j]; exact hc1
                have hls := hszs L[j + 1] (List.getElem_mem hlt)
                clear hc1
                go_wp2_with fail
                refine (blockOf_any L[j + 1] m _ (by omega) (cell_below hb hm2) (ht2.below hb).tab).mono ?_
                rintro e w3 ⟨he, hb3⟩
                unfold PRet bAgg at he
                subst he
                have hla : lineAt L (j + 1) = L[j + 1] := lineAt_get hlt
                have hC : ldC L (j + 1) = if parseC L[j + 1] ≠ 0 then parseC L[j + 1] else if 1 < j + 1 ∧ beforeB (parseB (lineAt L j)) (parseB L[j + 1]) = false then 7 else 0 := by unfold ldC; rw [hla]; rfl
                have hst := ldRows_step hlt (by omega)
                have hokn : parseC L[j + 1] = 0 → fBlock.ok (parseB L[j + 1]) := fun h => blockB_ok (parse_valid h)
                generalize parseC L[j + 1] = cc at *
                generalize parseB L[j + 1] = bb at *
                have hB3 := hb.trans (hb3.mono hb.size)
                have hBa : Below w2.heap.size w2 (w3.alloc (.cells #[.string bb.kind, .string bb.name, .string bb.text] 57)) := hB3.alloc hB3.size _
                have hoA : Own fBlock (w3.alloc (.cells #[.string bb.kind, .string bb.name, .string bb.text] 57)) w2.heap.size 57 u10 (ldRows L (j + 1)) := World.ownsRow.alloc (ho.below hb3) _
                have hrl := ldRows_len (L := L) (k := j + 1) (by omega)
                have HST := Lib.hid hst
                have hbx := PBlock.box w3 bb 57
                clear hla ho hst hc0
                by_cases h0c : cc = 0
                · subst h0c
                  have hokb := hokn rfl
                  rw [if_neg (by simp)] at hC
                  rcases Nat.eq_zero_or_pos j with rfl | hjpos
                  · have hC0 : ldC L (0 + 1) = 0 := by rw [hC, if_neg (by omega)]
                    have HF2 : Hid (ldFine L (0 + 1 + 1)) := ldFine_step HF.out hC0
                    have hoB := hoA
                    rw [show ldRows L (0 + 1) = [] from ldRows_one L] at hoB
                    obtain ⟨A9, cap9, rfl⟩ := hoB.form
                    rw [List.length_nil] at hoB ⊢
                    clear hC hC0 hoA
                    go_wp2
                    refine at_world (fun W => Below w2.heap.size w2 W ∧ PBlock W w3.heap.size 0 bb ∧ Own fBlock W w2.heap.size 57 (.slice A9 0 cap9) []) ⟨hBa, hbx, hoB⟩ ?_
                    clear hbx hoB hBa
                    rintro W ⟨hBW, hbW, hoW⟩
                    obtain ⟨c0, c1, c2⟩ := id hbW
                    have gc0 := cell_regrown c0
                    have gc1 := cell_regrown c1
                    have gc2 := cell_regrown c2
                    refine wp_region_mix (C := fun w' => ∃ p : Regrown, w' = Go.Sort.grow (redrawn W p.d) p.os) [true, true, true, true, true, true, true, true, true, true, true, true, true, false, true, true] (by kernel_rfl) (by kernel_rfl) (by kernel_rfl) (fun _ _ d _ _ h => by cases d <;> exact h) (regrown_of_below (Below.drew (Below.refl _ _))) ?_
                    have hS0 : Below W.heap.size W W.drew := Below.drew (Below.refl _ _)
                    refine wpMix_pure (by kernel_rfl) (fun K hK => ?_)
                    go_big_quiet_op
                    refine hK _ ?_; clear hK K
                    refine wpMix_pure (by kernel_rfl) (fun K hK => ?_)
                    go_big_quiet_op
                    refine hK _ ?_; clear hK K
                    refine wpMix_pure (by kernel_rfl) (fun K hK => ?_)
                    go_big_quiet_op
                    refine hK _ ?_; clear hK K
                    refine wpMix_pure (by kernel_rfl) (fun K hK => ?_)
                    go_big_quiet_op
                    refine hK _ ?_; clear hK K
                    refine wpMix_pure (by kernel_rfl) (fun K hK => ?_)
                    go_big_quiet_op
                    refine hK _ ?_; clear hK K
                    refine wpMix_pure (by kernel_rfl) (fun K hK => ?_)
                    go_big_quiet_op
                    refine hK _ ?_; clear hK K
                    refine wpMix_pure (by kernel_rfl) (fun K hK => ?_)
                    go_big_quiet_op
                    refine hK _ ?_; clear hK K
                    refine wpMix_skip (by kernel_rfl) (fun K hK => ?_)
                    simp only [Act.put, List.setIfInBounds_toArray, List.set_cons_zero, List.set_cons_succ]
                    refine hK _ ?_; clear hK K
                    refine wpMix_skip (by kernel_rfl) (fun K hK => ?_)
                    simp only [Act.put, List.setIfInBounds_toArray, List.set_cons_zero, List.set_cons_succ]
                    refine hK _ ?_; clear hK K
                    refine wpMix_skip (by kernel_rfl) (fun K hK => ?_)
                    simp only [Act.put, List.setIfInBounds_toArray, List.set_cons_zero, List.set_cons_succ]
                    refine hK _ ?_; clear hK K
                    refine wpMix_skip (by kernel_rfl) (fun K hK => ?_)
                    simp only [Act.put, List.setIfInBounds_toArray, List.set_cons_zero, List.set_cons_succ]
                    refine hK _ ?_; clear hK K
                    refine wpMix_skip (by kernel_rfl) (fun K hK => ?_)
                    simp only [Act.put, List.setIfInBounds_toArray, List.set_cons_zero, List.set_cons_succ]
                    refine hK _ ?_; clear hK K
                    refine wpMix_skip (by kernel_rfl) (fun K hK => ?_)
                    simp only [Act.put, List.setIfInBounds_toArray, List.set_cons_zero, List.set_cons_succ]
                    refine hK _ ?_; clear hK K
                    refine wpMix_skip (by kernel_rfl) (fun K hK => ?_)
                    simp only [Act.put, List.setIfInBounds_toArray, List.set_cons_zero, List.set_cons_succ]
                    refine hK _ ?_; clear hK K
                    refine wpMix_skip (by kernel_rfl) (fun K hK => ?_)
                    simp only [Act.put, List.setIfInBounds_toArray, List.set_cons_zero, List.set_cons_succ]
                    refine hK _ ?_; clear hK K
                    refine wpMix_pure (by kernel_rfl) (fun K hK => ?_)
                    go_big_quiet_op
                    refine hK _ ?_; clear hK K
                    refine wpMix_nil ?_
                    have hBc := hBW.trans ((hS0).mono hBW.size)
                    have ho3 : (W.drew).ownsRow w2.heap.size 57 3 (.slice A9 0 cap9) 0 (([] : List DBlock).flatMap fBlock.enc) := hoW.below (hS0)
                    have hs2 := hBc.size
                    obtain ⟨c0, c1, c2⟩ := hbW.below' (hS0)
                    clear gc0 gc1 gc2
                    go_wp2_with (at_builtin; refine wpList_append_one rfl _ _ 24 rfl w2.heap.size 57 i0 (.agg #[.string ⟨#[]⟩, .string ⟨#[]⟩, .string ⟨#[]⟩]) 3 48 Tryz.underlying24 hi hz0 hz1 hz2 rfl (by decide) (.slice A9 0 cap9) 0 _ rfl ho3 [.string bb.kind, .string bb.name, .string bb.text] rfl (by intro u hu; simp at hu; rcases hu with rfl | rfl | rfl <;> rfl) rfl (by omega) (by decide) hs2 ?_)
                    intro v' u hown hbu _ _
                    have hbu' := hBc.trans hbu
                    have ho5 : Own fBlock u w2.heap.size 57 v' (ldRows L (0 + 1 + 1)) := by rw [HST.out, show ldRows L (0 + 1) = [] from ldRows_one L]; exact Own.push (L := []) _ rfl hown
                    clear hown
                    go_wp2
                    go_roundw
                    case rel => exact ⟨0 + 1, by omega, by go_num, HF2, ho5, hbu'⟩
                    case measure => simp [intOf] <;> omega
                  · obtain ⟨q, rfl⟩ : ∃ q, j = q + 1 := ⟨j - 1, by omega⟩
                    have hrl2 : (ldRows L (q + 1 + 1)).length = q + 1 := by omega
                    have hpl := ldRows_last (L := L) (k := q + 1 + 1) (by omega) (by omega)
                    obtain ⟨g, gcap, rfl⟩ := hoA.addr (by omega)
                    have hoks := ldRows_ok (L := L) (k := q + 1 + 1) (by omega) HF.out
                    obtain ⟨fpB, hsB, _, _⟩ := Sl.of_own (n := (ldRows L (q + 1 + 1)).length) rfl hoA hoks
                    obtain ⟨g', o', hgA, _, _, hpm⟩ := PBlock.elem hsB (k := q) (by omega)
                    injection hgA with hgA; injection hgA with hg1 hg2 _; subst hg1 hg2
                    have hpx : (ldRows L (q + 1 + 1))[q]'(by omega) = parseB (lineAt L (q + 1)) := hpl
                    rw [hpx, Nat.zero_add] at hpm
                    obtain ⟨x, hx⟩ : ∃ x, parseB (lineAt L (q + 1)) = x := ⟨_, rfl⟩
                    rw [hx] at hpm hC
                    have hoB : (w3.alloc (.cells #[.string bb.kind, .string bb.name, .string bb.text] 57)).ownsRow w2.heap.size 57 3 (.slice (some ⟨g, 0, none⟩) (q + 1) gcap) (q + 1) ((ldRows L (q + 1 + 1)).flatMap fBlock.enc) := by
                      have h := hoA
                      unfold Own at h
                      rw [hrl2] at h
                      exact h
                    rw [hrl2]
                    clear hsB hpl hpx hx hoks hoA
                    go_wp2
                    refine at_world (fun W => Below w2.heap.size w2 W ∧ PBlock W w3.heap.size 0 bb ∧ PBlock W g (q * 3) x ∧ W.ownsRow w2.heap.size 57 3 (.slice (some ⟨g, 0, none⟩) (q + 1) gcap) (q + 1) ((ldRows L (q + 1 + 1)).flatMap fBlock.enc)) ⟨hBa, hbx, hpm, hoB⟩ ?_
                    clear hbx hoB hBa hpm
                    rintro W ⟨hBW, hbW, hpW, hoW⟩
                    obtain ⟨c0, c1, c2⟩ := id hbW
                    obtain ⟨d0, d1, d2⟩ := id hpW
                    cases hbf : beforeB x bb
                    · have hC7 : ldC L (q + 1 + 1) = 7 := by rw [hC, if_pos ⟨by omega, hbf⟩]
                      have HR := Lib.hid (ldRes_bad HG.out HH.out (by rw [← HL.out]; exact ldBad_some hlt (by omega) HF.out (by rw [hC7]; decide)))
                      have HC := Lib.hid hC7
                      have hcm : 0 ≤ cmpB x bb := by have := cmpB_lt x bb; rw [hbf] at this; simpa using this
                      have e14 : decide (0 ≤ cmpB x bb) = true := by simpa using hcm
                      clear hC hC7 hbf
                      have gc0 := cell_regrown c0
                      have gc1 := cell_regrown c1
                      have gc2 := cell_regrown c2
                      have gd0 := cell_regrown d0
                      have gd1 := cell_regrown d1
                      have gd2 := cell_regrown d2
                      refine wp_region_mix (C := fun w' => ∃ p : Regrown, w' = Go.Sort.grow (redrawn W p.d) p.os) [true, true, true, true, true, true, true, true, true, true, true, true, true, false, true, true] (by kernel_rfl) (by kernel_rfl) (by kernel_rfl) (fun _ _ d _ _ h => by cases d <;> exact h) (regrown_of_below (Below.drew (Below.refl _ _))) ?_
                      have hS0 : Below W.heap.size W W.drew := Below.drew (Below.refl _ _)
                      refine wpMix_pure (by kernel_rfl) (fun K hK => ?_)
                      go_big_quiet_op
                      refine hK _ ?_; clear hK K
                      refine wpMix_pure (by kernel_rfl) (fun K hK => ?_)
                      go_big_quiet_op
                      refine hK _ ?_; clear hK K
                      refine wpMix_pure (by kernel_rfl) (fun K hK => ?_)
                      go_big_quiet_op
                      refine hK _ ?_; clear hK K
                      refine wpMix_pure (by kernel_rfl) (fun K hK => ?_)
                      go_big_quiet_op
                      refine hK _ ?_; clear hK K
                      refine wpMix_pure (by kernel_rfl) (fun K hK => ?_)
                      go_big_quiet_op
                      refine hK _ ?_; clear hK K
                      refine wpMix_pure (by kernel_rfl) (fun K hK => ?_)
                      go_big_quiet_op
                      refine hK _ ?_; clear hK K
                      refine wpMix_pure (by kernel_rfl) (fun K hK => ?_)
                      go_big_quiet_op
                      refine hK _ ?_; clear hK K
                      refine wpMix_pure (by kernel_rfl) (fun K hK => ?_)
                      go_big_quiet_op
                      refine hK _ ?_; clear hK K
                      refine wpMix_pure (by kernel_rfl) (fun K hK => ?_)
                      go_big_quiet_op
                      refine hK _ ?_; clear hK K
                      refine wpMix_pure (by kernel_rfl) (fun K hK => ?_)
                      go_big_quiet_op
                      refine hK _ ?_; clear hK K
                      refine wpMix_pure (by kernel_rfl) (fun K hK => ?_)
                      go_big_quiet_op
                      refine hK _ ?_; clear hK K
                      refine wpMix_pure (by kernel_rfl) (fun K hK => ?_)
                      go_big_quiet_op
                      refine hK _ ?_; clear hK K
                      refine wpMix_pure (by kernel_rfl) (fun K hK => ?_)
                      go_big_quiet_op
                      refine hK _ ?_; clear hK K
                      refine wpMix_act (by kernel_rfl) (fun K hK => ?_)
                      go_big_op
                      refine (compareBlocks_any x bb _).mono ?_
                      rintro e wr1 ⟨rfl, hbr1⟩
                      have hbr1S : Below W.heap.size W wr1 := hS0.trans (hbr1.mono hS0.size)
                      refine hK _ _ (regrown_of_below hbr1S) ?_
                      clear hK K
                      refine wpMix_pure (by kernel_rfl) (fun K hK => ?_)
                      go_big_quiet_op
                      refine hK _ ?_; clear hK K
                      refine wpMix_pure (by kernel_rfl) (fun K hK => ?_)
                      go_big_quiet_op
                      refine hK _ ?_; clear hK K
                      refine wpMix_nil ?_
                      have hB9 := hB2.trans ((hBW.trans ((hbr1S).mono hBW.size)).mono hB2.size)
                      go_wp2
                      go_ret3
                      exact LdR.of2 HR.out (by push_cast; omega) (by rw [← HL.out]; exact HC.out) (New.nil hB9)
                    · have hC0 : ldC L (q + 1 + 1) = 0 := by rw [hC, if_neg (by rw [hbf]; rintro ⟨_, h⟩; cases h)]
                      have HF2 : Hid (ldFine L (q + 1 + 1 + 1)) := ldFine_step HF.out hC0
                      have hcm : cmpB x bb < 0 := by have := cmpB_lt x bb; rw [hbf] at this; simpa using this
                      have e14 : decide (0 ≤ cmpB x bb) = false := by simp; omega
                      clear hC hC0 hbf
                      have gc0 := cell_regrown c0
                      have gc1 := cell_regrown c1
                      have gc2 := cell_regrown c2
                      have gd0 := cell_regrown d0
                      have gd1 := cell_regrown d1
                      have gd2 := cell_regrown d2
                      refine wp_region_mix (C := fun w' => ∃ p : Regrown, w' = Go.Sort.grow (redrawn W p.d) p.os) [true, true, true, true, true, true, true, true, true, true, true, true, true, false, true, true] (by kernel_rfl) (by kernel_rfl) (by kernel_rfl) (fun _ _ d _ _ h => by cases d <;> exact h) (regrown_of_below (Below.drew (Below.refl _ _))) ?_
                      have hS0 : Below W.heap.size W W.drew := Below.drew (Below.refl _ _)
                      refine wpMix_pure (by kernel_rfl) (fun K hK => ?_)
                      go_big_quiet_op
                      refine hK _ ?_; clear hK K
                      refine wpMix_pure (by kernel_rfl) (fun K hK => ?_)
                      go_big_quiet_op
                      refine hK _ ?_; clear hK K
                      refine wpMix_pure (by kernel_rfl) (fun K hK => ?_)
                      go_big_quiet_op
                      refine hK _ ?_; clear hK K
                      refine wpMix_pure (by kernel_rfl) (fun K hK => ?_)
                      go_big_quiet_op
                      refine hK _ ?_; clear hK K
                      refine wpMix_pure (by kernel_rfl) (fun K hK => ?_)
                      go_big_quiet_op
                      refine hK _ ?_; clear hK K
                      refine wpMix_pure (by kernel_rfl) (fun K hK => ?_)
                      go_big_quiet_op
                      refine hK _ ?_; clear hK K
                      refine wpMix_pure (by kernel_rfl) (fun K hK => ?_)
                      go_big_quiet_op
                      refine hK _ ?_; clear hK K
                      refine wpMix_pure (by kernel_rfl) (fun K hK => ?_)
                      go_big_quiet_op
                      refine hK _ ?_; clear hK K
                      refine wpMix_pure (by kernel_rfl) (fun K hK => ?_)
                      go_big_quiet_op
                      refine hK _ ?_; clear hK K
                      refine wpMix_pure (by kernel_rfl) (fun K hK => ?_)
                      go_big_quiet_op
                      refine hK _ ?_; clear hK K
                      refine wpMix_pure (by kernel_rfl) (fun K hK => ?_)
                      go_big_quiet_op
                      refine hK _ ?_; clear hK K
                      refine wpMix_pure (by kernel_rfl) (fun K hK => ?_)
                      go_big_quiet_op
                      refine hK _ ?_; clear hK K
                      refine wpMix_pure (by kernel_rfl) (fun K hK => ?_)
                      go_big_quiet_op
                      refine hK _ ?_; clear hK K
                      refine wpMix_act (by kernel_rfl) (fun K hK => ?_)
                      go_big_op
                      refine (compareBlocks_any x bb _).mono ?_
                      rintro e wr1 ⟨rfl, hbr1⟩
                      have hbr1S : Below W.heap.size W wr1 := hS0.trans (hbr1.mono hS0.size)
                      refine hK _ _ (regrown_of_below hbr1S) ?_
                      clear hK K
                      refine wpMix_pure (by kernel_rfl) (fun K hK => ?_)
                      go_big_quiet_op
                      refine hK _ ?_; clear hK K
                      refine wpMix_pure (by kernel_rfl) (fun K hK => ?_)
                      go_big_quiet_op
                      refine hK _ ?_; clear hK K
                      refine wpMix_nil ?_
                      have hBc := hBW.trans ((hbr1S).mono hBW.size)
                      have ho3 : (wr1).ownsRow w2.heap.size 57 3 (.slice (some ⟨g, 0, none⟩) (q + 1) gcap) (q + 1) ((ldRows L (q + 1 + 1)).flatMap fBlock.enc) := Own.below (E := fBlock) (L := ldRows L (q + 1 + 1)) (by unfold Own; rw [hrl2]; exact hoW) (hbr1S) |> fun h => by unfold Own at h; rw [hrl2] at h; exact h
                      have hs2 := hBc.size
                      obtain ⟨c0, c1, c2⟩ := hbW.below' (hbr1S)
                      clear gc0 gc1 gc2 gd0 gd1 gd2 hoW
                      go_wp2_with (at_builtin; refine wpList_append_one rfl _ _ 24 rfl w2.heap.size 57 i0 (.agg #[.string ⟨#[]⟩, .string ⟨#[]⟩, .string ⟨#[]⟩]) 3 48 Tryz.underlying24 hi hz0 hz1 hz2 rfl (by decide) (.slice (some ⟨g, 0, none⟩) (q + 1) gcap) (q + 1) _ rfl ho3 [.string bb.kind, .string bb.name, .string bb.text] rfl (by intro u hu; simp at hu; rcases hu with rfl | rfl | rfl <;> rfl) rfl (by omega) (by decide) hs2 ?_)
                      intro v' u hown hbu _ _
                      have hbu' := hBc.trans hbu
                      have ho5 : Own fBlock u w2.heap.size 57 v' (ldRows L (q + 1 + 1 + 1)) := by rw [HST.out]; exact Own.push _ (by omega) hown
                      clear hown
                      go_wp2
                      go_roundw
                      case rel => exact ⟨q + 1 + 1, by omega, by go_num, HF2, ho5, hbu'⟩
                      case measure => simp [intOf]; omega
                · rw [if_pos h0c] at hC
                  have HR := Lib.hid (ldRes_bad HG.out HH.out (by rw [← HL.out]; exact ldBad_some hlt (by omega) HF.out (by rw [hC]; exact h0c)))
                  have HC := Lib.hid hC
                  have e2 : (cc != 0) = true := by rw [bne_iff_ne]; exact h0c
                  have e3 : (cc == 0) = false := by rw [beq_eq_false_iff_ne]; exact h0c
                  clear hC
                  go_wp2
                  refine at_world (fun W => Below w2.heap.size w2 W) hBa ?_
                  clear hbx hoA hBa
                  intro W hBW
                  refine wp_region_mix (C := fun w' => ∃ p : Regrown, w' = Go.Sort.grow (redrawn W p.d) p.os) [true, true, true, true, true, true, true, true, true, true, true, true, true, false, true, true] (by kernel_rfl) (by kernel_rfl) (by kernel_rfl) (fun _ _ d _ _ h => by cases d <;> exact h) (regrown_of_below (Below.drew (Below.refl _ _))) ?_
                  have hS0 : Below W.heap.size W W.drew := Below.drew (Below.refl _ _)
                  refine wpMix_pure (by kernel_rfl) (fun K hK => ?_)
                  go_big_quiet_op
                  refine hK _ ?_; clear hK K
                  refine wpMix_pure (by kernel_rfl) (fun K hK => ?_)
                  go_big_quiet_op
                  refine hK _ ?_; clear hK K
                  refine wpMix_pure (by kernel_rfl) (fun K hK => ?_)
                  go_big_quiet_op
                  refine hK _ ?_; clear hK K
                  refine wpMix_skip (by kernel_rfl) (fun K hK => ?_)
                  simp only [Act.put, List.setIfInBounds_toArray, List.set_cons_zero, List.set_cons_succ]
                  refine hK _ ?_; clear hK K
                  refine wpMix_skip (by kernel_rfl) (fun K hK => ?_)
                  simp only [Act.put, List.setIfInBounds_toArray, List.set_cons_zero, List.set_cons_succ]
                  refine hK _ ?_; clear hK K
                  refine wpMix_pure (by kernel_rfl) (fun K hK => ?_)
                  go_big_quiet_op
                  refine hK _ ?_; clear hK K
                  refine wpMix_pure (by kernel_rfl) (fun K hK => ?_)
                  go_big_quiet_op
                  refine hK _ ?_; clear hK K
                  refine wpMix_skip (by kernel_rfl) (fun K hK => ?_)
                  simp only [Act.put, List.setIfInBounds_toArray, List.set_cons_zero, List.set_cons_succ]
                  refine hK _ ?_; clear hK K
                  refine wpMix_skip (by kernel_rfl) (fun K hK => ?_)
                  simp only [Act.put, List.setIfInBounds_toArray, List.set_cons_zero, List.set_cons_succ]
                  refine hK _ ?_; clear hK K
                  refine wpMix_skip (by kernel_rfl) (fun K hK => ?_)
                  simp only [Act.put, List.setIfInBounds_toArray, List.set_cons_zero, List.set_cons_succ]
                  refine hK _ ?_; clear hK K
                  refine wpMix_skip (by kernel_rfl) (fun K hK => ?_)
                  simp only [Act.put, List.setIfInBounds_toArray, List.set_cons_zero, List.set_cons_succ]
                  refine hK _ ?_; clear hK K
                  refine wpMix_skip (by kernel_rfl) (fun K hK => ?_)
                  simp only [Act.put, List.setIfInBounds_toArray, List.set_cons_zero, List.set_cons_succ]
                  refine hK _ ?_; clear hK K
                  refine wpMix_skip (by kernel_rfl) (fun K hK => ?_)
                  simp only [Act.put, List.setIfInBounds_toArray, List.set_cons_zero, List.set_cons_succ]
                  refine hK _ ?_; clear hK K
                  refine wpMix_skip (by kernel_rfl) (fun K hK => ?_)
                  simp only [Act.put, List.setIfInBounds_toArray, List.set_cons_zero, List.set_cons_succ]
                  refine hK _ ?_; clear hK K
                  refine wpMix_skip (by kernel_rfl) (fun K hK => ?_)
                  simp only [Act.put, List.setIfInBounds_toArray, List.set_cons_zero, List.set_cons_succ]
                  refine hK _ ?_; clear hK K
                  refine wpMix_pure (by kernel_rfl) (fun K hK => ?_)
                  go_big_quiet_op
                  refine hK _ ?_; clear hK K
                  refine wpMix_nil ?_
                  have hB9 := hB2.trans ((hBW.trans ((hS0).mono hBW.size)).mono hB2.size)
                  go_wp2
                  go_ret3
                  exact LdR.of2 HR.out (by push_cast; omega) (by rw [← HL.out]; exact HC.out) (New.nil hB9)
              · obtain rfl : j = p := by omega
                have hoks := ldRows_ok (L := L) (k := j + 1) (by omega) HF.out
                have hbn : ldBad (linL s) = none := by rw [← HL.out]; exact ldBad_none (by rw [hp]; exact HF.out)
                have hB9 := hB2.trans (hb.mono hB2.size)
                obtain ⟨A9, cap9, rfl⟩ := ho.form
                by_cases hq : ((ldRows L (j + 1)).length : Int) = n
                · have HR := Lib.hid (ldRes_ok HG.out HH.out hbn (by rw [← HL.out, hp]; exact hq))
                  have hnew := (ho.new hb hoks).later hB2
                  have e5 : (((ldRows L (j + 1)).length : Int) == n) = true := by rw [beq_iff_eq]; exact hq
                  have e6 : (((ldRows L (j + 1)).length : Int) != n) = false := by rw [hq]; simp
                  clear hbn ho
                  go_wp2
                  go_ret3
                  exact LdR.of (by rw [HR.out, ← HL.out, hp]) hnew
                · have HR := Lib.hid (ldRes_short HG.out HH.out hbn (by rw [← HL.out, hp]; exact hq))
                  have e5 : (((ldRows L (j + 1)).length : Int) == n) = false := by rw [beq_eq_false_iff_ne]; exact hq
                  have e6 : (((ldRows L (j + 1)).length : Int) != n) = true := by rw [bne_iff_ne]; exact hq
                  clear hbn ho
                  go_wp2
                  go_ret3
                  exact LdR.of HR.out (New.nil hB9)

end Go.Proofs.YtmhefhapighloaaGreatDoor

namespace Go.Proofs.YtmhefhapighloaaGreatDoor
open Go.RowKit
set_option linter.unusedVariables false

set_option maxRecDepth 100000 in
set_option maxHeartbeats 400000 in
theorem r8Long_any (v0 v1 : Value) (xs0 xs1 : List UInt8) (fp0 fp1 : List Nat) (w : World) (hx0 : Sl fByte.cod w v0 xs0 fp0) (hx1 : Sl fByte.cod w v1 xs1 fp1) :
    Calls Tryz.prog 4 #[v0, v1] w fun e w' => e = .returned (.bool (decide (1048576 < xs0.length) || decide (1048576 < xs1.length))) ∧ w = w' := by
  obtain ⟨A, cap, rfl, hlen, hcap⟩ := hx0.form
  obtain ⟨A1, cap1, rfl, hlen1, hcap1⟩ := hx1.form
  by_cases h0 : 1048576 < xs0.length
  · have e : (decide (1048576 < xs0.length) || decide (1048576 < xs1.length)) = true := by simp [h0]
    rw [e]
    go_enter Tryz.func4, Tryz.ntmps4
    go_wp2
    go_ret
    exact ⟨rfl, rfl⟩
  · go_enter Tryz.func4, Tryz.ntmps4
    go_wp2
    go_ret
    refine ⟨?_, rfl⟩
    show Ending.returned (.bool _) = _
    congr 2
    rw [Bool.eq_iff_iff]
    simp
    omega
theorem tmod_nn {a n : Int} (ha : 0 ≤ a) (hn : 1 < n) : 0 ≤ a % n ∧ a % n < n := ⟨Int.emod_nonneg _ (by omega), Int.emod_lt_of_pos _ (by omega)⟩
set_option maxRecDepth 100000 in
set_option maxHeartbeats 1000000 in
theorem r8At_any (v : Value) (xs : List UInt8) (fp : List Nat) (k : Nat) (n : Int) (w : World) (hx : Sl fByte.cod w v xs fp) (hn : 1 < n) (hn2 : n ≤ 1000000000) :
    Calls Tryz.prog 13 #[v, .int .i64 k, .int .i64 n] w fun e w' => ∃ r : Int, e = .returned (.int .i64 r) ∧ (0 ≤ r ∧ r < n) ∧ w = w' := by
  obtain ⟨A, cap, rfl, hlen, hcap⟩ := hx.form
  have e1 : decide (n ≤ 1) = false := decide_eq_false (by omega)
  by_cases hk : k < xs.length
  · obtain ⟨b, off, rfl, _, _, hc, _⟩ := hx.cell1 rfl hk rfl
    have hb := xs[k].toNat_lt
    have hq := tmod_nn (a := (xs[k].toNat : Int)) (by omega) hn
    go_enter Tryz.func13, Tryz.ntmps13
    go_wp2
    go_ret
    exact ⟨_, rfl, hq, rfl⟩
  · go_enter Tryz.func13, Tryz.ntmps13
    go_wp2
    go_ret
    exact ⟨0, rfl, ⟨by omega, by omega⟩, rfl⟩
set_option maxRecDepth 100000 in
set_option maxHeartbeats 1000000 in
theorem r8Wide_any (v : Value) (xs : List UInt8) (fp : List Nat) (k : Nat) (n : Int) (w : World) (hx : Sl fByte.cod w v xs fp) (hk : k ≤ 1000) (hn : 1 < n) (hn2 : n ≤ 1000000000) :
    Calls Tryz.prog 12 #[v, .int .i64 k, .int .i64 n] w fun e w' => ∃ r : Int, e = .returned (.int .i64 r) ∧ (0 ≤ r ∧ r < n) ∧ w = w' := by
  obtain ⟨A, cap, rfl, hlen, hcap⟩ := hx.form
  go_enter Tryz.func12, Tryz.ntmps12
  go_wp2_with fail
  refine (r8At_any _ xs fp k 256 _ hx (by omega) (by omega)).mono ?_
  rintro e w' ⟨a, rfl, ha, rfl⟩
  go_wp2_with fail
  refine (r8At_any _ xs fp (k + 1) 256 _ hx (by omega) (by omega)).mono ?_
  rintro e w' ⟨b, rfl, hb, rfl⟩
  have hq := tmod_nn (a := 256 * a + b) (by omega) hn
  go_wp2
  go_ret
  exact ⟨_, rfl, hq, rfl⟩
theorem enc_bytes (l : List UInt8) : l.flatMap fByte.enc = l.map (fun b => Value.int .u8 b.toNat) := by
  induction l with
  | nil => rfl
  | cons b l ih => rw [List.flatMap_cons, ih]; rfl
theorem Sl.cellB {w : World} {g n cap : Nat} {xs : List UInt8} {fp : List Nat} (h : Sl fByte.cod w (.slice (some ⟨g, 0, none⟩) n cap) xs fp) {k : Nat} (hk : k < xs.length) : w.cell? ⟨g, k, none⟩ = some (.int .u8 xs[k].toNat) ∧ w.frozen? ⟨g, k, none⟩ = false := by
  obtain ⟨b, off, hA, _, _, hc, hf⟩ := h.cell1 rfl hk rfl
  injection hA with hA; injection hA with h1 h2 _
  subst h1; subst h2
  rw [Nat.zero_add] at hc hf
  exact ⟨hc, hf⟩
theorem sl_bytes {w : World} {g cap : Nat} {xs : List UInt8} (hc : xs.length ≤ cap) (hm : cap ≤ 9223372036854775807) (hb : g < w.heap.size) (h0 : 0 < xs.length)
    (h : ∀ k (hk : k < xs.length), w.cell? ⟨g, k, none⟩ = some (.int .u8 xs[k].toNat) ∧ w.frozen? ⟨g, k, none⟩ = false) : Sl fByte.cod w (.slice (some ⟨g, 0, none⟩) xs.length cap) xs [g] := by
  refine Sl.of_cells hc hm hb (fun j hj => ?_) (fun x _ => trivial) h0
  rw [enc_bytes] at hj
  have hj' : j < xs.length := by simpa using hj
  obtain ⟨q1, q2⟩ := h j hj'
  rw [Nat.zero_add]
  refine ⟨?_, q2⟩
  rw [q1]
  simp [enc_bytes, hj']
theorem Sl.setB {w : World} {g cap : Nat} {xs : List UInt8} (h : Sl fByte.cod w (.slice (some ⟨g, 0, none⟩) xs.length cap) xs [g]) {k : Nat} (hk : k < xs.length) (c : UInt8) :
    Sl fByte.cod (w.setCell ⟨g, k, none⟩ (.int .u8 c.toNat)) (.slice (some ⟨g, 0, none⟩) xs.length cap) (xs.set k c) [g] := by
  obtain ⟨A', cap', hv, hlc, hcm⟩ := h.form
  injection hv with _ _ e3
  subst e3
  have hg : g < w.heap.size := h.lt g (by simp)
  have hl : (xs.set k c).length = xs.length := List.length_set
  have key := sl_bytes (w := w.setCell ⟨g, k, none⟩ (.int .u8 c.toNat)) (g := g) (cap := cap) (xs := xs.set k c) (by omega) (by omega) (by simpa using hg) (by omega) (fun j hj => by
    rw [hl] at hj
    obtain ⟨q1, q2⟩ := h.cellB hj
    refine ⟨?_, (frozen?_setCell _ _ _ _).trans q2⟩
    by_cases hjk : j = k
    · subst hjk
      rw [World.cell?_setCell_same _ _ _ q1]
      simp
    · rw [World.cell?_setCell_other _ _ _ _ (by intro e; injection e with _ e _; exact hjk e.symm), q1]
      rw [List.getElem_set_ne (fun e => hjk e.symm)])
  rw [hl] at key
  exact key
theorem Sl.textB {w : World} {g cap : Nat} {xs : List UInt8} {fp : List Nat} (h : Sl fByte.cod w (.slice (some ⟨g, 0, none⟩) xs.length cap) xs fp) : (convert 22 9 (.slice (some ⟨g, 0, none⟩) xs.length cap)).run Tryz.prog w = .ok (.string ⟨xs.toArray⟩) w := by
  refine run_convert_bytes_back w _ _ _ _ cap xs Tryz.underlying22 Tryz.underlying5 Tryz.underlying9 (fun j hj => ?_)
  have e : (⟨g, 0, none⟩ : Addr).add j = ⟨g, j, none⟩ := by unfold Addr.add; split <;> simp_all
  rw [e]; exact (h.cellB hj).1
theorem bytes_made (w : World) (s : ByteArray) (hs : s.size ≤ 1000000000) (h0 : 0 < s.size) :
    ∃ cap W', (convert 9 22 (.string s)).run Tryz.prog w = .ok (.slice (some ⟨w.heap.size, 0, none⟩) s.size cap) W' ∧ Sl fByte.cod W' (.slice (some ⟨w.heap.size, 0, none⟩) s.size cap) s.data.toList [w.heap.size] ∧ Below w.heap.size w W' := by
  have hr := run_bytes_of_string (P := Tryz.prog) w 9 22 5 s Tryz.underlying9 Tryz.underlying22 Tryz.underlying5
  refine ⟨_, _, hr, ?_, (Below.drew (Below.refl _ _)).alloc (Nat.le_refl _) _⟩
  have hc := grownCap_ge w s.size 0 5
  have hm := grownCap_le_maxLen w s.size 0 5 (by unfold maxLen; omega)
  generalize grownCap w s.size 0 5 = cap at *
  have hl : s.data.toList.length = s.size := by simp
  have hbs : (bytesRow s cap).size = cap := by unfold bytesRow; simp; omega
  have key := sl_bytes (w := w.drew.alloc (.cells (bytesRow s cap) 5 ((bytesRow s cap).size, (bytesRow s cap).size + 1))) (g := w.heap.size) (cap := cap) (xs := s.data.toList) (by omega) (by unfold maxLen at hm; exact hm) (by simp) (by omega) (fun k hk => by
    have e1 := World.cell?_alloc_mark w.drew (bytesRow s cap) 5 ((bytesRow s cap).size, (bytesRow s cap).size + 1) k
    have e2 := World.frozen?_alloc_mark w.drew (bytesRow s cap) 5 (bytesRow s cap).size ((bytesRow s cap).size + 1) k
    refine ⟨e1.trans ?_, e2.trans ?_⟩
    · unfold bytesRow
      rw [Array.getElem?_append_left (by simpa using hk)]
      simp at hk
      simp [hk]
    · rw [hbs, decide_eq_false (by omega)]; rfl)
  rw [hl] at key
  exact key
theorem wp_append_src {α : Type} {E : Flat α} {P : Program} {w : World} {o : Oper} {a : Act} {K : Act → World → Prop} {Q : Exit → Act → World → Prop} (s x : Operand) (t : TypeId)
    (ho : o.op = .call { callee := .builtin .append, args := #[s, x], argTypes := #[t, t] })
    (base : Nat) (e : TypeId) (i : TypeInfo) (z : Value) (bytes : Nat) (ht : P.underlying t = some (.slice e)) (hi : P.info? e = some i) (hz : i.zero = some z)
    (hsize : i.size = E.n) (hby : i.bytes = bytes) (hzs : z.cells.size = E.n)
    (v : Value) (L : List α) (hs : a.eval s = v) (hown : Own E w base e v L) (v2 : Value) (M : List α) (hx : a.eval x = v2) (hM : Src E w v2 M)
    (hn : L.length + M.length ≤ 1000000000) (hb : bytes ≤ 1000) (hbase : base ≤ w.heap.size)
    (h : ∀ v' w', Own E w' base e v' (L ++ M) → Below base w w' → K (a.put o.dst v') w') : o.wp P a w K Q := by
  obtain ⟨A, c, rfl, hnone, hnews⟩ := hM
  have hone : ∀ u ∈ M.flatMap E.enc, u.oneCell' = true := fun u hu => by
    obtain ⟨y, _, hy⟩ := List.mem_flatMap.1 hu
    exact E.one y u hy
  cases A with
  | none =>
    have hm := hnone rfl
    subst hm
    have hrun := run_append_none (P := P) (w := w) base t o.type e i E.n c ht hi v L.length _ hown
    unfold Oper.wp
    simp [execOp, ho, resolve, invoke, builtin, hs, hx, hrun, Result.andThen]
    refine h v w ?_ (Below.refl _ _)
    rw [List.append_nil]; exact hown
  | some ad =>
    refine wp_append_own w s x t ho base e i z E.n bytes ht hi hz hsize hby hzs E.pos v L.length _ hs hown ad M.length c (M.flatMap E.enc) hx (flat_len E.enc E.n M (fun x _ => E.len x)) (hnews ad rfl) hone (by unfold maxLen; omega) ?_ hbase ?_
    · have : (L.length + M.length) * bytes ≤ 1000000000 * 1000 := Nat.mul_le_mul hn hb
      omega
    · intro v' w' h2 h3 _
      refine h v' w' ?_ (grown_below hown h3 hbase)
      show w'.ownsRow base e E.n v' (L ++ M).length ((L ++ M).flatMap E.enc)
      rw [List.flatMap_append, List.length_append]
      exact h2
theorem xor_u8 (a b : UInt8) : bits .xor .u8 (a.toNat : Int) (b.toNat : Int) = ((a ^^^ b).toNat : Int) := by
  have ha := a.toNat_lt
  have hb := b.toNat_lt
  have hx : a.toNat ^^^ b.toNat < 2 ^ 8 := Nat.xor_lt_two_pow (by omega) (by omega)
  have h1 : (BitVec.ofInt 8 (a.toNat : Int)).toNat = a.toNat := by
    rw [BitVec.ofInt_natCast, BitVec.toNat_ofNat]; exact Nat.mod_eq_of_lt (by omega)
  have h2 : (BitVec.ofInt 8 (b.toNat : Int)).toNat = b.toNat := by
    rw [BitVec.ofInt_natCast, BitVec.toNat_ofNat]; exact Nat.mod_eq_of_lt (by omega)
  show IntKind.u8.wrap ((BitVec.ofInt 8 (a.toNat : Int) ^^^ BitVec.ofInt 8 (b.toNat : Int)).toNat : Int) = _
  rw [BitVec.toNat_xor, h1, h2, UInt8.toNat_xor]
  simp [IntKind.wrap, IntKind.bits, IntKind.signed]
  omega
theorem xor_ne8 {a b : UInt8} (h : b ≠ 0) : a ≠ a ^^^ b := by
  intro e
  apply h
  have h1 : a ^^^ a = a ^^^ (a ^^^ b) := by rw [← e]
  rw [← UInt8.xor_assoc, UInt8.xor_self, UInt8.zero_xor] at h1
  exact h1.symm
end Go.Proofs.YtmhefhapighloaaGreatDoor
