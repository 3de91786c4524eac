/- Parts of the proof: Rl, Ix, Law, LawS, Rn, Rw, Tf, Tg, Ds. -/
import Derived.Test.YtfgmikgghpflbaaGreatDoorG03
import Derived.Lib.CutLaws
import Derived.Test.YtfgmikgghpflbaaGreatDoorG01
import Derived.ProofKit
import Derived.ChangeSame
import Derived.HandedShaped
import Derived.Shelf.Vars
import Derived.Test.YtfgmikgghpflbaaGreatDoorG04
namespace Go.Proofs.YtfgmikgghpflbaaGreatDoor
open Go.RowKit
set_option linter.unusedVariables false

/-- Pieces without the byte, joined, are divided again. -/
theorem splL_app (c : UInt8) : ∀ (x l : List UInt8), (∀ b ∈ x, b ≠ c) → splL c (x ++ c :: l) = x :: splL c l
  | [], l, _ => by show (if c = c then [] :: splL c l else _) = _; rw [if_pos rfl]
  | b :: x, l, h => by
    have ih := splL_app c x l (fun y hy => h y (by simp [hy]))
    show (if b = c then [] :: splL c (x ++ c :: l) else match splL c (x ++ c :: l) with | [] => [[b]] | q :: r => (b :: q) :: r) = _
    rw [if_neg (h b (by simp)), ih]
theorem spl_joinX : ∀ (L : List (List UInt8)), L ≠ [] → (∀ x ∈ L, ∀ b ∈ x, b ≠ 44) → splL 44 (joinX L) = L
  | [], h, _ => absurd rfl h
  | [x], _, h => by rw [joinX_one]; exact splL_none (h x (by simp))
  | x :: y :: r, _, h => by
    have e : joinX (x :: y :: r) = x ++ 44 :: joinX (y :: r) := by simp [joinX]
    rw [e, splL_app 44 x _ (h x (by simp)), spl_joinX (y :: r) (by simp) (fun z hz => h z (by simp [hz]))]
theorem joinX_cat (P : List (List UInt8)) (q : List UInt8) : joinX (P ++ [q]) = (P.flatMap fun p => p ++ [44]) ++ q := by
  induction P with
  | nil => simp [joinX]
  | cons a P ih =>
    cases P with
    | nil => simp [joinX]
    | cons b P =>
      have e : joinX (a :: b :: P ++ [q]) = a ++ 44 :: joinX (b :: P ++ [q]) := by simp [joinX]
      rw [e, ih]; simp
theorem joinX_spl (l : List UInt8) : joinX (splL 44 l) = l := by
  obtain ⟨P, q, h⟩ : ∃ P q, splL 44 l = P ++ [q] := ⟨_, _, (List.dropLast_concat_getLast (splL_ne 44 l)).symm⟩
  rw [h, joinX_cat, splL_join 44 l P q h]
open Go.Lib in
theorem splitK_more (c : UInt8) : ∀ (l : List UInt8) (k : Nat), (splL c l).length ≤ k + 1 → splitK [c] 0 k l = splL c l
  | [], k, _ => by
    have h : index ([] : List UInt8) [c] = -1 := rfl
    cases k with
    | zero => rfl
    | succ k => rw [splitK, h]; rfl
  | b :: l, k, hk => by
    have hi := index_one c b l
    unfold splL at hk ⊢
    by_cases e : b = c
    · rw [if_pos e] at hi hk ⊢
      obtain ⟨j, rfl⟩ : ∃ j, k = j + 1 := ⟨k - 1, by have := splL_ne c l; have h2 : 0 < (splL c l).length := List.length_pos_iff.2 this; rw [List.length_cons] at hk; omega⟩
      rw [splitK, hi]
      have ih := splitK_more c l j (by rw [List.length_cons] at hk; omega)
      simp [ih]
    · rw [if_neg e] at hi hk ⊢
      have hk2 : (splL c l).length ≤ k + 1 := by
        cases hs : splL c l with
        | nil => simp
        | cons q r => rw [hs] at hk; simpa using hk
      have ih := splitK_more c l k hk2
      cases k with
      | zero =>
        have ih' : [l] = splL c l := ih
        rw [← ih']; rfl
      | succ k =>
        rcases index_spec l [c] with ⟨h1, _⟩ | ⟨i, h1, _⟩
        · rw [h1] at hi
          have hm : index (b :: l) [c] = -1 := hi
          rw [splitK, h1] at ih
          have ih' : [l] = splL c l := ih
          rw [splitK, hm, ← ih']; rfl
        · have hm : index (b :: l) [c] = ((i + 1 : Nat) : Int) := by
            rw [hi, h1, if_neg (by rw [beq_iff_eq]; omega)]; omega
          rw [splitK, h1, if_neg (by rw [beq_iff_eq]; omega)] at ih
          rw [splitK, hm, if_neg (by rw [beq_iff_eq]; omega), ← ih]
          simp
def inR (n : Int) : Bool := inB n (-1000000000000) 1000000000000
def pieceB (p : ByteArray) : Bool := numOk p && inR (numV p)
def minusS : ByteArray := ⟨#[45]⟩
/-- The list that a text is of. -/
def rlF (s : ByteArray) : Option (List Int) := if s = minusS then some [] else if decide ((splS 44 s).length ≤ 64) && (splS 44 s).all pieceB then some ((splS 44 s).map numV) else none
theorem num_parts {p : ByteArray} (h : numOk p = true) : Lib.itoa (numV p) = p.data.toList ∧ numL p.data.toList = some (numV p) := by
  unfold numOk at h
  cases hn : numL p.data.toList with
  | none => rw [hn] at h; cases h
  | some v =>
    have hv := (num_some hn).2
    rw [hv]
    exact ⟨(numL_back hn).1, rfl⟩
theorem itoa_bytes (v : Int) : ∀ b ∈ Lib.itoa v, b ≠ 44 ∧ b ≠ 32 := by
  have hd : ∀ u, ∀ b ∈ dig u, b ≠ 44 ∧ b ≠ 32 := fun u b hb => by
    have := List.all_eq_true.1 (dig_all u) b hb
    unfold digB at this
    simp only [Bool.and_eq_true, decide_eq_true_eq] at this
    constructor <;> (intro e; subst e; revert this; decide)
  intro b hb
  by_cases h0 : v = 0
  · subst h0; rw [itoa_zeroL] at hb; simp at hb; subst hb; decide
  · rw [itoa_ne h0, List.mem_append] at hb
    rcases hb with hb | hb
    · split at hb
      · simp at hb; subst hb; decide
      · cases hb
    · exact hd _ b hb
theorem listS_data {xs : List Int} (h : xs ≠ []) : (listS xs).data.toList = joinX (xs.map Lib.itoa) := by unfold listS; rw [if_neg h]
theorem splS_list {xs : List Int} (h : xs ≠ []) : splS 44 (listS xs) = xs.map decS := by
  refine (splS_of ?_).symm
  rw [listS_data h, spl_joinX _ (by simpa using h) (fun x hx b hb => by
    obtain ⟨v, _, rfl⟩ := List.mem_map.1 hx
    exact (itoa_bytes v b hb).1), List.map_map]
  congr 1
theorem numOk_dec {v : Int} (h : inR v = true) : numOk (decS v) = true ∧ numV (decS v) = v := by
  have hb : v.natAbs < 10 ^ 18 := by
    unfold inR inB at h
    simp only [Bool.and_eq_true, decide_eq_true_eq] at h
    have : (10 : Nat) ^ 18 = 1000000000000000000 := by decide
    omega
  exact num_some (by rw [show (decS v).data.toList = Lib.itoa v from by unfold decS; simp]; exact numL_itoa v hb)
/-- A text that is a list's text is read as that list. -/
theorem rlF_list {xs : List Int} (h : fitsL xs = true) : rlF (listS xs) = some xs := by
  unfold fitsL at h
  simp only [Bool.and_eq_true, decide_eq_true_eq] at h
  unfold rlF
  by_cases hn : xs = []
  · subst hn; rfl
  · have hm : ¬ listS xs = minusS := by
      intro e
      have hs := splS_list hn
      rw [e, show splS 44 minusS = [minusS] from rfl] at hs
      cases xs with
      | nil => exact hn rfl
      | cons x r =>
        rw [List.map_cons] at hs
        injection hs with h1 _
        have h2 := congrArg (fun s : ByteArray => s.data.toList) h1
        have h3 : ([45] : List UInt8) = Lib.itoa x := by simpa [decS, minusS] using h2
        by_cases h0 : x = 0
        · subst h0; rw [itoa_zeroL] at h3; cases h3
        · have h4 := dig_first x.natAbs (by omega)
          obtain ⟨c, r', h5⟩ := h4
          have h6 := List.all_eq_true.1 (dig_all x.natAbs) c (by rw [h5]; simp)
          rw [itoa_ne h0, h5] at h3
          split at h3
          · simp at h3
          · simp at h3; rw [← h3.1] at h6; revert h6; decide
    rw [if_neg hm, splS_list hn, List.length_map, decide_eq_true h.1, List.map_map]
    have ha : (xs.map decS).all pieceB = true := by
      rw [List.all_eq_true]
      intro y hy
      obtain ⟨v, hv, rfl⟩ := List.mem_map.1 hy
      have hr : inR v = true := List.all_eq_true.1 h.2 v hv
      obtain ⟨h1, h2⟩ := numOk_dec hr
      unfold pieceB; rw [h1, h2, hr]; rfl
    rw [ha, if_pos (by rfl)]
    congr 1
    have : (xs.map (numV ∘ decS)) = xs.map id := List.map_congr_left (fun v hv => (numOk_dec (List.all_eq_true.1 h.2 v hv)).2)
    rw [this, List.map_id]
/-- What is read spells the text. -/
theorem rlF_text {s : ByteArray} {xs : List Int} (h : rlF s = some xs) : fitsL xs = true ∧ listS xs = s := by
  unfold rlF at h
  split at h
  · rename_i hm
    injection h with h
    subst h
    exact ⟨rfl, by rw [hm]; rfl⟩
  · split at h
    · rename_i hc
      simp only [Bool.and_eq_true, decide_eq_true_eq] at hc
      injection h with h
      have hall := List.all_eq_true.1 hc.2
      subst h
      constructor
      · unfold fitsL
        rw [List.length_map, decide_eq_true hc.1, Bool.true_and, List.all_eq_true]
        intro y hy
        obtain ⟨p, hp, rfl⟩ := List.mem_map.1 hy
        have := hall p hp
        unfold pieceB at this
        simp only [Bool.and_eq_true] at this
        exact this.2
      · have hne : (splS 44 s).map numV ≠ [] := by
          have := splS_data 44 s
          intro e
          have h2 : splS 44 s = [] := by simpa using e
          rw [h2] at this
          exact splL_ne 44 _ this.symm
        refine data_inj ?_
        rw [listS_data hne, List.map_map]
        have : (splS 44 s).map (Lib.itoa ∘ numV) = (splS 44 s).map (fun x : ByteArray => x.data.toList) := List.map_congr_left (fun p hp => by
          have := hall p hp
          unfold pieceB at this
          simp only [Bool.and_eq_true] at this
          exact (num_parts this.1).1)
        rw [this, splS_data, joinX_spl]
    · cases h
theorem splS_len (c : UInt8) (s : ByteArray) : (splS c s).length ≤ s.size + 1 := by
  have hl : ∀ l : List UInt8, (splL c l).length ≤ l.length + 1 := by
    intro l
    induction l with
    | nil => simp [splL]
    | cons b l ih =>
      unfold splL
      split
      · rw [List.length_cons, List.length_cons]; omega
      · cases hs : splL c l with
        | nil => simp
        | cons q r => rw [hs] at ih; rw [List.length_cons] at ih ⊢; rw [List.length_cons]; omega
  unfold splS; rw [List.length_map]
  have := hl s.data.toList
  rwa [dataL_len] at this
/-- The pieces that SplitN(s, ",", 65) gives. -/
def cutN (s : ByteArray) : List ByteArray := Lib.splitB ⟨#[44]⟩ 0 (min 65 (s.size + 1) - 1) s
theorem cutN_data (s : ByteArray) : (cutN s).map (fun x : ByteArray => x.data.toList) = Lib.splitK [44] 0 (min 65 (s.size + 1) - 1) s.data.toList := Lib.splitB_data ⟨#[44]⟩ 0 _ s
theorem cutN_few {s : ByteArray} (h : (splS 44 s).length ≤ 64) : cutN s = splS 44 s := by
  refine splS_of ?_
  have h2 := splS_len 44 s
  have h3 : (splL 44 s.data.toList).length = (splS 44 s).length := by unfold splS; rw [List.length_map]
  rw [cutN_data]
  exact splitK_more 44 s.data.toList _ (by omega)
theorem splitB_len (sep : ByteArray) : ∀ (k : Nat) (s : ByteArray), (Lib.splitB sep 0 k s).length ≤ k + 1 ∧ ∀ x ∈ Lib.splitB sep 0 k s, x.size ≤ s.size
  | 0, s => ⟨by rw [Lib.splitB_zero]; simp, by intro x hx; rw [Lib.splitB_zero, List.mem_singleton] at hx; subst hx; omega⟩
  | k + 1, s => by
    unfold Lib.splitB
    split
    · exact ⟨by simp, by intro x hx; rw [List.mem_singleton] at hx; subst hx; omega⟩
    · obtain ⟨h1, h2⟩ := splitB_len sep k (s.extract ((Lib.indexB s sep).toNat + sep.size) s.size)
      refine ⟨by rw [List.length_cons]; omega, ?_⟩
      intro x hx
      rcases List.mem_cons.1 hx with rfl | hx
      · rw [ByteArray.size_extract]; omega
      · have := h2 x hx
        rw [ByteArray.size_extract] at this
        omega
theorem cutN_len (s : ByteArray) : (cutN s).length ≤ 65 := by have := (splitB_len ⟨#[44]⟩ (min 65 (s.size + 1) - 1) s).1; unfold cutN; omega
theorem cutN_size (s : ByteArray) : ∀ x ∈ cutN s, x.size ≤ s.size := (splitB_len ⟨#[44]⟩ _ s).2
theorem cutN_empty : cutN ⟨#[]⟩ = [⟨#[]⟩] := rfl
theorem rlF_bad {s : ByteArray} {k : Nat} (hm : ¬ s = minusS) (hk : k < (cutN s).length) (h : numOk (cutN s)[k] = false) : rlF s = none := by
  unfold rlF; rw [if_neg hm]
  split
  · rename_i hc
    simp only [Bool.and_eq_true, decide_eq_true_eq] at hc
    have e := cutN_few hc.1
    have := List.all_eq_true.1 hc.2 (cutN s)[k] (by rw [← e]; exact List.getElem_mem hk)
    unfold pieceB at this
    rw [h] at this; cases this
  · rfl
theorem rlF_end {s : ByteArray} (hm : ¬ s = minusS) (hall : ∀ x ∈ cutN s, numOk x = true) : (listT ((cutN s).map numV) = s → rlF s = some ((cutN s).map numV)) ∧ (¬ listT ((cutN s).map numV) = s → rlF s = none) := by
  constructor
  · intro h
    unfold listT at h
    split at h
    · rename_i hf
      have := rlF_list hf
      rw [h] at this
      exact this
    · subst h
      have := hall ⟨#[]⟩ (by rw [cutN_empty]; simp)
      exact absurd this (by decide)
  · intro h
    cases hr : rlF s with
    | none => rfl
    | some xs =>
      obtain ⟨h1, h2⟩ := rlF_text hr
      have hlen : (splS 44 s).length ≤ 64 ∧ xs = (splS 44 s).map numV := by
        unfold rlF at hr
        rw [if_neg hm] at hr
        split at hr
        · rename_i hc
          simp only [Bool.and_eq_true, decide_eq_true_eq] at hc
          injection hr with hr
          exact ⟨hc.1, hr.symm⟩
        · cases hr
      refine absurd ?_ h
      rw [cutN_few hlen.1, ← hlen.2]
      unfold listT; rw [if_pos h1, h2]
def RlR (w : World) (s : ByteArray) (e : Ending) (w' : World) : Prop := ∃ v, e = .returned (.tuple #[v, .bool (rlF s).isSome]) ∧ New fInt.cod w v ((rlF s).getD []) w'
theorem RlR.none_ {w w' : World} {s : ByteArray} (h : rlF s = none) (hb : Below w.heap.size w w') : RlR w s (.returned (.tuple #[.slice none 0 0, .bool false])) w' := ⟨_, by rw [h]; rfl, by rw [h]; exact New.nil hb⟩
theorem RlR.some_ {w w' : World} {s : ByteArray} {v : Value} {xs : List Int} (h : rlF s = some xs) (hn : New fInt.cod w v xs w') : RlR w s (.returned (.tuple #[v, .bool true])) w' := ⟨_, by rw [h]; rfl, by rw [h]; exact hn⟩
theorem infoIntR : (Tryz.prog.info? 2).map (fun i => (i.zero, i.size, i.bytes)) = some (some (.int .i64 0), 1, 8) := by kernel_rfl
theorem numV_ok (p : ByteArray) : fInt.ok (numV p) := by
  unfold numV
  cases h : numL p.data.toList with
  | none => show _ ∧ _; simp
  | some v =>
    have := (numL_back h).2.1
    have e : (10 : Nat) ^ 18 = 1000000000000000000 := by decide
    show _ ∧ _
    simp only [Option.getD_some]
    omega
theorem numVs_ok (L : List ByteArray) : ∀ x ∈ L.map numV, fInt.ok x := by
  intro x hx; obtain ⟨p, _, rfl⟩ := List.mem_map.1 hx; exact numV_ok p
theorem spl_sizeR (c : UInt8) (s : ByteArray) : ∀ x ∈ splS c s, x.size ≤ s.size := by
  intro x hx
  obtain ⟨P, q, h1, h2⟩ := splS_cut c s
  have h3 := congrArg List.length h2
  rw [List.length_append, dataL_len, dataL_len] at h3
  rw [h1, List.mem_append] at hx
  rcases hx with hx | hx
  · obtain ⟨A, B, e⟩ := List.append_of_mem hx
    rw [e, List.flatMap_append, List.flatMap_cons, List.length_append, List.length_append, List.length_append, dataL_len] at h3
    omega
  · rw [List.mem_singleton] at hx; subst hx; omega
theorem cutN_any (s : ByteArray) (m : Int) (w : World) (hs : s.size ≤ 1048576) (hm : w.cell? ⟨0, 0, none⟩ = some (.int .i64 m)) :
    Calls Tryz.prog 222 #[.string s, .string ⟨#[44]⟩, .int .i64 65] w fun e w' => ∃ v fp, e = .returned v ∧ Sl fStr.cod w' v (cutN s) fp ∧ Below w.heap.size w w' := by
  have hlen := cutN_len s
  have hsz := cutN_size s
  have hl2 := (splitB_len ⟨#[44]⟩ (min 65 (s.size + 1) - 1) s).1
  refine (Tryz.strings_SplitN s ⟨#[44]⟩ 65 m w (by omega) hm (Nat.le_refl 1) (by decide) (by decide)).mono ?_
  rintro e w' ⟨rfl, rfl⟩
  refine ⟨_, [w.heap.size], rfl, ?_, (Below.refl _ _).alloc (Nat.le_refl _) _⟩
  have hpos : 0 < (cutN s).length := by
    unfold cutN
    cases hk : (min 65 (s.size + 1) - 1) with
    | zero => rw [Lib.splitB_zero]; simp
    | succ k => unfold Lib.splitB; split <;> simp
  refine Sl.of_cells (by show (cutN s).length ≤ _; unfold cutN at hpos ⊢; omega) (by omega) (by simp) (fun j hj => ⟨?_, ?_⟩) (fun x hx => by have := hsz x hx; show x.size ≤ 9223372036854775807; omega) hpos
  · have e1 : (cutN s).flatMap fStr.enc = (cutN s).map Value.string := by
      generalize cutN s = L
      induction L with
      | nil => rfl
      | cons x L ih => rw [List.flatMap_cons, List.map_cons, ih]; rfl
    have hj2 : j < (cutN s).length := by
      have h : j < ((cutN s).flatMap fStr.enc).length := hj
      rw [e1, List.length_map] at h; exact h
    rw [World.cell?_alloc_at _ _ _ _ rfl]
    show (Lib.cellsOf (cutN s) (min 65 (s.size + 1)))[0 + j]? = ((cutN s).flatMap fStr.enc)[j]?
    rw [e1, Nat.zero_add]
    unfold Lib.cellsOf
    rw [List.getElem?_toArray, List.getElem?_append_left (by rw [List.length_map]; exact hj2)]
  · rw [World.frozen?_alloc_at _ _ _ _ rfl]
set_option maxRecDepth 100000 in
set_option maxHeartbeats 4000000 in
theorem implReadList_any (s : ByteArray) (m : Int) (w : World) (hs : s.size ≤ 1048576) (hm9 : w.cell? ⟨0, 0, none⟩ = some (.int .i64 m)) (ht : RdTabs w) :
    Calls Tryz.prog 182 #[.string s] w fun e w' => RlR w s e w' := by
  obtain ⟨i0, hi, hz0, hz1, hz2⟩ := info_parts infoIntR
  by_cases hm : s = minusS
  · have e1 : (s.toList == [45]) = true := by rw [hm, beq_iff_eq]; unfold minusS; simp [ByteArray.toList_eq]
    have HR := Lib.hid (show rlF s = some [] from by unfold rlF; rw [if_pos hm])
    clear hm
    go_enter Tryz.func182, Tryz.ntmps182
    go_wp2
    go_ret2
    exact RlR.some_ HR.out (New.nil (Below.refl _ _))
  · have e1 : (s.toList == [45]) = false := by
      rw [beq_eq_false_iff_ne]; intro e
      exact hm (bytes_toList_inj (e.trans (by unfold minusS; simp [ByteArray.toList_eq])))
    have hsz := cutN_size s
    have hl65 := cutN_len s
    have HBAD : Hid (∀ k (hk : k < (cutN s).length), numOk (cutN s)[k] = false → rlF s = none) := fun k hk h => rlF_bad hm hk h
    have HEND : Hid ((∀ x ∈ cutN s, numOk x = true) → (listT ((cutN s).map numV) = s → rlF s = some ((cutN s).map numV)) ∧ (¬ listT ((cutN s).map numV) = s → rlF s = none)) := fun h => rlF_end hm h
    clear hm
    go_enter Tryz.func182, Tryz.ntmps182
    go_wp2_with fail
    refine (cutN_any s m _ hs hm9).mono ?_
    rintro e w1 ⟨v1, fp1, rfl, hsl, hb1⟩
    have ht1 := ht.below hb1
    generalize cutN s = P at *
    obtain ⟨A, cap, rfl, hle, hca⟩ := hsl.form
    go_wp2
    go_loopw [4, 14] (fun v i wr => ∃ k : Nat, k ≤ P.length ∧ i = .int .i64 k ∧ Hid ((P.take k).all numOk = true) ∧ Own fInt wr w1.heap.size 2 v ((P.map numV).take k) ∧ Below w1.heap.size w1 wr) (fun _ i _ => P.length - (intOf i).toNat)
    case atStart => exact ⟨0, Nat.zero_le _, rfl, rfl, Own.nil fInt _ _ _, Below.refl _ _⟩
    case round =>
      obtain ⟨k, hk, rfl, HA, ho, hb⟩ := hrel
      by_cases hlt : k < P.length
      · obtain ⟨b, off, rfl, _, _, hc, _⟩ := (hsl.below' hb).cell1 rfl hlt rfl
        have hps := hsz P[k] (List.getElem_mem hlt)
        have hkl : ((P.map numV).take k).length ≤ 65 := by rw [List.length_take, List.length_map]; omega
        go_wp2_with fail
        refine (ReadDecimal_any P[k] _ (by omega) (ht1.below hb)).mono ?_
        rintro e w2 ⟨rfl, hb2⟩
        have hB2 := hb.trans (hb2.mono hb.size)
        cases hn : numOk P[k]
        · have HN := Lib.hid (HBAD.out k hlt hn)
          clear ho hn
          go_wp2
          go_ret2
          exact RlR.none_ HN.out (hb1.trans (hB2.mono hb1.size))
        · have HA2 : Hid ((P.take (k + 1)).all numOk = true) := by
            show _ = _
            rw [List.take_succ_eq_append_getElem hlt, List.all_append, HA.out]; simp [hn]
          have HST : Hid ((P.map numV).take (k + 1) = (P.map numV).take k ++ [numV P[k]]) := by show _ = _; rw [List.take_succ_eq_append_getElem (by rw [List.length_map]; exact hlt), List.getElem_map]
          have ho3 : w2.ownsRow w1.heap.size 2 1 u4 ((P.map numV).take k).length (((P.map numV).take k).flatMap fInt.enc) := ho.below hb2
          have hs2 := hB2.size
          clear ho hn
          go_wp2_with (at_builtin; refine wpList_append_one rfl _ _ 37 rfl w1.heap.size 2 i0 (.int .i64 0) 1 8 Tryz.underlying37 hi hz0 hz1 hz2 rfl (by decide) u4 ((P.map numV).take k).length _ rfl ho3 [.int .i64 (numV P[k])] rfl (by intro u hu; rw [List.mem_singleton] at hu; subst hu; rfl) rfl (by omega) (by decide) hs2 ?_)
          intro v' u hown hbu _ _
          have hbu' := hB2.trans hbu
          have ho4 : Own fInt u w1.heap.size 2 v' ((P.map numV).take (k + 1)) := by rw [HST.out]; exact Own.push _ (by rw [List.length_take, List.length_map]; omega) hown
          clear hown
          go_wp2
          go_roundw
          case rel => exact ⟨k + 1, by omega, by go_num, HA2, ho4, hbu'⟩
          case measure => simp [intOf]; omega
      · obtain rfl : k = P.length := by omega
        rw [← List.length_map (f := numV), List.take_length] at ho
        have hall : ∀ x ∈ P, numOk x = true := by
          have h := HA.out
          rw [List.take_length] at h
          exact List.all_eq_true.1 h
        obtain ⟨hE1, hE2⟩ := HEND.out hall
        have hoks := numVs_ok P
        obtain ⟨fpy, hsy, hlo, hnd⟩ := Sl.of_own (n := (P.map numV).length) rfl ho hoks
        have hls := listT_size hoks (by rw [List.length_map]; omega)
        clear hall
        go_wp2_with fail
        refine (ListText_any _ (P.map numV) fpy _ hsy (ht1.below hb).tab).mono ?_
        rintro e w2 ⟨rfl, hb2⟩
        have hB2 := hb.trans (hb2.mono hb.size)
        by_cases hq : listT (P.map numV) = s
        · have HY := Lib.hid (hE1 hq)
          have e2 : ((listT (P.map numV)).toList == s.toList) = true := eqS_true.2 hq
          have hnew := ((ho.below hb2).new hB2 hoks).later hb1
          clear hE1 hE2 hq hsy ho
          go_wp2
          go_ret2
          exact RlR.some_ HY.out hnew
        · have HN := Lib.hid (hE2 hq)
          have e2 : ((listT (P.map numV)).toList == s.toList) = false := bytes_beq_false hq
          clear hE1 hE2 hq hsy ho
          go_wp2
          go_ret2
          exact RlR.none_ HN.out (hb1.trans (hB2.mono hb1.size))

end Go.Proofs.YtfgmikgghpflbaaGreatDoor

namespace Go.Proofs.YtfgmikgghpflbaaGreatDoor
open Go.RowKit
set_option linter.unusedVariables false

def ixL (c : UInt8) : List UInt8 → Nat
  | [] => 0
  | b :: l => if b = c then 0 else ixL c l + 1
theorem ixL_cons (c b : UInt8) (l : List UInt8) : ixL c (b :: l) = if b = c then 0 else ixL c l + 1 := rfl
theorem ixL_le (c : UInt8) : ∀ l, ixL c l ≤ l.length
  | [] => Nat.le_refl _
  | b :: l => by
    rw [ixL_cons]; split
    · simp
    · have := ixL_le c l; simp; omega
theorem ixL_index (c : UInt8) : ∀ l, Lib.index l [c] = if ixL c l < l.length then (ixL c l : Int) else -1
  | [] => rfl
  | b :: l => by
    rw [index_one, ixL_index c l, ixL_cons]
    by_cases e : b = c
    · rw [if_pos e, if_pos e, if_pos (by simp)]; rfl
    · rw [if_neg e, if_neg e]
      by_cases h : ixL c l < l.length
      · rw [if_pos h, if_neg (by rw [beq_iff_eq]; omega), if_pos (by simp; omega)]; push_cast; rfl
      · rw [if_neg h, if_pos (by decide), if_neg (by simp; omega)]
theorem ixL_hit {c : UInt8} {l : List UInt8} {k : Nat} (hk : k < l.length) (h : l[k] = c) : ixL c (l.drop k) = 0 := by
  rw [List.drop_eq_getElem_cons hk, ixL_cons, if_pos h]
theorem ixL_no {c : UInt8} {l : List UInt8} {k : Nat} (hk : k < l.length) (h : l[k] ≠ c) : ixL c (l.drop k) = ixL c (l.drop (k + 1)) + 1 := by
  rw [List.drop_eq_getElem_cons hk, ixL_cons, if_neg h]
theorem ixL_end {c : UInt8} {l : List UInt8} {k : Nat} (hk : l.length ≤ k) : ixL c (l.drop k) = 0 := by
  rw [List.drop_of_length_le hk]; rfl
theorem indexB_one (c : UInt8) (s : ByteArray) : Lib.indexB s ⟨#[c]⟩ = if ixL c s.data.toList < s.size then (ixL c s.data.toList : Int) else -1 := by
  have h := ixL_index c s.data.toList
  have h2 : s.data.toList.length = s.size := by simp
  rw [h2] at h
  exact h

end Go.Proofs.YtfgmikgghpflbaaGreatDoor

namespace Go.Proofs.YtfgmikgghpflbaaGreatDoor
open Go.RowKit Go.WideShapes Go.ChangeShapes Go.ChangeAt

theorem Tryz.own : ownKnob Tryz.prog.godebug = none := by kernel_rfl
theorem Tryz.laidOut : laidOutB Tryz.prog = true := by kernel_rfl

section
variable {H : Type} {enc : TypeId × Value → H} {P : Program}
theorem post_of_below {f : Func} {s : ChangeSpec} {apart fresh handsOn again : Bool} {W W' : World} {args : Array Value} {v : Value} {ds gs : List (DataW H)} {before pa pv : List MemPlace}
    (hW : DataW.Whole enc P f.params.toList s.vars apart W args.toList ds gs before)
    (hres : ∀ (b : Nat) (sp : Nat → Bool) (hd : Bool), DataW.TrodAll enc P W' b sp hd f.resultTypes.toList (v.resultList f.resultTypes.size) (s.fn H (ds ++ gs)).results [])
    (hargs : ∀ sp : Nat → Bool, (∀ p ∈ before, sp p.block = true) → DataW.TrodAll enc P W' 0 sp true f.params.toList args.toList (s.fn H (ds ++ gs)).args pa)
    (hvars : ∀ sp : Nat → Bool, (∀ p ∈ before, sp p.block = true) → DataW.TrodVars enc P W' sp s.vars (s.fn H (ds ++ gs)).vars pv)
    (hps : before = pa ++ pv) (hb : Below W.heap.size W W')
    (hok : ∀ (j : Nat) (t : TypeId) (r : Value), f.resultTypes[j]? = some t → (v.resultList f.resultTypes.size)[j]? = some r → Value.okWide P W' .any 0 t r) :
    s.post enc P f apart fresh handsOn again W args v W' := by
  have hlt : ∀ p ∈ before, p.block < W.heap.size := fun p hp => hW.lt p hp
  have hold : ∀ p ∈ before, (fun b => decide (b < W.heap.size)) p.block = true := fun p hp => by simpa using hlt p hp
  refine ⟨ds, gs, before, [], pa, pv, hW, hres _ _ _, hargs _ hold, hvars _ hold, World.keptBut_mono (fun p hp => ⟨hp, ?_⟩) (hb.frame (· ∈ before)), fun _ => ?_⟩
  · rw [hps, List.mem_append] at hp
    exact Or.inr hp
  · obtain ⟨_, _, _, _, _, hz, hn⟩ := hW
    refine ⟨hok, _, _, ([] ++ pa) ++ pv, ⟨[] ++ pa, pv, trodAll_append (hargs _ (fun _ _ => rfl)) (hres _ _ _), hvars _ (fun _ _ => rfl), rfl, ?_, ?_⟩, ?_⟩
    · intro b off hp
      have hin : MemPlace.cell b off ∈ before := by rw [hps]; simpa using hp
      rw [hb.frozen (hlt _ hin)]
      exact hz b off hin
    · intro ha
      have := hn ha
      rw [hps] at this
      simpa using this
    · intro p hp _
      rw [hps]
      simpa using hp
end

theorem trodAll_below {H : Type} {enc : TypeId × Value → H} {P : Program} (hl : laidOutB P = true) {W W' : World} (hb : Below W.heap.size W W') {sp : Nat → Bool} :
    ∀ (ts : List TypeId) (vs : List Value) (ds : List (DataW H)) (ps : List MemPlace), (∀ t ∈ ts, P.readableRec t = true ∧ t < P.types.size) → DataW.TrodAll enc P W 0 (fun _ => true) true ts vs ds ps → (∀ x ∈ ps, x.block < W.heap.size) → (∀ x ∈ ps, sp x.block = true) → DataW.TrodAll enc P W' 0 sp true ts vs ds ps
  | [], [], [], ps, _, h, _, _ => h
  | t :: ts, v :: vs, d :: ds, ps, hr, h, hlt, hsp => by
    obtain ⟨p, q, h1, h2, rfl⟩ := h
    obtain ⟨r1, r2⟩ := hr t (by simp)
    exact ⟨p, q, WideElems.Trod_stays hl r1 r2 h1 (fun x hx => hb.same (hlt x (by simp [hx]))) (fun x hx => hsp x (by simp [hx])), trodAll_below hl hb ts vs ds q (fun t ht => hr t (by simp [ht])) h2 (fun x hx => hlt x (by simp [hx])) (fun x hx => hsp x (by simp [hx])), rfl⟩
  | [], _ :: _, _, _, _, h, _, _ => by cases h
  | [], [], _ :: _, _, _, h, _, _ => by cases h
  | _ :: _, [], _, _, _, h, _, _ => by cases h
  | _ :: _, _ :: _, [], _, _, h, _, _ => by cases h

theorem trodAll_len {H : Type} {enc : TypeId × Value → H} {P : Program} {W : World} {b : Nat} {sp : Nat → Bool} {hd : Bool} : ∀ (ts : List TypeId) (vs : List Value) (ds : List (DataW H)) (ps : List MemPlace), DataW.TrodAll enc P W b sp hd ts vs ds ps → ds.length = ts.length
  | [], [], [], _, _ => rfl
  | _ :: ts, _ :: vs, _ :: ds, _, h => by obtain ⟨p, q, h1, h2, rfl⟩ := h; simp [trodAll_len ts vs ds q h2]
  | [], _ :: _, _, _, h => by cases h
  | [], [], _ :: _, _, h => by cases h
  | _ :: _, [], _, _, h => by cases h
  | _ :: _, _ :: _, [], _, h => by cases h

set_option maxRecDepth 100000 in
theorem law_lifted {F : FuncId} {fn : Func} {s : ChangeSpec} (os : Os) (started : os.Started) (H : Type) (enc : TypeId × Value → H)
    (hfn : Tryz.checked.prog.funcs[F]? = some fn) (noInit : Tryz.checked.prog.inits.idxOf? F = none)
    (witness : ∃ (w : World) (tape : Tape) (i : Input), w.os = os ∧ (w.forCall tape i).Shaped Tryz.checked.prog ∧ i.vars = [] ∧ Input.okWide Tryz.checked.prog (w.forCall tape i) .any w.heap.size F i ∧
      s.pre6 enc Tryz.checked.prog fn [] false (w.forCall tape i).memory i.args ∧ ({} : Assume).holds Tryz.checked.prog (lone (Frame.enter Tryz.checked.prog F i.args .normal) [] (w.forCall tape i)))
    (hs : s.vars = []) (hres : fn.resultTypes = #[4]) (hread : ∀ t ∈ fn.params.toList, Tryz.prog.readableRec t = true ∧ t < Tryz.prog.types.size)
    (hspec : ∀ ds : List (DataW H), ds.length = fn.params.toList.length → s.fn H ds = { results := [.lit (.bool true)], args := ds })
    (walk : ∀ (W : World) (args : Array Value) (ds : List (DataW H)) (p : List MemPlace), (∀ (j : Nat) t v, fn.params[j]? = some t → args[j]? = some v → ∃ base, Value.okWide Tryz.prog W .any base t v) →
      DataW.TrodAll enc Tryz.prog W 0 (fun _ => true) true fn.params.toList args.toList ds p → W.noneFrozen p → Calls Tryz.prog F args W fun e W' => e = .returned (.bool true) ∧ Below W.heap.size W W') :
    ReturnsInHanded {} Tryz.checked os F .any (s.pre6 enc Tryz.checked.prog fn [] false) (s.post enc Tryz.checked.prog fn false true false false) := by
  refine returnsInHanded_of_change (C := Tryz.checked) Tryz.own started noInit hfn witness ?_
  intro W base args ds gs before hval hW hcnd _
  have hW' := hW
  obtain ⟨p, q, hA, hV, hpq, hfz, hnd⟩ := hW
  rw [hs] at hV
  obtain ⟨rfl, rfl⟩ := trodVars_none hV
  rw [List.append_nil] at hpq
  subst hpq
  refine (walk W args ds _ (fun j t v h1 h2 => ⟨base, hval j t v h1 h2⟩) hA hfz).mono fun e W' ⟨he, hb⟩ => ?_
  subst he
  have hsp : s.fn H (ds ++ []) = { results := [.lit (.bool true)], args := ds } := by
    rw [List.append_nil]; exact hspec ds (trodAll_len _ _ _ _ hA)
  have hlt := fun x hx => hW'.lt x hx
  refine ⟨_, rfl, post_of_below (pa := before) (pv := []) hW' (fun b sp hd => ?_) (fun sp h => ?_) (fun sp h => ?_) (by simp) hb ?_⟩
  · rw [hsp, hres]; exact trodAll_mk1 (shut_bool Tryz.underlying4 _)
  · rw [hsp]; exact trodAll_below Tryz.laidOut hb _ _ _ _ hread hA hlt h
  · rw [hsp, hs]; rfl
  · rw [hres]; exact fun j t r h1 h2 => ok_one (f := fn) hres rfl (okWide_bool_mk Tryz.underlying4 _) j t r (by rw [hres]; exact h1) (by rw [hres]; exact h2)

end Go.Proofs.YtfgmikgghpflbaaGreatDoor

namespace Go.Proofs.YtfgmikgghpflbaaGreatDoor
open Go.RowKit Go.WideShapes Go.ChangeShapes Go.ChangeAt

set_option maxRecDepth 100000 in
theorem law_liftedS {F : FuncId} {fn : Func} {s : ChangeSpec} (os : Os) (started : os.Started) (H : Type) (enc : TypeId × Value → H)
    (hfn : Tryz.checked.prog.funcs[F]? = some fn) (noInit : Tryz.checked.prog.inits.idxOf? F = none)
    (witness : ∃ (w : World) (tape : Tape) (i : Input), w.os = os ∧ (w.forCall tape i).Shaped Tryz.checked.prog ∧ i.vars = [] ∧ Input.okWide Tryz.checked.prog (w.forCall tape i) .any w.heap.size F i ∧
      s.pre6 enc Tryz.checked.prog fn [] false (w.forCall tape i).memory i.args ∧ ({} : Assume).holds Tryz.checked.prog (lone (Frame.enter Tryz.checked.prog F i.args .normal) [] (w.forCall tape i)))
    (hs : s.vars = []) (hres : fn.resultTypes = #[4]) (hread : ∀ t ∈ fn.params.toList, Tryz.prog.readableRec t = true ∧ t < Tryz.prog.types.size)
    (hspec : ∀ ds : List (DataW H), ds.length = fn.params.toList.length → s.fn H ds = { results := [.lit (.bool true)], args := ds })
    (walk : ∀ (W : World) (args : Array Value) (ds : List (DataW H)) (p : List MemPlace), W.ShapedOpen Tryz.prog → (∀ (j : Nat) t v, fn.params[j]? = some t → args[j]? = some v → ∃ base, Value.okWide Tryz.prog W .any base t v) →
      DataW.TrodAll enc Tryz.prog W 0 (fun _ => true) true fn.params.toList args.toList ds p → W.noneFrozen p → Calls Tryz.prog F args W fun e W' => e = .returned (.bool true) ∧ Below W.heap.size W W') :
    ReturnsInHanded {} Tryz.checked os F .any (s.pre6 enc Tryz.checked.prog fn [] false) (s.post enc Tryz.checked.prog fn false true false false) := by
  refine returnsInHanded_of_change_shaped (C := Tryz.checked) Tryz.own started noInit hfn witness ?_
  intro W base args ds gs before hval hW hcnd _ hsh _
  have hW' := hW
  obtain ⟨p, q, hA, hV, hpq, hfz, hnd⟩ := hW
  rw [hs] at hV
  obtain ⟨rfl, rfl⟩ := trodVars_none hV
  rw [List.append_nil] at hpq
  subst hpq
  refine (walk W args ds _ hsh (fun j t v h1 h2 => ⟨base, hval j t v h1 h2⟩) hA hfz).mono fun e W' ⟨he, hb⟩ => ?_
  subst he
  have hsp : s.fn H (ds ++ []) = { results := [.lit (.bool true)], args := ds } := by
    rw [List.append_nil]; exact hspec ds (trodAll_len _ _ _ _ hA)
  have hlt := fun x hx => hW'.lt x hx
  refine ⟨_, rfl, post_of_below (pa := before) (pv := []) hW' (fun b sp hd => ?_) (fun sp h => ?_) (fun sp h => ?_) (by simp) hb ?_⟩
  · rw [hsp, hres]; exact trodAll_mk1 (shut_bool Tryz.underlying4 _)
  · rw [hsp]; exact trodAll_below Tryz.laidOut hb _ _ _ _ hread hA hlt h
  · rw [hsp, hs]; rfl
  · rw [hres]; exact fun j t r h1 h2 => ok_one (f := fn) hres rfl (okWide_bool_mk Tryz.underlying4 _) j t r (by rw [hres]; exact h1) (by rw [hres]; exact h2)

/-- A variable of the library's own holds some number. -/
theorem maxLen_cell {w : World} (h : w.ShapedOpen Tryz.prog) : ∃ m, w.cell? ⟨0, 0, none⟩ = some (.int .i64 m) :=
  Go.Proofs.cell_of_shapedOpen_int (zero := #[.int .i64 0]) (t := 3) h (of_decide_eq_true (by kernel_rfl)) (by kernel_rfl) rfl (by kernel_rfl) (by kernel_rfl) Tryz.underlying3
theorem cell_below {w w' : World} {a : Addr} {v : Value} (h : Below w.heap.size w w') (c : w.cell? a = some v) : w'.cell? a = some v := (h.cell (block_lt_of_cell c)).trans c
end Go.Proofs.YtfgmikgghpflbaaGreatDoor

namespace Go.Proofs.YtfgmikgghpflbaaGreatDoor
open Go.RowKit
set_option linter.unusedVariables false

def oneK (k : Nat) (b : ByteArray) : Bool := match rlF b with | some xs => decide (xs.length = k) | none => false
def numK (k : Nat) (b : ByteArray) : List Int := match rlF b with | some xs => if xs.length = k then xs else List.replicate k 0 | none => List.replicate k 0
theorem oneK_some {k : Nat} {b : ByteArray} {xs : List Int} (h : rlF b = some xs) : oneK k b = decide (xs.length = k) := by unfold oneK; rw [h]
theorem oneK_none {k : Nat} {b : ByteArray} (h : rlF b = none) : oneK k b = false := by unfold oneK; rw [h]
theorem numK_some {k : Nat} {b : ByteArray} {xs : List Int} (h : rlF b = some xs) (hl : xs.length = k) : numK k b = xs := by unfold numK; rw [h]; exact if_pos hl
theorem oneK_yes {k : Nat} {b : ByteArray} (h : oneK k b = true) : rlF b = some (numK k b) ∧ (numK k b).length = k := by
  cases hr : rlF b with
  | none => rw [oneK_none hr] at h; cases h
  | some xs =>
    rw [oneK_some hr] at h
    have hl : xs.length = k := of_decide_eq_true h
    rw [numK_some hr hl]
    exact ⟨rfl, hl⟩
theorem oneK_no {k : Nat} {b : ByteArray} (h : oneK k b = false) : numK k b = List.replicate k 0 := by
  cases hr : rlF b with
  | none => unfold numK; rw [hr]
  | some xs =>
    rw [oneK_some hr] at h
    have hl : ¬ xs.length = k := of_decide_eq_false h
    unfold numK; rw [hr]; exact if_neg hl
theorem numK_len (k : Nat) (b : ByteArray) : (numK k b).length = k := by
  cases h : oneK k b
  · rw [oneK_no h]; simp
  · exact (oneK_yes h).2
theorem numK_ok {k : Nat} {b : ByteArray} : ∀ x ∈ numK k b, fInt.ok x := by
  cases h : oneK k b
  · rw [oneK_no h]; intro x hx
    have := List.eq_of_mem_replicate hx
    subst this; show _ ∧ _; simp
  · have h1 := (rlF_text (oneK_yes h).1).1
    intro x hx
    unfold fitsL at h1
    simp only [Bool.and_eq_true] at h1
    have := inB_true.1 (List.all_eq_true.1 h1.2 x hx)
    show _ ∧ _
    omega
theorem name_noblank {x : ByteArray} (h : nameB x = true) : ∀ b ∈ x.data.toList, b ≠ 32 := by
  intro b hb e
  subst e
  unfold nameB at h
  simp only [Bool.and_eq_true] at h
  have ha : allNm x.data.toList = true := by first | exact h.2 | exact h.1.2 | exact h.1.1.2 | exact h.1.1.1
  unfold allNm at ha
  have := List.all_eq_true.1 ha 32 hb
  revert this; decide
theorem joinX_bytes : ∀ (L : List (List UInt8)), (∀ x ∈ L, ∀ b ∈ x, b ≠ 32) → ∀ b ∈ joinX L, b ≠ 32
  | [], _, b, hb => by simp [joinX] at hb
  | x :: r, h, b, hb => by
    unfold joinX at hb
    rw [List.mem_append, List.mem_flatMap] at hb
    rcases hb with hb | ⟨y, hy, hb⟩
    · exact h x (by simp) b hb
    · rcases List.mem_cons.1 hb with rfl | hb
      · decide
      · exact h y (by simp [hy]) b hb
theorem listS_noblank (xs : List Int) : ∀ b ∈ (listS xs).data.toList, b ≠ 32 := by
  by_cases h : xs = []
  · subst h; intro b hb; have : b = 45 := by simpa [listS] using hb
    subst this; decide
  · rw [listS_data h]
    exact joinX_bytes _ (fun y hy b hb => by obtain ⟨v, _, rfl⟩ := List.mem_map.1 hy; exact (itoa_bytes v b hb).2)
/-- A list of numbers that was read has the text that it was read from. -/
theorem numK_text {k : Nat} {b : ByteArray} (h : oneK k b = true) : listT (numK k b) = b ∧ ∀ y ∈ b.data.toList, y ≠ 32 := by
  obtain ⟨h1, h2⟩ := rlF_text (oneK_yes h).1
  have e : listT (numK k b) = b := by unfold listT; rw [if_pos h1, h2]
  exact ⟨e, fun y hy => listS_noblank (numK k b) y (by rw [h2]; exact hy)⟩
theorem ixL_split (c : UInt8) : ∀ l : List UInt8, ixL c l < l.length → l = l.take (ixL c l) ++ c :: l.drop (ixL c l + 1) ∧ ∀ b ∈ l.take (ixL c l), b ≠ c
  | [], h => by simp at h
  | b :: l, h => by
    rw [ixL_cons] at h ⊢
    by_cases e : b = c
    · rw [if_pos e]; subst e; exact ⟨rfl, by simp⟩
    · rw [if_neg e] at h ⊢
      obtain ⟨h1, h2⟩ := ixL_split c l (by simpa using h)
      refine ⟨?_, ?_⟩
      · rw [List.take_succ_cons, List.drop_succ_cons, List.cons_append, ← h1]
      · intro x hx
        rw [List.take_succ_cons] at hx
        rcases List.mem_cons.1 hx with rfl | hx
        · exact e
        · exact h2 x hx
theorem ixL_free (c : UInt8) : ∀ l : List UInt8, ¬ ixL c l < l.length → ∀ b ∈ l, b ≠ c
  | [], _ => by simp
  | b :: l, h => by
    rw [ixL_cons] at h
    by_cases e : b = c
    · rw [if_pos e] at h; simp at h
    · rw [if_neg e] at h
      intro x hx
      rcases List.mem_cons.1 hx with rfl | hx
      · exact e
      · exact ixL_free c l (by simpa using h) x hx
theorem cut_cases (l : List UInt8) : ((∀ b ∈ l, b ≠ 32) ∧ Lib.cut l [32] = (l, [], false)) ∨ ∃ x y, l = x ++ 32 :: y ∧ (∀ b ∈ x, b ≠ 32) ∧ Lib.cut l [32] = (x, y, true) := by
  have hi := ixL_index 32 l
  by_cases h : ixL 32 l < l.length
  · obtain ⟨h1, h2⟩ := ixL_split 32 l h
    refine .inr ⟨_, _, h1, h2, ?_⟩
    rw [if_pos h] at hi
    unfold Lib.cut
    rw [hi, if_pos (by omega)]
    rfl
  · refine .inl ⟨ixL_free 32 l h, ?_⟩
    rw [if_neg h] at hi
    unfold Lib.cut
    rw [hi, if_neg (by omega)]
def cA (s : ByteArray) : ByteArray := ⟨(Lib.cut s.data.toList [32]).1.toArray⟩
def cZ (s : ByteArray) : ByteArray := ⟨(Lib.cut s.data.toList [32]).2.1.toArray⟩
theorem cAZ_size (s : ByteArray) : (cA s).size ≤ s.size ∧ (cZ s).size ≤ s.size := by
  have hl : s.data.toList.length = s.size := by simp
  have e1 : (cA s).size = (Lib.cut s.data.toList [32]).1.length := mkL_size _
  have e2 : (cZ s).size = (Lib.cut s.data.toList [32]).2.1.length := mkL_size _
  rw [e1, e2]
  rcases cut_cases s.data.toList with ⟨_, h⟩ | ⟨x, y, hxy, _, h⟩
  · rw [h, ← hl]; exact ⟨Nat.le_refl _, Nat.zero_le _⟩
  · rw [h]
    have := congrArg List.length hxy
    rw [hl, List.length_append, List.length_cons] at this
    show x.length ≤ _ ∧ y.length ≤ _
    omega
/-- A name and a list of numbers behind the first blank. -/
theorem words_of {s : ByteArray} {k : Nat} (h : oneK k (cZ s) = true) : splS 32 s = [cA s, cZ s] ∧ cA s ++ ⟨#[32]⟩ ++ cZ s = s := by
  rcases cut_cases s.data.toList with ⟨_, hc⟩ | ⟨x, y, hxy, hx, hc⟩
  · exfalso
    have : cZ s = ⟨#[]⟩ := by unfold cZ; rw [hc]
    rw [this] at h
    rw [oneK_none (show rlF ⟨#[]⟩ = none from rfl)] at h
    cases h
  · have hA : (cA s).data.toList = x := by unfold cA; rw [hc]
    have hZ : (cZ s).data.toList = y := by unfold cZ; rw [hc]
    have hy := (numK_text h).2
    rw [hZ] at hy
    constructor
    · refine (splS_of ?_).symm
      rw [List.map_cons, List.map_cons, List.map_nil, hA, hZ, hxy, splL_app 32 x y hx, splL_none hy]
    · refine data_inj ?_
      rw [Go.Joins.data_append, Go.Joins.data_append, hA, hZ, hxy]; simp
theorem words_back {s a b : ByteArray} (h : splS 32 s = [a, b]) : cA s = a ∧ cZ s = b := by
  have hd := splS_data 32 s
  rw [h] at hd
  rcases cut_cases s.data.toList with ⟨hn, hc⟩ | ⟨x, y, hxy, hx, hc⟩
  · rw [splL_none hn] at hd; exact absurd (congrArg List.length hd) (by simp)
  · rw [hxy, splL_app 32 x y hx, List.map_cons, List.map_cons, List.map_nil] at hd
    obtain ⟨h1, h2⟩ := List.cons.inj hd
    have h3 := splL_join 32 y [] b.data.toList h2.symm
    have hA : (cA s).data.toList = x := by unfold cA; rw [hc]
    have hZ : (cZ s).data.toList = y := by unfold cZ; rw [hc]
    exact ⟨data_inj (by rw [hA, h1]), data_inj (by rw [hZ, ← h3]; simp)⟩
theorem words_few {s : ByteArray} {k : Nat} (h : ¬ (splS 32 s).length = 2) : oneK k (cZ s) = false := by
  cases hk : oneK k (cZ s) with
  | false => rfl
  | true => rw [(words_of hk).1] at h; exact absurd rfl h
theorem words4 {s a b c d : ByteArray} (h : splS 32 s = [a, b, c, d]) : a ++ ⟨#[32]⟩ ++ b ++ ⟨#[32]⟩ ++ c ++ ⟨#[32]⟩ ++ d = s := by
  have hd := splS_data 32 s
  rw [h] at hd
  have hj := splL_join 32 s.data.toList [a.data.toList, b.data.toList, c.data.toList] d.data.toList hd.symm
  refine data_inj ?_
  rw [Go.Joins.data_append, Go.Joins.data_append, Go.Joins.data_append, Go.Joins.data_append, Go.Joins.data_append, Go.Joins.data_append, ← hj]; simp
theorem made2 (v : Value) : madeCells #[v] 2 = #[v, v] := by
  unfold madeCells
  rw [show Array.range 2 = #[0, 1] from by decide]
  simp [Nat.mod_one]
theorem made3R (v : Value) : madeCells #[v] 3 = #[v, v, v] := by
  unfold madeCells
  rw [show Array.range 3 = #[0, 1, 2] from by decide]
  simp [Nat.mod_one]
theorem splitN_any (s : ByteArray) (c : UInt8) (m : Int) (w : World) (hs : s.size ≤ 1048576) (hm : w.cell? ⟨0, 0, none⟩ = some (.int .i64 m)) :
    Calls Tryz.prog 137 #[.string s, .string ⟨#[c]⟩] w fun e w' => OwnRT fStr 9 w (splS c s) e w' := by
  refine (Tryz.strings_Split s ⟨#[c]⟩ m w (by omega) hm (Nat.le_refl 1)).mono ?_
  rintro e w' ⟨rfl, rfl⟩
  have hl := Lib.splitB_all ⟨#[c]⟩ (Nat.le_refl 1) 0 _ s rfl
  rw [splS_split] at hl ⊢
  rw [← hl]
  have hb0 : Below w.heap.size w (w.alloc (.cells ((splS c s).map Value.string).toArray 9)) := (Below.refl _ _).alloc (Nat.le_refl _) _
  refine ⟨_, rfl, ?_, hb0⟩
  have hll : (splS c s).length ≤ s.size + 1 := by
    have h1 := Lib.countB_le ⟨#[c]⟩ (Nat.le_refl 1) s.size s (Nat.le_refl _)
    omega
  have h := World.ownsRow_lit (e := 9) (size := 1) (base := w.heap.size) w ((splS c s).map Value.string).toArray (splS c s).length (Nat.le_refl _) (by unfold maxLen; omega) (by simp)
  have e1 : (splS c s).map Value.string = (splS c s).flatMap fStr.enc := by
    generalize splS c s = L
    induction L with
    | nil => rfl
    | cons x L ih => rw [List.map_cons, List.flatMap_cons, ih]; rfl
  rw [show ((splS c s).map Value.string).toArray.toList = (splS c s).flatMap fStr.enc from by simpa using e1] at h
  exact h
theorem New.drewR {α : Type} {E : Cod α} {w w' : World} {v : Value} {xs : List α} (h : New E w v xs w') : New E w v xs w'.drew := by
  obtain ⟨⟨fp, h1, h2, h3⟩, hb⟩ := h
  exact ⟨⟨fp, h1.below' (Below.drew (Below.refl _ _)), h2, h3⟩, Below.drew hb⟩
def wiA (s : ByteArray) : ByteArray := if oneK 2 (cZ s) then cA s else ⟨#[]⟩
set_option maxRecDepth 100000 in
set_option maxHeartbeats 4000000 in
theorem readWithId_any (s : ByteArray) (m : Int) (w : World) (hs : s.size ≤ 1048576) (hm : w.cell? ⟨0, 0, none⟩ = some (.int .i64 m)) (ht : RdTabs w) :
    Calls Tryz.prog 81 #[.string s, .int .i64 2] w fun e w' => ∃ v, e = .returned (.tuple #[.string (wiA s), v, .bool (oneK 2 (cZ s))]) ∧ New fInt.cod w v (numK 2 (cZ s)) w' := by
  obtain ⟨i0, hi, hz0, hz1, hz2⟩ := info_parts infoIntR
  have hmk : ∀ W : World, (Instr.makeSlice 37 (.int .i64 2) (.int .i64 2)).run Tryz.prog W = .ok (.slice (some ⟨W.heap.size, 0, none⟩) 2 2) (W.alloc (.cells (madeCells (Value.int .i64 0).cells (2 * i0.size)) 2)) := fun W => run_make_rowN (P := Tryz.prog) 37 2 i0 _ Tryz.underlying37 hi hz0 .i64 .i64 2 2 (Nat.le_refl _) (by rw [hz2]; decide) (by decide) W
  rw [hz1] at hmk
  have hzero : ∀ W : World, Own fInt (W.alloc (.cells (madeCells #[Value.int .i64 0] 2) 2)) W.heap.size 2 (.slice (some ⟨W.heap.size, 0, none⟩) 2 2) [0, 0] := fun W => by
    rw [made2]
    exact World.ownsRow_lit (e := 2) (size := 1) W #[Value.int .i64 0, .int .i64 0] 2 (Nat.le_refl _) (by decide) rfl
  have hsz := (cAZ_size s).2
  have hsA := (cAZ_size s).1
  have hcut : Calls Tryz.prog 181 #[.string s, .string ⟨#[32]⟩] w fun e w' => e = .returned (.tuple #[.string (cA s), .string (cZ s), .bool (Lib.cut s.data.toList [32]).2.2]) ∧ ∃ n, w' = w.drewN n := Tryz.strings_Cut s ⟨#[32]⟩ m w (by omega) hm
  have hWA : wiA s = if oneK 2 (cZ s) then cA s else ⟨#[]⟩ := rfl
  generalize (Lib.cut s.data.toList [32]).2.2 = fnd at *
  generalize cA s = sa at *
  generalize cZ s = sz at *
  generalize wiA s = ra at *
  go_enter Tryz.func81, Tryz.ntmps81
  go_wp2_with fail
  refine hcut.mono ?_
  rintro e w' ⟨rfl, n, rfl⟩
  have hW : Below w.heap.size w (w.drewN n) := below_drewN (Below.refl _ _) _
  generalize hwn : w.drewN n = wn at *
  go_wp2_with fail
  refine (implReadList_any sz m _ (by omega) (cell_below hW hm) (ht.below hW)).mono ?_
  rintro e w1 ⟨v1, rfl, hn1⟩
  have hb1 := hW.trans (hn1.below.mono hW.size)
  have hn1' := hn1.later hW
  have HFAIL : Hid (oneK 2 sz = false → ∃ v, Ending.returned (.tuple #[.string ⟨#[]⟩, .slice (some ⟨w1.heap.size, 0, none⟩) 2 2, .bool false]) = .returned (.tuple #[.string ra, v, .bool (oneK 2 sz)]) ∧ New fInt.cod w v (numK 2 sz) (w1.alloc (.cells (madeCells #[Value.int .i64 0] 2) 2)).drew) := fun h => by
    refine ⟨_, by rw [hWA, h]; rfl, ?_⟩
    rw [oneK_no h]
    exact (((hzero w1).new ((Below.refl _ _).alloc (Nat.le_refl _) _) (by intro x hx; simp at hx; subst hx; show _ ∧ _; simp)).later hb1).drewR
  clear hzero
  cases hr : rlF sz with
  | none =>
    have h1 := oneK_none (k := 2) hr
    rw [show (none : Option (List Int)).isSome = false from rfl]
    clear hn1 hn1' hr hWA
    go_wp2
    refine wp_region_mixed [0, 2, 1, 3, 4] (C := fun w' => ∃ p : Regrown, w' = Go.Sort.grow (redrawn w1 p.d) p.os) [true, true, false, true, true] (by kernel_rfl) (by kernel_rfl) (by kernel_rfl) (fun _ _ d _ _ h => by cases d <;> exact h) (regrown_of_below (Below.drew (Below.refl _ _))) ?_
    simp only [List.map_cons, List.map_nil, List.getD_cons_zero, List.getD_cons_succ]
    have hS0 : Below (w1.heap.size) w1 w1.drew := Below.drew (Below.refl _ _)
    refine wpMix_pure (by kernel_rfl) (fun K hK => ?_); go_big_quiet_op; refine hK _ ?_; clear hK K
    refine wpMix_pure (by kernel_rfl) (fun K hK => ?_); go_big_quiet_op; refine hK _ ?_; clear hK K
    refine wpMix_act (by kernel_rfl) (fun K hK => ?_)
    go_big_op
    refine hK _ _ (regrown_of_below (by first | exact hS0.alloc hS0.size _ | exact Below.drew ((Below.refl _ _).alloc (Nat.le_refl _) _) | exact (Below.drew (Below.refl _ _)).alloc (Nat.le_refl _) _)) ?_
    clear hK K
    refine wpMix_pure (by kernel_rfl) (fun K hK => ?_); go_big_quiet_op; refine hK _ ?_; clear hK K
    refine wpMix_pure (by kernel_rfl) (fun K hK => ?_); go_big_quiet_op; refine hK _ ?_; clear hK K
    refine wpMix_nil ?_
    have HQ := Lib.hid (HFAIL.out h1)
    clear h1 hS0
    go_wp2
    go_ret3
    exact HQ.out
  | some xs =>
    have h1 := oneK_some (k := 2) hr
    rw [show (some xs : Option (List Int)).isSome = true from rfl]
    rw [hr] at hn1'
    have hn2 : New fInt.cod w v1 xs w1 := hn1'
    obtain ⟨⟨fpy, hsy, _, _⟩, _⟩ := id hn2
    obtain ⟨A, cap, rfl, _, _⟩ := hsy.form
    clear hn1 hn1' hsy
    by_cases h2 : xs.length = 2
    · rw [decide_eq_true h2] at h1
      have HN := Lib.hid (numK_some hr h2)
      have hn3 : New fInt.cod w (.slice A 2 cap) xs w1 := by rw [← h2]; exact hn2
      have HA : Hid (ra = sa) := by show _ = _; rw [hWA, h1]; rfl
      have H1 := Lib.hid h1
      have e5 : ((xs.length : Int) == 2) = true := by rw [beq_iff_eq]; omega
      have e6 : ((xs.length : Int) != 2) = false := by unfold bne; rw [e5]; rfl
      clear hr h1 hWA
      go_wp2
      go_ret3
      exact ⟨_, by rw [H1.out, HA.out]; rfl, by rw [HN.out]; exact hn3⟩
    · rw [decide_eq_false h2] at h1
      have e5 : ((xs.length : Int) == 2) = false := by rw [beq_eq_false_iff_ne]; omega
      have e6 : ((xs.length : Int) != 2) = true := by unfold bne; rw [e5]; rfl
      clear hr hn2 hWA
      go_wp2
      refine wp_region_mixed [0, 2, 1, 3, 4] (C := fun w' => ∃ p : Regrown, w' = Go.Sort.grow (redrawn w1 p.d) p.os) [true, true, false, true, true] (by kernel_rfl) (by kernel_rfl) (by kernel_rfl) (fun _ _ d _ _ h => by cases d <;> exact h) (regrown_of_below (Below.drew (Below.refl _ _))) ?_
      simp only [List.map_cons, List.map_nil, List.getD_cons_zero, List.getD_cons_succ]
      have hS0 : Below (w1.heap.size) w1 w1.drew := Below.drew (Below.refl _ _)
      refine wpMix_pure (by kernel_rfl) (fun K hK => ?_); go_big_quiet_op; refine hK _ ?_; clear hK K
      refine wpMix_pure (by kernel_rfl) (fun K hK => ?_); go_big_quiet_op; refine hK _ ?_; clear hK K
      refine wpMix_act (by kernel_rfl) (fun K hK => ?_)
      go_big_op
      refine hK _ _ (regrown_of_below (by first | exact hS0.alloc hS0.size _ | exact Below.drew ((Below.refl _ _).alloc (Nat.le_refl _) _) | exact (Below.drew (Below.refl _ _)).alloc (Nat.le_refl _) _)) ?_
      clear hK K
      refine wpMix_pure (by kernel_rfl) (fun K hK => ?_); go_big_quiet_op; refine hK _ ?_; clear hK K
      refine wpMix_pure (by kernel_rfl) (fun K hK => ?_); go_big_quiet_op; refine hK _ ?_; clear hK K
      refine wpMix_nil ?_
      have HQ := Lib.hid (HFAIL.out h1)
      clear h1 hS0
      go_wp2
      go_ret3
      exact HQ.out

end Go.Proofs.YtfgmikgghpflbaaGreatDoor

namespace Go.Proofs.YtfgmikgghpflbaaGreatDoor
open Go.RowKit
set_option linter.unusedVariables false

/-- The text of a name and numbers. -/
def widT (i : ByteArray) (xs : List Int) : ByteArray := i ++ ⟨#[32]⟩ ++ listT xs
theorem widT_cut {i : ByteArray} {xs : List Int} (hi : ∀ b ∈ i.data.toList, b ≠ 32) (hf : fitsL xs = true) : cA (widT i xs) = i ∧ cZ (widT i xs) = listS xs := by
  have e : listT xs = listS xs := by unfold listT; rw [if_pos hf]
  refine words_back ?_
  refine (splS_of ?_).symm
  unfold widT
  rw [e, List.map_cons, List.map_cons, List.map_nil, Go.Joins.data_append, Go.Joins.data_append]
  rw [show i.data.toList ++ (⟨#[32]⟩ : ByteArray).data.toList ++ (listS xs).data.toList = i.data.toList ++ 32 :: (listS xs).data.toList by simp]
  rw [splL_app 32 _ _ hi, splL_none (listS_noblank xs)]
theorem fitsL_of {xs : List Int} (hl : xs.length ≤ 64) (h : ∀ x ∈ xs, -1000000000000 ≤ x ∧ x ≤ 1000000000000) : fitsL xs = true := by
  unfold fitsL
  rw [decide_eq_true hl, Bool.true_and, List.all_eq_true]
  exact fun x hx => inB_true.2 (h x hx)
set_option maxRecDepth 100000 in
set_option maxHeartbeats 4000000 in
theorem readWithId_of (i : ByteArray) (xs : List Int) (k : Nat) (w : World) (hi : ∀ b ∈ i.data.toList, b ≠ 32) (hiz : i.size ≤ 100) (hf : fitsL xs = true) (hk : xs.length = k) (m : Int) (hm : w.cell? ⟨0, 0, none⟩ = some (.int .i64 m)) (ht : RdTabs w) :
    Calls Tryz.prog 81 #[.string (widT i xs), .int .i64 k] w fun e w' => ∃ v, e = .returned (.tuple #[.string i, v, .bool true]) ∧ New fInt.cod w v xs w' := by
  have hxo : ∀ x ∈ xs, fInt.ok x := fun x hx => by
    unfold fitsL at hf
    rw [Bool.and_eq_true, List.all_eq_true] at hf
    have := inB_true.1 (hf.2 x hx)
    show _ ∧ _; omega
  have hl64 : xs.length ≤ 64 := by
    unfold fitsL at hf
    rw [Bool.and_eq_true] at hf
    exact of_decide_eq_true hf.1
  have hsz := listS_size hxo
  have hlt : listT xs = listS xs := by unfold listT; rw [if_pos hf]
  have hs : (widT i xs).size ≤ 1048576 := by
    unfold widT
    rw [hlt, ByteArray.size_append, ByteArray.size_append]
    show _ + 1 + _ ≤ _; omega
  obtain ⟨hA, hZ⟩ := widT_cut hi hf
  have hcut : Calls Tryz.prog 181 #[.string (widT i xs), .string ⟨#[32]⟩] w fun e w' => e = .returned (.tuple #[.string (cA (widT i xs)), .string (cZ (widT i xs)), .bool (Lib.cut (widT i xs).data.toList [32]).2.2]) ∧ ∃ n, w' = w.drewN n := Tryz.strings_Cut _ ⟨#[32]⟩ m w (by omega) hm
  rw [hA, hZ] at hcut
  have hr := rlF_list hf
  generalize (Lib.cut (widT i xs).data.toList [32]).2.2 = fnd at *
  generalize widT i xs = s at *
  clear hA hZ hlt
  go_enter Tryz.func81, Tryz.ntmps81
  go_wp2_with fail
  refine hcut.mono ?_
  rintro e w' ⟨rfl, n, rfl⟩
  have hW : Below w.heap.size w (w.drewN n) := below_drewN (Below.refl _ _) _
  generalize hwn : w.drewN n = wn at *
  go_wp2_with fail
  refine (implReadList_any (listS xs) m _ (by omega) (cell_below hW hm) (ht.below hW)).mono ?_
  rintro e w1 ⟨v1, rfl, hn1⟩
  have hn1' := hn1.later hW
  rw [hr] at hn1'
  have hn2 : New fInt.cod w v1 xs w1 := hn1'
  obtain ⟨⟨fpy, hsy, _, _⟩, _⟩ := id hn2
  obtain ⟨A, cap, rfl, _, _⟩ := hsy.form
  rw [hr, show (some xs : Option (List Int)).isSome = true from rfl]
  have hn3 : New fInt.cod w (.slice A k cap) xs w1 := by rw [← hk]; exact hn2
  have e5 : ((xs.length : Int) == (k : Int)) = true := by rw [beq_iff_eq]; omega
  have e6 : ((xs.length : Int) != (k : Int)) = false := by unfold bne; rw [e5]; rfl
  clear hn1 hn1' hsy hr hn2
  go_wp2
  go_ret3
  exact ⟨_, rfl, by first | exact hn3 | (rw [hk]; exact hn3)⟩
end Go.Proofs.YtfgmikgghpflbaaGreatDoor

namespace Go.Proofs.YtfgmikgghpflbaaGreatDoor
open Go.RowKit
set_option linter.unusedVariables false

theorem testB_parts {x : DTest} (h : testB x = true) : (x.kind = 1 ∨ x.kind = 2 ∨ x.kind = 3) ∧ (0 ≤ x.score ∧ x.score ≤ 31) ∧ (1 ≤ x.quality ∧ x.quality ≤ 3) ∧ (1 ≤ x.depth ∧ x.depth ≤ 300) ∧ (0 ≤ x.hour ∧ x.hour ≤ 100000) := by
  unfold testB at h
  rw [Bool.and_eq_true, Bool.and_eq_true, Bool.and_eq_true, inB_true, inB_true, inB_true] at h
  obtain ⟨h1, h2, h3, h4⟩ := h
  split at h4
  · rw [inB_true] at h4; omega
  · rw [Bool.and_eq_true, inB_true, Bool.or_eq_true, decide_eq_true_eq, decide_eq_true_eq] at h4
    omega
def cofF (x : DTest) : Int := if testB x then clsF x else 0
def cofC (x : DTest) : Int := if testB x then 0 else 1
def cpt (s a b c : Int) : Nat → Int
  | 0 => 1
  | 1 => 1 + ovr s a
  | 2 => 1 + ovr s a + ovr s b
  | _ => 1 + ovr s a + ovr s b + ovr s c
theorem cpt_in (s a b c : Int) (j : Nat) : 1 ≤ cpt s a b c j ∧ cpt s a b c j ≤ 4 := by
  have := ovr_le s a; have := ovr_le s b; have := ovr_le s c
  unfold cpt; split <;> omega
theorem cpt_yes {s a b c : Int} {j : Nat} (h : (j = 0 ∧ a < s) ∨ (j = 1 ∧ b < s) ∨ (j = 2 ∧ c < s)) : cpt s a b c (j + 1) = cpt s a b c j + 1 := by
  rcases h with ⟨rfl, h⟩ | ⟨rfl, h⟩ | ⟨rfl, h⟩ <;> simp [cpt, ovr, h]
theorem cpt_no {s a b c : Int} {j : Nat} (h : (j = 0 ∧ ¬ a < s) ∨ (j = 1 ∧ ¬ b < s) ∨ (j = 2 ∧ ¬ c < s)) : cpt s a b c (j + 1) = cpt s a b c j := by
  rcases h with ⟨rfl, h⟩ | ⟨rfl, h⟩ | ⟨rfl, h⟩ <;> simp [cpt, ovr, h]
theorem clsF_cpt {x : DTest} {a b c : Int} (h : mostF x.kind = (a, b, c)) : clsF x = min (max (cpt x.score a b c 3 + x.quality - 2) 1) 4 := by
  unfold clsF; rw [h]; rfl
def mostAg : Value := .agg #[.int .i64 0, .int .i64 0, .int .i64 0, .int .i64 10, .int .i64 20, .int .i64 30, .int .i64 13, .int .i64 22, .int .i64 30, .int .i64 2, .int .i64 4, .int .i64 6]
theorem infoA3 : (Tryz.prog.info? 165).map (fun i => (i.zero, i.size, i.bytes)) = some (some (.agg #[.int .i64 0, .int .i64 0, .int .i64 0]), 3, 24) := by kernel_rfl
theorem mostTab (k : Int) (h : k = 1 ∨ k = 2 ∨ k = 3) (W : World) : (Instr.index 222 mostAg (.int .i64 k)).run Tryz.prog W = .ok (.agg #[.int .i64 (mostF k).1, .int .i64 (mostF k).2.1, .int .i64 (mostF k).2.2]) W := by
  obtain ⟨i0, hi, hz0, hz1, hz2⟩ := info_parts infoA3
  rcases h with rfl | rfl | rfl <;> simp [mostAg, mostF, Instr.index, run_underlying Tryz.underlying222, asIntOf, sizeOf, typeInfo, hi, hz1, go_sem]
theorem infoI1 : (Tryz.prog.info? 2).map (fun i => (i.zero, i.size, i.bytes)) = some (some (.int .i64 0), 1, 8) := by kernel_rfl
theorem tab3 (a b c : Int) : (∀ W, (Instr.index 165 (.agg #[.int .i64 a, .int .i64 b, .int .i64 c]) (.int .i64 0)).run Tryz.prog W = .ok (.int .i64 a) W) ∧ (∀ W, (Instr.index 165 (.agg #[.int .i64 a, .int .i64 b, .int .i64 c]) (.int .i64 1)).run Tryz.prog W = .ok (.int .i64 b) W) ∧ (∀ W, (Instr.index 165 (.agg #[.int .i64 a, .int .i64 b, .int .i64 c]) (.int .i64 2)).run Tryz.prog W = .ok (.int .i64 c) W) := by
  obtain ⟨i0, hi, hz0, hz1, hz2⟩ := info_parts infoI1
  refine ⟨fun W => ?_, fun W => ?_, fun W => ?_⟩ <;> simp [Instr.index, run_underlying Tryz.underlying165, asIntOf, sizeOf, typeInfo, hi, hz1, go_sem]
set_option maxRecDepth 100000 in
set_option maxHeartbeats 4000000 in
theorem class_any (x : DTest) (w : World) (hv : testB x = true) :
    Calls Tryz.prog 80 #[.agg #[.int .i64 x.kind, .int .i64 x.score, .int .i64 x.quality, .int .i64 x.depth, .int .i64 x.hour]] w fun e w' => e = .returned (.int .i64 (clsF x)) ∧ Below w.heap.size w w' := by
  obtain ⟨hk, hs, hq, _, _⟩ := testB_parts hv
  obtain ⟨k, s, q, d, h⟩ := x
  simp only at hk hs hq ⊢
  clear hv
  rcases hk with rfl | rfl | rfl
  · have HF := Lib.hid (clsF_cpt (x := ⟨1, s, q, d, h⟩) (a := 10) (b := 20) (c := 30) rfl)
    simp only at HF
    generalize clsF ⟨1, s, q, d, h⟩ = R at *
    have hix : ∀ W, _ := mostTab 1 (by decide)
    rw [show (mostF 1).1 = 10 from rfl, show (mostF 1).2.1 = 20 from rfl, show (mostF 1).2.2 = 30 from rfl] at hix
    unfold mostAg at hix
    obtain ⟨ht0, ht1, ht2⟩ := tab3 10 20 30
    go_enter Tryz.func80, Tryz.ntmps80
    go_wp2
    go_loop [4, 15] (fun c i => ∃ j : Nat, j ≤ 3 ∧ i = .int .i64 j ∧ c = .int .i64 (cpt s 10 20 30 j)) (fun _ i => 3 - (intOf i).toNat)
    case atStart => exact ⟨0, by omega, rfl, rfl⟩
    case round =>
      obtain ⟨j, hj, rfl, rfl⟩ := hrel
      rcases (by omega : j = 0 ∨ j = 1 ∨ j = 2 ∨ j = 3) with rfl | rfl | rfl | rfl
      · by_cases hc : 10 < s
        · have HC := Lib.hid (@cpt_yes s 10 20 30 0 (.inl ⟨rfl, hc⟩))
          have hin := cpt_in s 10 20 30 0
          generalize cpt s 10 20 30 0 = c0 at *
          go_wp2
          go_round
          case rel => exact ⟨1, by omega, by go_num, by rw [HC.out]⟩
          case measure => simp [intOf]
        · have HC := Lib.hid (@cpt_no s 10 20 30 0 (.inl ⟨rfl, hc⟩))
          have hin := cpt_in s 10 20 30 0
          generalize cpt s 10 20 30 0 = c0 at *
          go_wp2
          go_round
          case rel => exact ⟨1, by omega, by go_num, by rw [HC.out]⟩
          case measure => simp [intOf]
      · by_cases hc : 20 < s
        · have HC := Lib.hid (@cpt_yes s 10 20 30 1 (.inr (.inl ⟨rfl, hc⟩)))
          have hin := cpt_in s 10 20 30 1
          generalize cpt s 10 20 30 1 = c0 at *
          go_wp2
          go_round
          case rel => exact ⟨2, by omega, by go_num, by rw [HC.out]⟩
          case measure => simp [intOf]
        · have HC := Lib.hid (@cpt_no s 10 20 30 1 (.inr (.inl ⟨rfl, hc⟩)))
          have hin := cpt_in s 10 20 30 1
          generalize cpt s 10 20 30 1 = c0 at *
          go_wp2
          go_round
          case rel => exact ⟨2, by omega, by go_num, by rw [HC.out]⟩
          case measure => simp [intOf]
      · by_cases hc : 30 < s
        · have HC := Lib.hid (@cpt_yes s 10 20 30 2 (.inr (.inr ⟨rfl, hc⟩)))
          have hin := cpt_in s 10 20 30 2
          generalize cpt s 10 20 30 2 = c0 at *
          go_wp2
          go_round
          case rel => exact ⟨3, by omega, by go_num, by rw [HC.out]⟩
          case measure => simp [intOf]
        · have HC := Lib.hid (@cpt_no s 10 20 30 2 (.inr (.inr ⟨rfl, hc⟩)))
          have hin := cpt_in s 10 20 30 2
          generalize cpt s 10 20 30 2 = c0 at *
          go_wp2
          go_round
          case rel => exact ⟨3, by omega, by go_num, by rw [HC.out]⟩
          case measure => simp [intOf]
      · skip
        have hin := cpt_in s 10 20 30 3
        generalize cpt s 10 20 30 3 = c0 at *
        go_wp2
        go_ret
        exact ⟨ret_int (by rw [HF.out]), (by repeat (first | exact Below.refl _ _ | assumption | refine Below.alloc ?_ (by first | omega | (simp <;> omega)) _ | refine Below.setCell ?_ (by first | (show _ ≤ _; omega) | (simp <;> omega)) _ | refine Below.drew ?_ | refine below_drewN ?_ _))⟩
  · have HF := Lib.hid (clsF_cpt (x := ⟨2, s, q, d, h⟩) (a := 13) (b := 22) (c := 30) rfl)
    simp only at HF
    generalize clsF ⟨2, s, q, d, h⟩ = R at *
    have hix : ∀ W, _ := mostTab 2 (by decide)
    rw [show (mostF 2).1 = 13 from rfl, show (mostF 2).2.1 = 22 from rfl, show (mostF 2).2.2 = 30 from rfl] at hix
    unfold mostAg at hix
    obtain ⟨ht0, ht1, ht2⟩ := tab3 13 22 30
    go_enter Tryz.func80, Tryz.ntmps80
    go_wp2
    go_loop [4, 15] (fun c i => ∃ j : Nat, j ≤ 3 ∧ i = .int .i64 j ∧ c = .int .i64 (cpt s 13 22 30 j)) (fun _ i => 3 - (intOf i).toNat)
    case atStart => exact ⟨0, by omega, rfl, rfl⟩
    case round =>
      obtain ⟨j, hj, rfl, rfl⟩ := hrel
      rcases (by omega : j = 0 ∨ j = 1 ∨ j = 2 ∨ j = 3) with rfl | rfl | rfl | rfl
      · by_cases hc : 13 < s
        · have HC := Lib.hid (@cpt_yes s 13 22 30 0 (.inl ⟨rfl, hc⟩))
          have hin := cpt_in s 13 22 30 0
          generalize cpt s 13 22 30 0 = c0 at *
          go_wp2
          go_round
          case rel => exact ⟨1, by omega, by go_num, by rw [HC.out]⟩
          case measure => simp [intOf]
        · have HC := Lib.hid (@cpt_no s 13 22 30 0 (.inl ⟨rfl, hc⟩))
          have hin := cpt_in s 13 22 30 0
          generalize cpt s 13 22 30 0 = c0 at *
          go_wp2
          go_round
          case rel => exact ⟨1, by omega, by go_num, by rw [HC.out]⟩
          case measure => simp [intOf]
      · by_cases hc : 22 < s
        · have HC := Lib.hid (@cpt_yes s 13 22 30 1 (.inr (.inl ⟨rfl, hc⟩)))
          have hin := cpt_in s 13 22 30 1
          generalize cpt s 13 22 30 1 = c0 at *
          go_wp2
          go_round
          case rel => exact ⟨2, by omega, by go_num, by rw [HC.out]⟩
          case measure => simp [intOf]
        · have HC := Lib.hid (@cpt_no s 13 22 30 1 (.inr (.inl ⟨rfl, hc⟩)))
          have hin := cpt_in s 13 22 30 1
          generalize cpt s 13 22 30 1 = c0 at *
          go_wp2
          go_round
          case rel => exact ⟨2, by omega, by go_num, by rw [HC.out]⟩
          case measure => simp [intOf]
      · by_cases hc : 30 < s
        · have HC := Lib.hid (@cpt_yes s 13 22 30 2 (.inr (.inr ⟨rfl, hc⟩)))
          have hin := cpt_in s 13 22 30 2
          generalize cpt s 13 22 30 2 = c0 at *
          go_wp2
          go_round
          case rel => exact ⟨3, by omega, by go_num, by rw [HC.out]⟩
          case measure => simp [intOf]
        · have HC := Lib.hid (@cpt_no s 13 22 30 2 (.inr (.inr ⟨rfl, hc⟩)))
          have hin := cpt_in s 13 22 30 2
          generalize cpt s 13 22 30 2 = c0 at *
          go_wp2
          go_round
          case rel => exact ⟨3, by omega, by go_num, by rw [HC.out]⟩
          case measure => simp [intOf]
      · skip
        have hin := cpt_in s 13 22 30 3
        generalize cpt s 13 22 30 3 = c0 at *
        go_wp2
        go_ret
        exact ⟨ret_int (by rw [HF.out]), (by repeat (first | exact Below.refl _ _ | assumption | refine Below.alloc ?_ (by first | omega | (simp <;> omega)) _ | refine Below.setCell ?_ (by first | (show _ ≤ _; omega) | (simp <;> omega)) _ | refine Below.drew ?_ | refine below_drewN ?_ _))⟩
  · have HF := Lib.hid (clsF_cpt (x := ⟨3, s, q, d, h⟩) (a := 2) (b := 4) (c := 6) rfl)
    simp only at HF
    generalize clsF ⟨3, s, q, d, h⟩ = R at *
    have hix : ∀ W, _ := mostTab 3 (by decide)
    rw [show (mostF 3).1 = 2 from rfl, show (mostF 3).2.1 = 4 from rfl, show (mostF 3).2.2 = 6 from rfl] at hix
    unfold mostAg at hix
    obtain ⟨ht0, ht1, ht2⟩ := tab3 2 4 6
    go_enter Tryz.func80, Tryz.ntmps80
    go_wp2
    go_loop [4, 15] (fun c i => ∃ j : Nat, j ≤ 3 ∧ i = .int .i64 j ∧ c = .int .i64 (cpt s 2 4 6 j)) (fun _ i => 3 - (intOf i).toNat)
    case atStart => exact ⟨0, by omega, rfl, rfl⟩
    case round =>
      obtain ⟨j, hj, rfl, rfl⟩ := hrel
      rcases (by omega : j = 0 ∨ j = 1 ∨ j = 2 ∨ j = 3) with rfl | rfl | rfl | rfl
      · by_cases hc : 2 < s
        · have HC := Lib.hid (@cpt_yes s 2 4 6 0 (.inl ⟨rfl, hc⟩))
          have hin := cpt_in s 2 4 6 0
          generalize cpt s 2 4 6 0 = c0 at *
          go_wp2
          go_round
          case rel => exact ⟨1, by omega, by go_num, by rw [HC.out]⟩
          case measure => simp [intOf]
        · have HC := Lib.hid (@cpt_no s 2 4 6 0 (.inl ⟨rfl, hc⟩))
          have hin := cpt_in s 2 4 6 0
          generalize cpt s 2 4 6 0 = c0 at *
          go_wp2
          go_round
          case rel => exact ⟨1, by omega, by go_num, by rw [HC.out]⟩
          case measure => simp [intOf]
      · by_cases hc : 4 < s
        · have HC := Lib.hid (@cpt_yes s 2 4 6 1 (.inr (.inl ⟨rfl, hc⟩)))
          have hin := cpt_in s 2 4 6 1
          generalize cpt s 2 4 6 1 = c0 at *
          go_wp2
          go_round
          case rel => exact ⟨2, by omega, by go_num, by rw [HC.out]⟩
          case measure => simp [intOf]
        · have HC := Lib.hid (@cpt_no s 2 4 6 1 (.inr (.inl ⟨rfl, hc⟩)))
          have hin := cpt_in s 2 4 6 1
          generalize cpt s 2 4 6 1 = c0 at *
          go_wp2
          go_round
          case rel => exact ⟨2, by omega, by go_num, by rw [HC.out]⟩
          case measure => simp [intOf]
      · by_cases hc : 6 < s
        · have HC := Lib.hid (@cpt_yes s 2 4 6 2 (.inr (.inr ⟨rfl, hc⟩)))
          have hin := cpt_in s 2 4 6 2
          generalize cpt s 2 4 6 2 = c0 at *
          go_wp2
          go_round
          case rel => exact ⟨3, by omega, by go_num, by rw [HC.out]⟩
          case measure => simp [intOf]
        · have HC := Lib.hid (@cpt_no s 2 4 6 2 (.inr (.inr ⟨rfl, hc⟩)))
          have hin := cpt_in s 2 4 6 2
          generalize cpt s 2 4 6 2 = c0 at *
          go_wp2
          go_round
          case rel => exact ⟨3, by omega, by go_num, by rw [HC.out]⟩
          case measure => simp [intOf]
      · skip
        have hin := cpt_in s 2 4 6 3
        generalize cpt s 2 4 6 3 = c0 at *
        go_wp2
        go_ret
        exact ⟨ret_int (by rw [HF.out]), (by repeat (first | exact Below.refl _ _ | assumption | refine Below.alloc ?_ (by first | omega | (simp <;> omega)) _ | refine Below.setCell ?_ (by first | (show _ ≤ _; omega) | (simp <;> omega)) _ | refine Below.drew ?_ | refine below_drewN ?_ _))⟩
set_option maxRecDepth 100000 in
set_option maxHeartbeats 8000000 in
theorem l08Class_any (x : DTest) (pb po : Nat) (w : World) (hp : PTest w pb po x) (hv : testB x = true) :
    Calls Tryz.prog 93 #[.pointer (some ⟨pb, po, none⟩)] w fun e w' => e = .returned (.int .i64 (clsF x)) ∧ Below w.heap.size w w' := by
  obtain ⟨hk, hs, hq, _, _⟩ := testB_parts hv
  obtain ⟨k, s, q, d, h⟩ := x
  simp only at hk hs hq ⊢
  clear hv
  rcases hk with rfl | rfl | rfl
  · have HF := Lib.hid (clsF_cpt (x := ⟨1, s, q, d, h⟩) (a := 10) (b := 20) (c := 30) rfl)
    simp only at HF
    generalize clsF ⟨1, s, q, d, h⟩ = R at *
    have hplt := hp.lt
    have hB0 : Below w.heap.size w (w.alloc (.cells #[.int .i64 10, .int .i64 20, .int .i64 30] 2)) := (Below.refl _ _).alloc (Nat.le_refl _) _
    have hp0 := hp.below' hB0
    obtain ⟨c0, c1, c2, c3, c4⟩ := hp0
    have hBL := hB0
    have hsl := Sl.lit2 (E := fInt) w [10, 20, 30] 2 _ rfl (by intro x hx; simp at hx; show _ ∧ _; omega) (by decide) (by decide)
    clear hB0
    go_enter Tryz.func93, Tryz.ntmps93
    go_upto_region 6 with fail
    refine at_world (fun W => Below w.heap.size w W ∧ Sl fInt.cod W (.slice (some ⟨w.heap.size, 0, none⟩) 3 3) [10, 20, 30] [w.heap.size] ∧ w.heap.size ≤ w.heap.size) ⟨hBL, hsl, by simp⟩ ?_
    clear hBL hsl c0 c1 c2 c3 c4
    rintro W ⟨hBL, hsl, hgl⟩
    go_wp2
    go_loopw [4, 5] (fun c i wr => ∃ j : Nat, j ≤ 3 ∧ i = .int .i64 j ∧ c = .int .i64 (cpt s 10 20 30 j) ∧ Below W.heap.size W wr) (fun _ i _ => 3 - (intOf i).toNat)
    case atStart => exact ⟨0, by omega, rfl, rfl, Below.refl _ _⟩
    case round =>
      obtain ⟨j, hj, rfl, rfl, hbi⟩ := hrel
      rcases (by omega : j = 0 ∨ j = 1 ∨ j = 2 ∨ j = 3) with rfl | rfl | rfl | rfl
      · by_cases hc : 10 < s
        · have HC := Lib.hid (@cpt_yes s 10 20 30 0 (.inl ⟨rfl, hc⟩))
          have hin := cpt_in s 10 20 30 0
          generalize cpt s 10 20 30 0 = c0 at *
          obtain ⟨y0, y1, y2, y3, y4⟩ := hp.below (hBL.trans (hbi.mono hBL.size)) hplt
          obtain ⟨b, off, hA, _, _, hcj, _⟩ := (hsl.below' hbi).cell1 rfl (show 0 < [10, 20, 30].length by decide) rfl
          injection hA with hA
          injection hA with hA1 hA2 _
          subst hA1 hA2
          replace hcj : wr.cell? ⟨w.heap.size, 0, none⟩ = some (.int .i64 10) := by simpa using hcj
          go_wp2
          have gy1 := cell_regrown y1
          have ghcj := cell_regrown hcj
          refine wp_region_mix (C := fun w' => ∃ p : Regrown, w' = Go.Sort.grow (redrawn wr p.d) p.os) [true, true, true, true, true, true, true, true, true] (by kernel_rfl) (by kernel_rfl) (by kernel_rfl) (fun _ _ d _ _ h => by cases d <;> exact h) (regrown_of_below (Below.drew (Below.refl _ _))) ?_
          have hS0 : Below (wr.heap.size) wr wr.drew := Below.drew (Below.refl _ _)
          refine wpMix_pure (by kernel_rfl) (fun K hK => ?_); go_big_quiet_op; refine hK _ ?_; clear hK K
          refine wpMix_pure (by kernel_rfl) (fun K hK => ?_); go_big_quiet_op; refine hK _ ?_; clear hK K
          refine wpMix_pure (by kernel_rfl) (fun K hK => ?_); go_big_quiet_op; refine hK _ ?_; clear hK K
          refine wpMix_pure (by kernel_rfl) (fun K hK => ?_); go_big_quiet_op; refine hK _ ?_; clear hK K
          refine wpMix_pure (by kernel_rfl) (fun K hK => ?_); go_big_quiet_op; refine hK _ ?_; clear hK K
          refine wpMix_pure (by kernel_rfl) (fun K hK => ?_); go_big_quiet_op; refine hK _ ?_; clear hK K
          refine wpMix_pure (by kernel_rfl) (fun K hK => ?_); go_big_quiet_op; refine hK _ ?_; clear hK K
          refine wpMix_pure (by kernel_rfl) (fun K hK => ?_); go_big_quiet_op; refine hK _ ?_; clear hK K
          refine wpMix_pure (by kernel_rfl) (fun K hK => ?_); go_big_quiet_op; refine hK _ ?_; clear hK K
          refine wpMix_nil ?_
          go_wp2
          go_roundw
          case rel => exact ⟨1, by omega, by go_num, by rw [HC.out], hbi.trans (hS0.mono hbi.size)⟩
          case measure => simp [intOf]

        · have HC := Lib.hid (@cpt_no s 10 20 30 0 (.inl ⟨rfl, hc⟩))
          have hin := cpt_in s 10 20 30 0
          generalize cpt s 10 20 30 0 = c0 at *
          obtain ⟨y0, y1, y2, y3, y4⟩ := hp.below (hBL.trans (hbi.mono hBL.size)) hplt
          obtain ⟨b, off, hA, _, _, hcj, _⟩ := (hsl.below' hbi).cell1 rfl (show 0 < [10, 20, 30].length by decide) rfl
          injection hA with hA
          injection hA with hA1 hA2 _
          subst hA1 hA2
          replace hcj : wr.cell? ⟨w.heap.size, 0, none⟩ = some (.int .i64 10) := by simpa using hcj
          go_wp2
          have gy1 := cell_regrown y1
          have ghcj := cell_regrown hcj
          refine wp_region_mix (C := fun w' => ∃ p : Regrown, w' = Go.Sort.grow (redrawn wr p.d) p.os) [true, true, true, true, true, true, true, true, true] (by kernel_rfl) (by kernel_rfl) (by kernel_rfl) (fun _ _ d _ _ h => by cases d <;> exact h) (regrown_of_below (Below.drew (Below.refl _ _))) ?_
          have hS0 : Below (wr.heap.size) wr wr.drew := Below.drew (Below.refl _ _)
          refine wpMix_pure (by kernel_rfl) (fun K hK => ?_); go_big_quiet_op; refine hK _ ?_; clear hK K
          refine wpMix_pure (by kernel_rfl) (fun K hK => ?_); go_big_quiet_op; refine hK _ ?_; clear hK K
          refine wpMix_pure (by kernel_rfl) (fun K hK => ?_); go_big_quiet_op; refine hK _ ?_; clear hK K
          refine wpMix_pure (by kernel_rfl) (fun K hK => ?_); go_big_quiet_op; refine hK _ ?_; clear hK K
          refine wpMix_pure (by kernel_rfl) (fun K hK => ?_); go_big_quiet_op; refine hK _ ?_; clear hK K
          refine wpMix_pure (by kernel_rfl) (fun K hK => ?_); go_big_quiet_op; refine hK _ ?_; clear hK K
          refine wpMix_pure (by kernel_rfl) (fun K hK => ?_); go_big_quiet_op; refine hK _ ?_; clear hK K
          refine wpMix_pure (by kernel_rfl) (fun K hK => ?_); go_big_quiet_op; refine hK _ ?_; clear hK K
          refine wpMix_pure (by kernel_rfl) (fun K hK => ?_); go_big_quiet_op; refine hK _ ?_; clear hK K
          refine wpMix_nil ?_
          go_wp2
          go_roundw
          case rel => exact ⟨1, by omega, by go_num, by rw [HC.out], hbi.trans (hS0.mono hbi.size)⟩
          case measure => simp [intOf]

      · by_cases hc : 20 < s
        · have HC := Lib.hid (@cpt_yes s 10 20 30 1 (.inr (.inl ⟨rfl, hc⟩)))
          have hin := cpt_in s 10 20 30 1
          generalize cpt s 10 20 30 1 = c0 at *
          obtain ⟨y0, y1, y2, y3, y4⟩ := hp.below (hBL.trans (hbi.mono hBL.size)) hplt
          obtain ⟨b, off, hA, _, _, hcj, _⟩ := (hsl.below' hbi).cell1 rfl (show 1 < [10, 20, 30].length by decide) rfl
          injection hA with hA
          injection hA with hA1 hA2 _
          subst hA1 hA2
          replace hcj : wr.cell? ⟨w.heap.size, 1, none⟩ = some (.int .i64 20) := by simpa using hcj
          go_wp2
          have gy1 := cell_regrown y1
          have ghcj := cell_regrown hcj
          refine wp_region_mix (C := fun w' => ∃ p : Regrown, w' = Go.Sort.grow (redrawn wr p.d) p.os) [true, true, true, true, true, true, true, true, true] (by kernel_rfl) (by kernel_rfl) (by kernel_rfl) (fun _ _ d _ _ h => by cases d <;> exact h) (regrown_of_below (Below.drew (Below.refl _ _))) ?_
          have hS0 : Below (wr.heap.size) wr wr.drew := Below.drew (Below.refl _ _)
          refine wpMix_pure (by kernel_rfl) (fun K hK => ?_); go_big_quiet_op; refine hK _ ?_; clear hK K
          refine wpMix_pure (by kernel_rfl) (fun K hK => ?_); go_big_quiet_op; refine hK _ ?_; clear hK K
          refine wpMix_pure (by kernel_rfl) (fun K hK => ?_); go_big_quiet_op; refine hK _ ?_; clear hK K
          refine wpMix_pure (by kernel_rfl) (fun K hK => ?_); go_big_quiet_op; refine hK _ ?_; clear hK K
          refine wpMix_pure (by kernel_rfl) (fun K hK => ?_); go_big_quiet_op; refine hK _ ?_; clear hK K
          refine wpMix_pure (by kernel_rfl) (fun K hK => ?_); go_big_quiet_op; refine hK _ ?_; clear hK K
          refine wpMix_pure (by kernel_rfl) (fun K hK => ?_); go_big_quiet_op; refine hK _ ?_; clear hK K
          refine wpMix_pure (by kernel_rfl) (fun K hK => ?_); go_big_quiet_op; refine hK _ ?_; clear hK K
          refine wpMix_pure (by kernel_rfl) (fun K hK => ?_); go_big_quiet_op; refine hK _ ?_; clear hK K
          refine wpMix_nil ?_
          go_wp2
          go_roundw
          case rel => exact ⟨2, by omega, by go_num, by rw [HC.out], hbi.trans (hS0.mono hbi.size)⟩
          case measure => simp [intOf]

        · have HC := Lib.hid (@cpt_no s 10 20 30 1 (.inr (.inl ⟨rfl, hc⟩)))
          have hin := cpt_in s 10 20 30 1
          generalize cpt s 10 20 30 1 = c0 at *
          obtain ⟨y0, y1, y2, y3, y4⟩ := hp.below (hBL.trans (hbi.mono hBL.size)) hplt
          obtain ⟨b, off, hA, _, _, hcj, _⟩ := (hsl.below' hbi).cell1 rfl (show 1 < [10, 20, 30].length by decide) rfl
          injection hA with hA
          injection hA with hA1 hA2 _
          subst hA1 hA2
          replace hcj : wr.cell? ⟨w.heap.size, 1, none⟩ = some (.int .i64 20) := by simpa using hcj
          go_wp2
          have gy1 := cell_regrown y1
          have ghcj := cell_regrown hcj
          refine wp_region_mix (C := fun w' => ∃ p : Regrown, w' = Go.Sort.grow (redrawn wr p.d) p.os) [true, true, true, true, true, true, true, true, true] (by kernel_rfl) (by kernel_rfl) (by kernel_rfl) (fun _ _ d _ _ h => by cases d <;> exact h) (regrown_of_below (Below.drew (Below.refl _ _))) ?_
          have hS0 : Below (wr.heap.size) wr wr.drew := Below.drew (Below.refl _ _)
          refine wpMix_pure (by kernel_rfl) (fun K hK => ?_); go_big_quiet_op; refine hK _ ?_; clear hK K
          refine wpMix_pure (by kernel_rfl) (fun K hK => ?_); go_big_quiet_op; refine hK _ ?_; clear hK K
          refine wpMix_pure (by kernel_rfl) (fun K hK => ?_); go_big_quiet_op; refine hK _ ?_; clear hK K
          refine wpMix_pure (by kernel_rfl) (fun K hK => ?_); go_big_quiet_op; refine hK _ ?_; clear hK K
          refine wpMix_pure (by kernel_rfl) (fun K hK => ?_); go_big_quiet_op; refine hK _ ?_; clear hK K
          refine wpMix_pure (by kernel_rfl) (fun K hK => ?_); go_big_quiet_op; refine hK _ ?_; clear hK K
          refine wpMix_pure (by kernel_rfl) (fun K hK => ?_); go_big_quiet_op; refine hK _ ?_; clear hK K
          refine wpMix_pure (by kernel_rfl) (fun K hK => ?_); go_big_quiet_op; refine hK _ ?_; clear hK K
          refine wpMix_pure (by kernel_rfl) (fun K hK => ?_); go_big_quiet_op; refine hK _ ?_; clear hK K
          refine wpMix_nil ?_
          go_wp2
          go_roundw
          case rel => exact ⟨2, by omega, by go_num, by rw [HC.out], hbi.trans (hS0.mono hbi.size)⟩
          case measure => simp [intOf]

      · by_cases hc : 30 < s
        · have HC := Lib.hid (@cpt_yes s 10 20 30 2 (.inr (.inr ⟨rfl, hc⟩)))
          have hin := cpt_in s 10 20 30 2
          generalize cpt s 10 20 30 2 = c0 at *
          obtain ⟨y0, y1, y2, y3, y4⟩ := hp.below (hBL.trans (hbi.mono hBL.size)) hplt
          obtain ⟨b, off, hA, _, _, hcj, _⟩ := (hsl.below' hbi).cell1 rfl (show 2 < [10, 20, 30].length by decide) rfl
          injection hA with hA
          injection hA with hA1 hA2 _
          subst hA1 hA2
          replace hcj : wr.cell? ⟨w.heap.size, 2, none⟩ = some (.int .i64 30) := by simpa using hcj
          go_wp2
          have gy1 := cell_regrown y1
          have ghcj := cell_regrown hcj
          refine wp_region_mix (C := fun w' => ∃ p : Regrown, w' = Go.Sort.grow (redrawn wr p.d) p.os) [true, true, true, true, true, true, true, true, true] (by kernel_rfl) (by kernel_rfl) (by kernel_rfl) (fun _ _ d _ _ h => by cases d <;> exact h) (regrown_of_below (Below.drew (Below.refl _ _))) ?_
          have hS0 : Below (wr.heap.size) wr wr.drew := Below.drew (Below.refl _ _)
          refine wpMix_pure (by kernel_rfl) (fun K hK => ?_); go_big_quiet_op; refine hK _ ?_; clear hK K
          refine wpMix_pure (by kernel_rfl) (fun K hK => ?_); go_big_quiet_op; refine hK _ ?_; clear hK K
          refine wpMix_pure (by kernel_rfl) (fun K hK => ?_); go_big_quiet_op; refine hK _ ?_; clear hK K
          refine wpMix_pure (by kernel_rfl) (fun K hK => ?_); go_big_quiet_op; refine hK _ ?_; clear hK K
          refine wpMix_pure (by kernel_rfl) (fun K hK => ?_); go_big_quiet_op; refine hK _ ?_; clear hK K
          refine wpMix_pure (by kernel_rfl) (fun K hK => ?_); go_big_quiet_op; refine hK _ ?_; clear hK K
          refine wpMix_pure (by kernel_rfl) (fun K hK => ?_); go_big_quiet_op; refine hK _ ?_; clear hK K
          refine wpMix_pure (by kernel_rfl) (fun K hK => ?_); go_big_quiet_op; refine hK _ ?_; clear hK K
          refine wpMix_pure (by kernel_rfl) (fun K hK => ?_); go_big_quiet_op; refine hK _ ?_; clear hK K
          refine wpMix_nil ?_
          go_wp2
          go_roundw
          case rel => exact ⟨3, by omega, by go_num, by rw [HC.out], hbi.trans (hS0.mono hbi.size)⟩
          case measure => simp [intOf]

        · have HC := Lib.hid (@cpt_no s 10 20 30 2 (.inr (.inr ⟨rfl, hc⟩)))
          have hin := cpt_in s 10 20 30 2
          generalize cpt s 10 20 30 2 = c0 at *
          obtain ⟨y0, y1, y2, y3, y4⟩ := hp.below (hBL.trans (hbi.mono hBL.size)) hplt
          obtain ⟨b, off, hA, _, _, hcj, _⟩ := (hsl.below' hbi).cell1 rfl (show 2 < [10, 20, 30].length by decide) rfl
          injection hA with hA
          injection hA with hA1 hA2 _
          subst hA1 hA2
          replace hcj : wr.cell? ⟨w.heap.size, 2, none⟩ = some (.int .i64 30) := by simpa using hcj
          go_wp2
          have gy1 := cell_regrown y1
          have ghcj := cell_regrown hcj
          refine wp_region_mix (C := fun w' => ∃ p : Regrown, w' = Go.Sort.grow (redrawn wr p.d) p.os) [true, true, true, true, true, true, true, true, true] (by kernel_rfl) (by kernel_rfl) (by kernel_rfl) (fun _ _ d _ _ h => by cases d <;> exact h) (regrown_of_below (Below.drew (Below.refl _ _))) ?_
          have hS0 : Below (wr.heap.size) wr wr.drew := Below.drew (Below.refl _ _)
          refine wpMix_pure (by kernel_rfl) (fun K hK => ?_); go_big_quiet_op; refine hK _ ?_; clear hK K
          refine wpMix_pure (by kernel_rfl) (fun K hK => ?_); go_big_quiet_op; refine hK _ ?_; clear hK K
          refine wpMix_pure (by kernel_rfl) (fun K hK => ?_); go_big_quiet_op; refine hK _ ?_; clear hK K
          refine wpMix_pure (by kernel_rfl) (fun K hK => ?_); go_big_quiet_op; refine hK _ ?_; clear hK K
          refine wpMix_pure (by kernel_rfl) (fun K hK => ?_); go_big_quiet_op; refine hK _ ?_; clear hK K
          refine wpMix_pure (by kernel_rfl) (fun K hK => ?_); go_big_quiet_op; refine hK _ ?_; clear hK K
          refine wpMix_pure (by kernel_rfl) (fun K hK => ?_); go_big_quiet_op; refine hK _ ?_; clear hK K
          refine wpMix_pure (by kernel_rfl) (fun K hK => ?_); go_big_quiet_op; refine hK _ ?_; clear hK K
          refine wpMix_pure (by kernel_rfl) (fun K hK => ?_); go_big_quiet_op; refine hK _ ?_; clear hK K
          refine wpMix_nil ?_
          go_wp2
          go_roundw
          case rel => exact ⟨3, by omega, by go_num, by rw [HC.out], hbi.trans (hS0.mono hbi.size)⟩
          case measure => simp [intOf]

      · skip
        have hin := cpt_in s 10 20 30 3
        have hp2 := hp.below (hBL.trans (hbi.mono hBL.size)) hplt
        obtain ⟨y0, y1, y2, y3, y4⟩ := hp2
        generalize cpt s 10 20 30 3 = c0 at *
        go_wp2_with fail
        refine (minS_any _ _ _).mono ?_
        rintro e w' ⟨rfl, rfl⟩
        go_wp2_with fail
        refine (maxS_any _ _ _).mono ?_
        rintro e w' ⟨rfl, rfl⟩
        go_wp2
        go_ret
        exact ⟨ret_int (by rw [HF.out]; omega), hBL.trans (hbi.mono hBL.size)⟩
  · have HF := Lib.hid (clsF_cpt (x := ⟨2, s, q, d, h⟩) (a := 13) (b := 22) (c := 30) rfl)
    simp only at HF
    generalize clsF ⟨2, s, q, d, h⟩ = R at *
    have hplt := hp.lt
    have hB0 : Below w.heap.size w (w.alloc (.cells #[.int .i64 10, .int .i64 20, .int .i64 30] 2)) := (Below.refl _ _).alloc (Nat.le_refl _) _
    have hp0 := hp.below' hB0
    obtain ⟨c0, c1, c2, c3, c4⟩ := hp0
    have hB1 : Below (w.heap.size + 1) (w.alloc (.cells #[.int .i64 10, .int .i64 20, .int .i64 30] 2)) ((w.alloc (.cells #[.int .i64 10, .int .i64 20, .int .i64 30] 2)).alloc (.cells #[.int .i64 13, .int .i64 22, .int .i64 30] 2)) := (Below.refl _ _).alloc (by simp) _
    have hBL := hB0.trans (hB1.mono (Nat.le_succ _))
    have hsl := Sl.lit2 (E := fInt) (w.alloc (.cells #[.int .i64 10, .int .i64 20, .int .i64 30] 2)) [13, 22, 30] 2 _ rfl (by intro x hx; simp at hx; show _ ∧ _; omega) (by decide) (by decide)
    rw [World.size_alloc] at hsl
    clear hB0 hB1
    go_enter Tryz.func93, Tryz.ntmps93
    go_upto_region 6 with fail
    refine at_world (fun W => Below w.heap.size w W ∧ Sl fInt.cod W (.slice (some ⟨(w.heap.size + 1), 0, none⟩) 3 3) [13, 22, 30] [(w.heap.size + 1)] ∧ w.heap.size ≤ (w.heap.size + 1)) ⟨hBL, hsl, by simp⟩ ?_
    clear hBL hsl c0 c1 c2 c3 c4
    generalize w.heap.size + 1 = gl at *
    rintro W ⟨hBL, hsl, hgl⟩
    go_wp2
    go_loopw [4, 5] (fun c i wr => ∃ j : Nat, j ≤ 3 ∧ i = .int .i64 j ∧ c = .int .i64 (cpt s 13 22 30 j) ∧ Below W.heap.size W wr) (fun _ i _ => 3 - (intOf i).toNat)
    case atStart => exact ⟨0, by omega, rfl, rfl, Below.refl _ _⟩
    case round =>
      obtain ⟨j, hj, rfl, rfl, hbi⟩ := hrel
      rcases (by omega : j = 0 ∨ j = 1 ∨ j = 2 ∨ j = 3) with rfl | rfl | rfl | rfl
      · by_cases hc : 13 < s
        · have HC := Lib.hid (@cpt_yes s 13 22 30 0 (.inl ⟨rfl, hc⟩))
          have hin := cpt_in s 13 22 30 0
          generalize cpt s 13 22 30 0 = c0 at *
          obtain ⟨y0, y1, y2, y3, y4⟩ := hp.below (hBL.trans (hbi.mono hBL.size)) hplt
          obtain ⟨b, off, hA, _, _, hcj, _⟩ := (hsl.below' hbi).cell1 rfl (show 0 < [13, 22, 30].length by decide) rfl
          injection hA with hA
          injection hA with hA1 hA2 _
          subst hA1 hA2
          replace hcj : wr.cell? ⟨gl, 0, none⟩ = some (.int .i64 13) := by simpa using hcj
          go_wp2
          have gy1 := cell_regrown y1
          have ghcj := cell_regrown hcj
          refine wp_region_mix (C := fun w' => ∃ p : Regrown, w' = Go.Sort.grow (redrawn wr p.d) p.os) [true, true, true, true, true, true, true, true, true] (by kernel_rfl) (by kernel_rfl) (by kernel_rfl) (fun _ _ d _ _ h => by cases d <;> exact h) (regrown_of_below (Below.drew (Below.refl _ _))) ?_
          have hS0 : Below (wr.heap.size) wr wr.drew := Below.drew (Below.refl _ _)
          refine wpMix_pure (by kernel_rfl) (fun K hK => ?_); go_big_quiet_op; refine hK _ ?_; clear hK K
          refine wpMix_pure (by kernel_rfl) (fun K hK => ?_); go_big_quiet_op; refine hK _ ?_; clear hK K
          refine wpMix_pure (by kernel_rfl) (fun K hK => ?_); go_big_quiet_op; refine hK _ ?_; clear hK K
          refine wpMix_pure (by kernel_rfl) (fun K hK => ?_); go_big_quiet_op; refine hK _ ?_; clear hK K
          refine wpMix_pure (by kernel_rfl) (fun K hK => ?_); go_big_quiet_op; refine hK _ ?_; clear hK K
          refine wpMix_pure (by kernel_rfl) (fun K hK => ?_); go_big_quiet_op; refine hK _ ?_; clear hK K
          refine wpMix_pure (by kernel_rfl) (fun K hK => ?_); go_big_quiet_op; refine hK _ ?_; clear hK K
          refine wpMix_pure (by kernel_rfl) (fun K hK => ?_); go_big_quiet_op; refine hK _ ?_; clear hK K
          refine wpMix_pure (by kernel_rfl) (fun K hK => ?_); go_big_quiet_op; refine hK _ ?_; clear hK K
          refine wpMix_nil ?_
          go_wp2
          go_roundw
          case rel => exact ⟨1, by omega, by go_num, by rw [HC.out], hbi.trans (hS0.mono hbi.size)⟩
          case measure => simp [intOf]

        · have HC := Lib.hid (@cpt_no s 13 22 30 0 (.inl ⟨rfl, hc⟩))
          have hin := cpt_in s 13 22 30 0
          generalize cpt s 13 22 30 0 = c0 at *
          obtain ⟨y0, y1, y2, y3, y4⟩ := hp.below (hBL.trans (hbi.mono hBL.size)) hplt
          obtain ⟨b, off, hA, _, _, hcj, _⟩ := (hsl.below' hbi).cell1 rfl (show 0 < [13, 22, 30].length by decide) rfl
          injection hA with hA
          injection hA with hA1 hA2 _
          subst hA1 hA2
          replace hcj : wr.cell? ⟨gl, 0, none⟩ = some (.int .i64 13) := by simpa using hcj
          go_wp2
          have gy1 := cell_regrown y1
          have ghcj := cell_regrown hcj
          refine wp_region_mix (C := fun w' => ∃ p : Regrown, w' = Go.Sort.grow (redrawn wr p.d) p.os) [true, true, true, true, true, true, true, true, true] (by kernel_rfl) (by kernel_rfl) (by kernel_rfl) (fun _ _ d _ _ h => by cases d <;> exact h) (regrown_of_below (Below.drew (Below.refl _ _))) ?_
          have hS0 : Below (wr.heap.size) wr wr.drew := Below.drew (Below.refl _ _)
          refine wpMix_pure (by kernel_rfl) (fun K hK => ?_); go_big_quiet_op; refine hK _ ?_; clear hK K
          refine wpMix_pure (by kernel_rfl) (fun K hK => ?_); go_big_quiet_op; refine hK _ ?_; clear hK K
          refine wpMix_pure (by kernel_rfl) (fun K hK => ?_); go_big_quiet_op; refine hK _ ?_; clear hK K
          refine wpMix_pure (by kernel_rfl) (fun K hK => ?_); go_big_quiet_op; refine hK _ ?_; clear hK K
          refine wpMix_pure (by kernel_rfl) (fun K hK => ?_); go_big_quiet_op; refine hK _ ?_; clear hK K
          refine wpMix_pure (by kernel_rfl) (fun K hK => ?_); go_big_quiet_op; refine hK _ ?_; clear hK K
          refine wpMix_pure (by kernel_rfl) (fun K hK => ?_); go_big_quiet_op; refine hK _ ?_; clear hK K
          refine wpMix_pure (by kernel_rfl) (fun K hK => ?_); go_big_quiet_op; refine hK _ ?_; clear hK K
          refine wpMix_pure (by kernel_rfl) (fun K hK => ?_); go_big_quiet_op; refine hK _ ?_; clear hK K
          refine wpMix_nil ?_
          go_wp2
          go_roundw
          case rel => exact ⟨1, by omega, by go_num, by rw [HC.out], hbi.trans (hS0.mono hbi.size)⟩
          case measure => simp [intOf]

      · by_cases hc : 22 < s
        · have HC := Lib.hid (@cpt_yes s 13 22 30 1 (.inr (.inl ⟨rfl, hc⟩)))
          have hin := cpt_in s 13 22 30 1
          generalize cpt s 13 22 30 1 = c0 at *
          obtain ⟨y0, y1, y2, y3, y4⟩ := hp.below (hBL.trans (hbi.mono hBL.size)) hplt
          obtain ⟨b, off, hA, _, _, hcj, _⟩ := (hsl.below' hbi).cell1 rfl (show 1 < [13, 22, 30].length by decide) rfl
          injection hA with hA
          injection hA with hA1 hA2 _
          subst hA1 hA2
          replace hcj : wr.cell? ⟨gl, 1, none⟩ = some (.int .i64 22) := by simpa using hcj
          go_wp2
          have gy1 := cell_regrown y1
          have ghcj := cell_regrown hcj
          refine wp_region_mix (C := fun w' => ∃ p : Regrown, w' = Go.Sort.grow (redrawn wr p.d) p.os) [true, true, true, true, true, true, true, true, true] (by kernel_rfl) (by kernel_rfl) (by kernel_rfl) (fun _ _ d _ _ h => by cases d <;> exact h) (regrown_of_below (Below.drew (Below.refl _ _))) ?_
          have hS0 : Below (wr.heap.size) wr wr.drew := Below.drew (Below.refl _ _)
          refine wpMix_pure (by kernel_rfl) (fun K hK => ?_); go_big_quiet_op; refine hK _ ?_; clear hK K
          refine wpMix_pure (by kernel_rfl) (fun K hK => ?_); go_big_quiet_op; refine hK _ ?_; clear hK K
          refine wpMix_pure (by kernel_rfl) (fun K hK => ?_); go_big_quiet_op; refine hK _ ?_; clear hK K
          refine wpMix_pure (by kernel_rfl) (fun K hK => ?_); go_big_quiet_op; refine hK _ ?_; clear hK K
          refine wpMix_pure (by kernel_rfl) (fun K hK => ?_); go_big_quiet_op; refine hK _ ?_; clear hK K
          refine wpMix_pure (by kernel_rfl) (fun K hK => ?_); go_big_quiet_op; refine hK _ ?_; clear hK K
          refine wpMix_pure (by kernel_rfl) (fun K hK => ?_); go_big_quiet_op; refine hK _ ?_; clear hK K
          refine wpMix_pure (by kernel_rfl) (fun K hK => ?_); go_big_quiet_op; refine hK _ ?_; clear hK K
          refine wpMix_pure (by kernel_rfl) (fun K hK => ?_); go_big_quiet_op; refine hK _ ?_; clear hK K
          refine wpMix_nil ?_
          go_wp2
          go_roundw
          case rel => exact ⟨2, by omega, by go_num, by rw [HC.out], hbi.trans (hS0.mono hbi.size)⟩
          case measure => simp [intOf]

        · have HC := Lib.hid (@cpt_no s 13 22 30 1 (.inr (.inl ⟨rfl, hc⟩)))
          have hin := cpt_in s 13 22 30 1
          generalize cpt s 13 22 30 1 = c0 at *
          obtain ⟨y0, y1, y2, y3, y4⟩ := hp.below (hBL.trans (hbi.mono hBL.size)) hplt
          obtain ⟨b, off, hA, _, _, hcj, _⟩ := (hsl.below' hbi).cell1 rfl (show 1 < [13, 22, 30].length by decide) rfl
          injection hA with hA
          injection hA with hA1 hA2 _
          subst hA1 hA2
          replace hcj : wr.cell? ⟨gl, 1, none⟩ = some (.int .i64 22) := by simpa using hcj
          go_wp2
          have gy1 := cell_regrown y1
          have ghcj := cell_regrown hcj
          refine wp_region_mix (C := fun w' => ∃ p : Regrown, w' = Go.Sort.grow (redrawn wr p.d) p.os) [true, true, true, true, true, true, true, true, true] (by kernel_rfl) (by kernel_rfl) (by kernel_rfl) (fun _ _ d _ _ h => by cases d <;> exact h) (regrown_of_below (Below.drew (Below.refl _ _))) ?_
          have hS0 : Below (wr.heap.size) wr wr.drew := Below.drew (Below.refl _ _)
          refine wpMix_pure (by kernel_rfl) (fun K hK => ?_); go_big_quiet_op; refine hK _ ?_; clear hK K
          refine wpMix_pure (by kernel_rfl) (fun K hK => ?_); go_big_quiet_op; refine hK _ ?_; clear hK K
          refine wpMix_pure (by kernel_rfl) (fun K hK => ?_); go_big_quiet_op; refine hK _ ?_; clear hK K
          refine wpMix_pure (by kernel_rfl) (fun K hK => ?_); go_big_quiet_op; refine hK _ ?_; clear hK K
          refine wpMix_pure (by kernel_rfl) (fun K hK => ?_); go_big_quiet_op; refine hK _ ?_; clear hK K
          refine wpMix_pure (by kernel_rfl) (fun K hK => ?_); go_big_quiet_op; refine hK _ ?_; clear hK K
          refine wpMix_pure (by kernel_rfl) (fun K hK => ?_); go_big_quiet_op; refine hK _ ?_; clear hK K
          refine wpMix_pure (by kernel_rfl) (fun K hK => ?_); go_big_quiet_op; refine hK _ ?_; clear hK K
          refine wpMix_pure (by kernel_rfl) (fun K hK => ?_); go_big_quiet_op; refine hK _ ?_; clear hK K
          refine wpMix_nil ?_
          go_wp2
          go_roundw
          case rel => exact ⟨2, by omega, by go_num, by rw [HC.out], hbi.trans (hS0.mono hbi.size)⟩
          case measure => simp [intOf]

      · by_cases hc : 30 < s
        · have HC := Lib.hid (@cpt_yes s 13 22 30 2 (.inr (.inr ⟨rfl, hc⟩)))
          have hin := cpt_in s 13 22 30 2
          generalize cpt s 13 22 30 2 = c0 at *
          obtain ⟨y0, y1, y2, y3, y4⟩ := hp.below (hBL.trans (hbi.mono hBL.size)) hplt
          obtain ⟨b, off, hA, _, _, hcj, _⟩ := (hsl.below' hbi).cell1 rfl (show 2 < [13, 22, 30].length by decide) rfl
          injection hA with hA
          injection hA with hA1 hA2 _
          subst hA1 hA2
          replace hcj : wr.cell? ⟨gl, 2, none⟩ = some (.int .i64 30) := by simpa using hcj
          go_wp2
          have gy1 := cell_regrown y1
          have ghcj := cell_regrown hcj
          refine wp_region_mix (C := fun w' => ∃ p : Regrown, w' = Go.Sort.grow (redrawn wr p.d) p.os) [true, true, true, true, true, true, true, true, true] (by kernel_rfl) (by kernel_rfl) (by kernel_rfl) (fun _ _ d _ _ h => by cases d <;> exact h) (regrown_of_below (Below.drew (Below.refl _ _))) ?_
          have hS0 : Below (wr.heap.size) wr wr.drew := Below.drew (Below.refl _ _)
          refine wpMix_pure (by kernel_rfl) (fun K hK => ?_); go_big_quiet_op; refine hK _ ?_; clear hK K
          refine wpMix_pure (by kernel_rfl) (fun K hK => ?_); go_big_quiet_op; refine hK _ ?_; clear hK K
          refine wpMix_pure (by kernel_rfl) (fun K hK => ?_); go_big_quiet_op; refine hK _ ?_; clear hK K
          refine wpMix_pure (by kernel_rfl) (fun K hK => ?_); go_big_quiet_op; refine hK _ ?_; clear hK K
          refine wpMix_pure (by kernel_rfl) (fun K hK => ?_); go_big_quiet_op; refine hK _ ?_; clear hK K
          refine wpMix_pure (by kernel_rfl) (fun K hK => ?_); go_big_quiet_op; refine hK _ ?_; clear hK K
          refine wpMix_pure (by kernel_rfl) (fun K hK => ?_); go_big_quiet_op; refine hK _ ?_; clear hK K
          refine wpMix_pure (by kernel_rfl) (fun K hK => ?_); go_big_quiet_op; refine hK _ ?_; clear hK K
          refine wpMix_pure (by kernel_rfl) (fun K hK => ?_); go_big_quiet_op; refine hK _ ?_; clear hK K
          refine wpMix_nil ?_
          go_wp2
          go_roundw
          case rel => exact ⟨3, by omega, by go_num, by rw [HC.out], hbi.trans (hS0.mono hbi.size)⟩
          case measure => simp [intOf]

        · have HC := Lib.hid (@cpt_no s 13 22 30 2 (.inr (.inr ⟨rfl, hc⟩)))
          have hin := cpt_in s 13 22 30 2
          generalize cpt s 13 22 30 2 = c0 at *
          obtain ⟨y0, y1, y2, y3, y4⟩ := hp.below (hBL.trans (hbi.mono hBL.size)) hplt
          obtain ⟨b, off, hA, _, _, hcj, _⟩ := (hsl.below' hbi).cell1 rfl (show 2 < [13, 22, 30].length by decide) rfl
          injection hA with hA
          injection hA with hA1 hA2 _
          subst hA1 hA2
          replace hcj : wr.cell? ⟨gl, 2, none⟩ = some (.int .i64 30) := by simpa using hcj
          go_wp2
          have gy1 := cell_regrown y1
          have ghcj := cell_regrown hcj
          refine wp_region_mix (C := fun w' => ∃ p : Regrown, w' = Go.Sort.grow (redrawn wr p.d) p.os) [true, true, true, true, true, true, true, true, true] (by kernel_rfl) (by kernel_rfl) (by kernel_rfl) (fun _ _ d _ _ h => by cases d <;> exact h) (regrown_of_below (Below.drew (Below.refl _ _))) ?_
          have hS0 : Below (wr.heap.size) wr wr.drew := Below.drew (Below.refl _ _)
          refine wpMix_pure (by kernel_rfl) (fun K hK => ?_); go_big_quiet_op; refine hK _ ?_; clear hK K
          refine wpMix_pure (by kernel_rfl) (fun K hK => ?_); go_big_quiet_op; refine hK _ ?_; clear hK K
          refine wpMix_pure (by kernel_rfl) (fun K hK => ?_); go_big_quiet_op; refine hK _ ?_; clear hK K
          refine wpMix_pure (by kernel_rfl) (fun K hK => ?_); go_big_quiet_op; refine hK _ ?_; clear hK K
          refine wpMix_pure (by kernel_rfl) (fun K hK => ?_); go_big_quiet_op; refine hK _ ?_; clear hK K
          refine wpMix_pure (by kernel_rfl) (fun K hK => ?_); go_big_quiet_op; refine hK _ ?_; clear hK K
          refine wpMix_pure (by kernel_rfl) (fun K hK => ?_); go_big_quiet_op; refine hK _ ?_; clear hK K
          refine wpMix_pure (by kernel_rfl) (fun K hK => ?_); go_big_quiet_op; refine hK _ ?_; clear hK K
          refine wpMix_pure (by kernel_rfl) (fun K hK => ?_); go_big_quiet_op; refine hK _ ?_; clear hK K
          refine wpMix_nil ?_
          go_wp2
          go_roundw
          case rel => exact ⟨3, by omega, by go_num, by rw [HC.out], hbi.trans (hS0.mono hbi.size)⟩
          case measure => simp [intOf]

      · skip
        have hin := cpt_in s 13 22 30 3
        have hp2 := hp.below (hBL.trans (hbi.mono hBL.size)) hplt
        obtain ⟨y0, y1, y2, y3, y4⟩ := hp2
        generalize cpt s 13 22 30 3 = c0 at *
        go_wp2_with fail
        refine (minS_any _ _ _).mono ?_
        rintro e w' ⟨rfl, rfl⟩
        go_wp2_with fail
        refine (maxS_any _ _ _).mono ?_
        rintro e w' ⟨rfl, rfl⟩
        go_wp2
        go_ret
        exact ⟨ret_int (by rw [HF.out]; omega), hBL.trans (hbi.mono hBL.size)⟩
  · have HF := Lib.hid (clsF_cpt (x := ⟨3, s, q, d, h⟩) (a := 2) (b := 4) (c := 6) rfl)
    simp only at HF
    generalize clsF ⟨3, s, q, d, h⟩ = R at *
    have hplt := hp.lt
    have hB0 : Below w.heap.size w (w.alloc (.cells #[.int .i64 10, .int .i64 20, .int .i64 30] 2)) := (Below.refl _ _).alloc (Nat.le_refl _) _
    have hp0 := hp.below' hB0
    obtain ⟨c0, c1, c2, c3, c4⟩ := hp0
    have hB1 : Below (w.heap.size + 1) (w.alloc (.cells #[.int .i64 10, .int .i64 20, .int .i64 30] 2)) ((w.alloc (.cells #[.int .i64 10, .int .i64 20, .int .i64 30] 2)).alloc (.cells #[.int .i64 2, .int .i64 4, .int .i64 6] 2)) := (Below.refl _ _).alloc (by simp) _
    have hBL := hB0.trans (hB1.mono (Nat.le_succ _))
    have hsl := Sl.lit2 (E := fInt) (w.alloc (.cells #[.int .i64 10, .int .i64 20, .int .i64 30] 2)) [2, 4, 6] 2 _ rfl (by intro x hx; simp at hx; show _ ∧ _; omega) (by decide) (by decide)
    rw [World.size_alloc] at hsl
    clear hB0 hB1
    go_enter Tryz.func93, Tryz.ntmps93
    go_upto_region 6 with fail
    refine at_world (fun W => Below w.heap.size w W ∧ Sl fInt.cod W (.slice (some ⟨(w.heap.size + 1), 0, none⟩) 3 3) [2, 4, 6] [(w.heap.size + 1)] ∧ w.heap.size ≤ (w.heap.size + 1)) ⟨hBL, hsl, by simp⟩ ?_
    clear hBL hsl c0 c1 c2 c3 c4
    generalize w.heap.size + 1 = gl at *
    rintro W ⟨hBL, hsl, hgl⟩
    go_wp2
    go_loopw [4, 5] (fun c i wr => ∃ j : Nat, j ≤ 3 ∧ i = .int .i64 j ∧ c = .int .i64 (cpt s 2 4 6 j) ∧ Below W.heap.size W wr) (fun _ i _ => 3 - (intOf i).toNat)
    case atStart => exact ⟨0, by omega, rfl, rfl, Below.refl _ _⟩
    case round =>
      obtain ⟨j, hj, rfl, rfl, hbi⟩ := hrel
      rcases (by omega : j = 0 ∨ j = 1 ∨ j = 2 ∨ j = 3) with rfl | rfl | rfl | rfl
      · by_cases hc : 2 < s
        · have HC := Lib.hid (@cpt_yes s 2 4 6 0 (.inl ⟨rfl, hc⟩))
          have hin := cpt_in s 2 4 6 0
          generalize cpt s 2 4 6 0 = c0 at *
          obtain ⟨y0, y1, y2, y3, y4⟩ := hp.below (hBL.trans (hbi.mono hBL.size)) hplt
          obtain ⟨b, off, hA, _, _, hcj, _⟩ := (hsl.below' hbi).cell1 rfl (show 0 < [2, 4, 6].length by decide) rfl
          injection hA with hA
          injection hA with hA1 hA2 _
          subst hA1 hA2
          replace hcj : wr.cell? ⟨gl, 0, none⟩ = some (.int .i64 2) := by simpa using hcj
          go_wp2
          have gy1 := cell_regrown y1
          have ghcj := cell_regrown hcj
          refine wp_region_mix (C := fun w' => ∃ p : Regrown, w' = Go.Sort.grow (redrawn wr p.d) p.os) [true, true, true, true, true, true, true, true, true] (by kernel_rfl) (by kernel_rfl) (by kernel_rfl) (fun _ _ d _ _ h => by cases d <;> exact h) (regrown_of_below (Below.drew (Below.refl _ _))) ?_
          have hS0 : Below (wr.heap.size) wr wr.drew := Below.drew (Below.refl _ _)
          refine wpMix_pure (by kernel_rfl) (fun K hK => ?_); go_big_quiet_op; refine hK _ ?_; clear hK K
          refine wpMix_pure (by kernel_rfl) (fun K hK => ?_); go_big_quiet_op; refine hK _ ?_; clear hK K
          refine wpMix_pure (by kernel_rfl) (fun K hK => ?_); go_big_quiet_op; refine hK _ ?_; clear hK K
          refine wpMix_pure (by kernel_rfl) (fun K hK => ?_); go_big_quiet_op; refine hK _ ?_; clear hK K
          refine wpMix_pure (by kernel_rfl) (fun K hK => ?_); go_big_quiet_op; refine hK _ ?_; clear hK K
          refine wpMix_pure (by kernel_rfl) (fun K hK => ?_); go_big_quiet_op; refine hK _ ?_; clear hK K
          refine wpMix_pure (by kernel_rfl) (fun K hK => ?_); go_big_quiet_op; refine hK _ ?_; clear hK K
          refine wpMix_pure (by kernel_rfl) (fun K hK => ?_); go_big_quiet_op; refine hK _ ?_; clear hK K
          refine wpMix_pure (by kernel_rfl) (fun K hK => ?_); go_big_quiet_op; refine hK _ ?_; clear hK K
          refine wpMix_nil ?_
          go_wp2
          go_roundw
          case rel => exact ⟨1, by omega, by go_num, by rw [HC.out], hbi.trans (hS0.mono hbi.size)⟩
          case measure => simp [intOf]

        · have HC := Lib.hid (@cpt_no s 2 4 6 0 (.inl ⟨rfl, hc⟩))
          have hin := cpt_in s 2 4 6 0
          generalize cpt s 2 4 6 0 = c0 at *
          obtain ⟨y0, y1, y2, y3, y4⟩ := hp.below (hBL.trans (hbi.mono hBL.size)) hplt
          obtain ⟨b, off, hA, _, _, hcj, _⟩ := (hsl.below' hbi).cell1 rfl (show 0 < [2, 4, 6].length by decide) rfl
          injection hA with hA
          injection hA with hA1 hA2 _
          subst hA1 hA2
          replace hcj : wr.cell? ⟨gl, 0, none⟩ = some (.int .i64 2) := by simpa using hcj
          go_wp2
          have gy1 := cell_regrown y1
          have ghcj := cell_regrown hcj
          refine wp_region_mix (C := fun w' => ∃ p : Regrown, w' = Go.Sort.grow (redrawn wr p.d) p.os) [true, true, true, true, true, true, true, true, true] (by kernel_rfl) (by kernel_rfl) (by kernel_rfl) (fun _ _ d _ _ h => by cases d <;> exact h) (regrown_of_below (Below.drew (Below.refl _ _))) ?_
          have hS0 : Below (wr.heap.size) wr wr.drew := Below.drew (Below.refl _ _)
          refine wpMix_pure (by kernel_rfl) (fun K hK => ?_); go_big_quiet_op; refine hK _ ?_; clear hK K
          refine wpMix_pure (by kernel_rfl) (fun K hK => ?_); go_big_quiet_op; refine hK _ ?_; clear hK K
          refine wpMix_pure (by kernel_rfl) (fun K hK => ?_); go_big_quiet_op; refine hK _ ?_; clear hK K
          refine wpMix_pure (by kernel_rfl) (fun K hK => ?_); go_big_quiet_op; refine hK _ ?_; clear hK K
          refine wpMix_pure (by kernel_rfl) (fun K hK => ?_); go_big_quiet_op; refine hK _ ?_; clear hK K
          refine wpMix_pure (by kernel_rfl) (fun K hK => ?_); go_big_quiet_op; refine hK _ ?_; clear hK K
          refine wpMix_pure (by kernel_rfl) (fun K hK => ?_); go_big_quiet_op; refine hK _ ?_; clear hK K
          refine wpMix_pure (by kernel_rfl) (fun K hK => ?_); go_big_quiet_op; refine hK _ ?_; clear hK K
          refine wpMix_pure (by kernel_rfl) (fun K hK => ?_); go_big_quiet_op; refine hK _ ?_; clear hK K
          refine wpMix_nil ?_
          go_wp2
          go_roundw
          case rel => exact ⟨1, by omega, by go_num, by rw [HC.out], hbi.trans (hS0.mono hbi.size)⟩
          case measure => simp [intOf]

      · by_cases hc : 4 < s
        · have HC := Lib.hid (@cpt_yes s 2 4 6 1 (.inr (.inl ⟨rfl, hc⟩)))
          have hin := cpt_in s 2 4 6 1
          generalize cpt s 2 4 6 1 = c0 at *
          obtain ⟨y0, y1, y2, y3, y4⟩ := hp.below (hBL.trans (hbi.mono hBL.size)) hplt
          obtain ⟨b, off, hA, _, _, hcj, _⟩ := (hsl.below' hbi).cell1 rfl (show 1 < [2, 4, 6].length by decide) rfl
          injection hA with hA
          injection hA with hA1 hA2 _
          subst hA1 hA2
          replace hcj : wr.cell? ⟨gl, 1, none⟩ = some (.int .i64 4) := by simpa using hcj
          go_wp2
          have gy1 := cell_regrown y1
          have ghcj := cell_regrown hcj
          refine wp_region_mix (C := fun w' => ∃ p : Regrown, w' = Go.Sort.grow (redrawn wr p.d) p.os) [true, true, true, true, true, true, true, true, true] (by kernel_rfl) (by kernel_rfl) (by kernel_rfl) (fun _ _ d _ _ h => by cases d <;> exact h) (regrown_of_below (Below.drew (Below.refl _ _))) ?_
          have hS0 : Below (wr.heap.size) wr wr.drew := Below.drew (Below.refl _ _)
          refine wpMix_pure (by kernel_rfl) (fun K hK => ?_); go_big_quiet_op; refine hK _ ?_; clear hK K
          refine wpMix_pure (by kernel_rfl) (fun K hK => ?_); go_big_quiet_op; refine hK _ ?_; clear hK K
          refine wpMix_pure (by kernel_rfl) (fun K hK => ?_); go_big_quiet_op; refine hK _ ?_; clear hK K
          refine wpMix_pure (by kernel_rfl) (fun K hK => ?_); go_big_quiet_op; refine hK _ ?_; clear hK K
          refine wpMix_pure (by kernel_rfl) (fun K hK => ?_); go_big_quiet_op; refine hK _ ?_; clear hK K
          refine wpMix_pure (by kernel_rfl) (fun K hK => ?_); go_big_quiet_op; refine hK _ ?_; clear hK K
          refine wpMix_pure (by kernel_rfl) (fun K hK => ?_); go_big_quiet_op; refine hK _ ?_; clear hK K
          refine wpMix_pure (by kernel_rfl) (fun K hK => ?_); go_big_quiet_op; refine hK _ ?_; clear hK K
          refine wpMix_pure (by kernel_rfl) (fun K hK => ?_); go_big_quiet_op; refine hK _ ?_; clear hK K
          refine wpMix_nil ?_
          go_wp2
          go_roundw
          case rel => exact ⟨2, by omega, by go_num, by rw [HC.out], hbi.trans (hS0.mono hbi.size)⟩
          case measure => simp [intOf]

        · have HC := Lib.hid (@cpt_no s 2 4 6 1 (.inr (.inl ⟨rfl, hc⟩)))
          have hin := cpt_in s 2 4 6 1
          generalize cpt s 2 4 6 1 = c0 at *
          obtain ⟨y0, y1, y2, y3, y4⟩ := hp.below (hBL.trans (hbi.mono hBL.size)) hplt
          obtain ⟨b, off, hA, _, _, hcj, _⟩ := (hsl.below' hbi).cell1 rfl (show 1 < [2, 4, 6].length by decide) rfl
          injection hA with hA
          injection hA with hA1 hA2 _
          subst hA1 hA2
          replace hcj : wr.cell? ⟨gl, 1, none⟩ = some (.int .i64 4) := by simpa using hcj
          go_wp2
          have gy1 := cell_regrown y1
          have ghcj := cell_regrown hcj
          refine wp_region_mix (C := fun w' => ∃ p : Regrown, w' = Go.Sort.grow (redrawn wr p.d) p.os) [true, true, true, true, true, true, true, true, true] (by kernel_rfl) (by kernel_rfl) (by kernel_rfl) (fun _ _ d _ _ h => by cases d <;> exact h) (regrown_of_below (Below.drew (Below.refl _ _))) ?_
          have hS0 : Below (wr.heap.size) wr wr.drew := Below.drew (Below.refl _ _)
          refine wpMix_pure (by kernel_rfl) (fun K hK => ?_); go_big_quiet_op; refine hK _ ?_; clear hK K
          refine wpMix_pure (by kernel_rfl) (fun K hK => ?_); go_big_quiet_op; refine hK _ ?_; clear hK K
          refine wpMix_pure (by kernel_rfl) (fun K hK => ?_); go_big_quiet_op; refine hK _ ?_; clear hK K
          refine wpMix_pure (by kernel_rfl) (fun K hK => ?_); go_big_quiet_op; refine hK _ ?_; clear hK K
          refine wpMix_pure (by kernel_rfl) (fun K hK => ?_); go_big_quiet_op; refine hK _ ?_; clear hK K
          refine wpMix_pure (by kernel_rfl) (fun K hK => ?_); go_big_quiet_op; refine hK _ ?_; clear hK K
          refine wpMix_pure (by kernel_rfl) (fun K hK => ?_); go_big_quiet_op; refine hK _ ?_; clear hK K
          refine wpMix_pure (by kernel_rfl) (fun K hK => ?_); go_big_quiet_op; refine hK _ ?_; clear hK K
          refine wpMix_pure (by kernel_rfl) (fun K hK => ?_); go_big_quiet_op; refine hK _ ?_; clear hK K
          refine wpMix_nil ?_
          go_wp2
          go_roundw
          case rel => exact ⟨2, by omega, by go_num, by rw [HC.out], hbi.trans (hS0.mono hbi.size)⟩
          case measure => simp [intOf]

      · by_cases hc : 6 < s
        · have HC := Lib.hid (@cpt_yes s 2 4 6 2 (.inr (.inr ⟨rfl, hc⟩)))
          have hin := cpt_in s 2 4 6 2
          generalize cpt s 2 4 6 2 = c0 at *
          obtain ⟨y0, y1, y2, y3, y4⟩ := hp.below (hBL.trans (hbi.mono hBL.size)) hplt
          obtain ⟨b, off, hA, _, _, hcj, _⟩ := (hsl.below' hbi).cell1 rfl (show 2 < [2, 4, 6].length by decide) rfl
          injection hA with hA
          injection hA with hA1 hA2 _
          subst hA1 hA2
          replace hcj : wr.cell? ⟨gl, 2, none⟩ = some (.int .i64 6) := by simpa using hcj
          go_wp2
          have gy1 := cell_regrown y1
          have ghcj := cell_regrown hcj
          refine wp_region_mix (C := fun w' => ∃ p : Regrown, w' = Go.Sort.grow (redrawn wr p.d) p.os) [true, true, true, true, true, true, true, true, true] (by kernel_rfl) (by kernel_rfl) (by kernel_rfl) (fun _ _ d _ _ h => by cases d <;> exact h) (regrown_of_below (Below.drew (Below.refl _ _))) ?_
          have hS0 : Below (wr.heap.size) wr wr.drew := Below.drew (Below.refl _ _)
          refine wpMix_pure (by kernel_rfl) (fun K hK => ?_); go_big_quiet_op; refine hK _ ?_; clear hK K
          refine wpMix_pure (by kernel_rfl) (fun K hK => ?_); go_big_quiet_op; refine hK _ ?_; clear hK K
          refine wpMix_pure (by kernel_rfl) (fun K hK => ?_); go_big_quiet_op; refine hK _ ?_; clear hK K
          refine wpMix_pure (by kernel_rfl) (fun K hK => ?_); go_big_quiet_op; refine hK _ ?_; clear hK K
          refine wpMix_pure (by kernel_rfl) (fun K hK => ?_); go_big_quiet_op; refine hK _ ?_; clear hK K
          refine wpMix_pure (by kernel_rfl) (fun K hK => ?_); go_big_quiet_op; refine hK _ ?_; clear hK K
          refine wpMix_pure (by kernel_rfl) (fun K hK => ?_); go_big_quiet_op; refine hK _ ?_; clear hK K
          refine wpMix_pure (by kernel_rfl) (fun K hK => ?_); go_big_quiet_op; refine hK _ ?_; clear hK K
          refine wpMix_pure (by kernel_rfl) (fun K hK => ?_); go_big_quiet_op; refine hK _ ?_; clear hK K
          refine wpMix_nil ?_
          go_wp2
          go_roundw
          case rel => exact ⟨3, by omega, by go_num, by rw [HC.out], hbi.trans (hS0.mono hbi.size)⟩
          case measure => simp [intOf]

        · have HC := Lib.hid (@cpt_no s 2 4 6 2 (.inr (.inr ⟨rfl, hc⟩)))
          have hin := cpt_in s 2 4 6 2
          generalize cpt s 2 4 6 2 = c0 at *
          obtain ⟨y0, y1, y2, y3, y4⟩ := hp.below (hBL.trans (hbi.mono hBL.size)) hplt
          obtain ⟨b, off, hA, _, _, hcj, _⟩ := (hsl.below' hbi).cell1 rfl (show 2 < [2, 4, 6].length by decide) rfl
          injection hA with hA
          injection hA with hA1 hA2 _
          subst hA1 hA2
          replace hcj : wr.cell? ⟨gl, 2, none⟩ = some (.int .i64 6) := by simpa using hcj
          go_wp2
          have gy1 := cell_regrown y1
          have ghcj := cell_regrown hcj
          refine wp_region_mix (C := fun w' => ∃ p : Regrown, w' = Go.Sort.grow (redrawn wr p.d) p.os) [true, true, true, true, true, true, true, true, true] (by kernel_rfl) (by kernel_rfl) (by kernel_rfl) (fun _ _ d _ _ h => by cases d <;> exact h) (regrown_of_below (Below.drew (Below.refl _ _))) ?_
          have hS0 : Below (wr.heap.size) wr wr.drew := Below.drew (Below.refl _ _)
          refine wpMix_pure (by kernel_rfl) (fun K hK => ?_); go_big_quiet_op; refine hK _ ?_; clear hK K
          refine wpMix_pure (by kernel_rfl) (fun K hK => ?_); go_big_quiet_op; refine hK _ ?_; clear hK K
          refine wpMix_pure (by kernel_rfl) (fun K hK => ?_); go_big_quiet_op; refine hK _ ?_; clear hK K
          refine wpMix_pure (by kernel_rfl) (fun K hK => ?_); go_big_quiet_op; refine hK _ ?_; clear hK K
          refine wpMix_pure (by kernel_rfl) (fun K hK => ?_); go_big_quiet_op; refine hK _ ?_; clear hK K
          refine wpMix_pure (by kernel_rfl) (fun K hK => ?_); go_big_quiet_op; refine hK _ ?_; clear hK K
          refine wpMix_pure (by kernel_rfl) (fun K hK => ?_); go_big_quiet_op; refine hK _ ?_; clear hK K
          refine wpMix_pure (by kernel_rfl) (fun K hK => ?_); go_big_quiet_op; refine hK _ ?_; clear hK K
          refine wpMix_pure (by kernel_rfl) (fun K hK => ?_); go_big_quiet_op; refine hK _ ?_; clear hK K
          refine wpMix_nil ?_
          go_wp2
          go_roundw
          case rel => exact ⟨3, by omega, by go_num, by rw [HC.out], hbi.trans (hS0.mono hbi.size)⟩
          case measure => simp [intOf]

      · skip
        have hin := cpt_in s 2 4 6 3
        have hp2 := hp.below (hBL.trans (hbi.mono hBL.size)) hplt
        obtain ⟨y0, y1, y2, y3, y4⟩ := hp2
        generalize cpt s 2 4 6 3 = c0 at *
        go_wp2_with fail
        refine (minS_any _ _ _).mono ?_
        rintro e w' ⟨rfl, rfl⟩
        go_wp2_with fail
        refine (maxS_any _ _ _).mono ?_
        rintro e w' ⟨rfl, rfl⟩
        go_wp2
        go_ret
        exact ⟨ret_int (by rw [HF.out]; omega), hBL.trans (hbi.mono hBL.size)⟩
set_option maxRecDepth 100000 in
set_option maxHeartbeats 2000000 in
theorem ClassOf_any (x : DTest) (w : World) (hok : fTest.ok x) :
    Calls Tryz.prog 11 #[.agg #[.int .i64 x.kind, .int .i64 x.score, .int .i64 x.quality, .int .i64 x.depth, .int .i64 x.hour]] w fun e w' => e = .returned (.tuple #[.int .i64 (cofF x), .int .i64 (cofC x)]) ∧ Below w.heap.size w w' := by
  have hp := PTest.box w x 25
  have hB0 : Below w.heap.size w (w.alloc (.cells #[.int .i64 x.kind, .int .i64 x.score, .int .i64 x.quality, .int .i64 x.depth, .int .i64 x.hour] 25)) := (Below.refl _ _).alloc (Nat.le_refl _) _
  go_enter Tryz.func11, Tryz.ntmps11
  go_wp2_with fail
  refine (validTest_any x _ hok).mono ?_
  rintro e w1 ⟨rfl, hb1⟩
  have hp1 := hp.below' hb1
  have hB1 := hB0.trans (hb1.mono hB0.size)
  obtain ⟨c0, c1, c2, c3, c4⟩ := hp1
  clear hp hb1 hB0
  cases hv : testB x
  · have HF : Hid (cofF x = 0) := by show _ = _; unfold cofF; rw [hv]; rfl
    have HC : Hid (cofC x = 1) := by show _ = _; unfold cofC; rw [hv]; rfl
    go_wp2
    go_ret2
    exact ⟨by rw [HF.out, HC.out]; rfl, hB1⟩
  · go_wp2_with fail
    refine (class_any x _ hv).mono ?_
    rintro e w2 ⟨rfl, hb2⟩
    have HF : Hid (cofF x = clsF x) := by show _ = _; unfold cofF; rw [hv]; rfl
    have HC : Hid (cofC x = 0) := by show _ = _; unfold cofC; rw [hv]; rfl
    go_wp2
    go_ret2
    exact ⟨by rw [HF.out, HC.out]; rfl, hB1.trans (hb2.mono hB1.size)⟩
set_option maxRecDepth 100000 in
set_option maxHeartbeats 2000000 in
theorem specClassOf_any (x : DTest) (w : World) (hok : fTest.ok x) :
    Calls Tryz.prog 19 #[.agg #[.int .i64 x.kind, .int .i64 x.score, .int .i64 x.quality, .int .i64 x.depth, .int .i64 x.hour]] w fun e w' => e = .returned (.tuple #[.int .i64 (cofF x), .int .i64 (cofC x)]) ∧ Below w.heap.size w w' := by
  have hp := PTest.box w x 25
  have hB0 : Below w.heap.size w (w.alloc (.cells #[.int .i64 x.kind, .int .i64 x.score, .int .i64 x.quality, .int .i64 x.depth, .int .i64 x.hour] 25)) := (Below.refl _ _).alloc (Nat.le_refl _) _
  go_enter Tryz.func19, Tryz.ntmps19
  go_wp2_with fail
  refine (l08One_any _ _ x _ hp hok).mono ?_
  rintro e w1 ⟨rfl, hb1⟩
  have hp1 := hp.below' hb1
  have hB1 := hB0.trans (hb1.mono hB0.size)
  clear hp hb1 hB0
  cases hv : testB x
  · have HF : Hid (cofF x = 0) := by show _ = _; unfold cofF; rw [hv]; rfl
    have HC : Hid (cofC x = 1) := by show _ = _; unfold cofC; rw [hv]; rfl
    go_wp2
    go_ret2
    exact ⟨by rw [HF.out, HC.out]; rfl, hB1⟩
  · go_wp2_with fail
    refine (l08Class_any x _ _ _ hp1 hv).mono ?_
    rintro e w2 ⟨rfl, hb2⟩
    have HF : Hid (cofF x = clsF x) := by show _ = _; unfold cofF; rw [hv]; rfl
    have HC : Hid (cofC x = 0) := by show _ = _; unfold cofC; rw [hv]; rfl
    go_wp2
    go_ret2
    exact ⟨by rw [HF.out, HC.out]; rfl, hB1.trans (hb2.mono hB1.size)⟩

end Go.Proofs.YtfgmikgghpflbaaGreatDoor

namespace Go.Proofs.YtfgmikgghpflbaaGreatDoor
open Go.RowKit
set_option linter.unusedVariables false

theorem infoIntT : (Tryz.prog.info? 2).map (fun i => (i.zero, i.size, i.bytes)) = some (some (.int .i64 0), 1, 8) := by kernel_rfl
set_option maxRecDepth 100000 in
set_option maxHeartbeats 400000 in
theorem nearOk_any (n : Int) (w : World) : Calls Tryz.prog 90 #[.int .i64 n] w fun e w' => e = .returned (.bool (inB n 0 300)) ∧ w = w' := by
  go_enter Tryz.func90, Tryz.ntmps90
  go_wp2_with (go_at_call 91; refine (withinB_any _ _ _ _).mono ?_; rintro e w' ⟨rfl, rfl⟩)
  go_ret
  exact ⟨rfl, rfl⟩
def wrsC (xs : List DTest) : Int := if testsB xs then (if xs.length = 0 then 3 else 0) else 1
def wrsV (xs : List DTest) : Int := if wrsC xs = 0 then wrsF xs xs.length else 0
theorem wrs_bad {xs : List DTest} (h : testsB xs = false) : wrsC xs = 1 ∧ wrsV xs = 0 := by
  have e : wrsC xs = 1 := by unfold wrsC; rw [h]; rfl
  exact ⟨e, by unfold wrsV; rw [e]; rfl⟩
theorem wrs_nil {xs : List DTest} (h : testsB xs = true) (h0 : xs.length = 0) : wrsC xs = 3 ∧ wrsV xs = 0 := by
  have e : wrsC xs = 3 := by unfold wrsC; rw [h, if_pos h0]; rfl
  exact ⟨e, by unfold wrsV; rw [e]; rfl⟩
theorem wrs_ok {xs : List DTest} (h : testsB xs = true) (h0 : ¬ xs.length = 0) : wrsC xs = 0 ∧ wrsV xs = wrsF xs xs.length := by
  have e : wrsC xs = 0 := by unfold wrsC; rw [h, if_neg h0]; rfl
  exact ⟨e, by unfold wrsV; rw [e]; rfl⟩
theorem wrsF_in (xs : List DTest) : ∀ k, k ≤ xs.length → 1 ≤ wrsF xs k ∧ wrsF xs k ≤ 4
  | 0, _ => by rw [wrsF_zero]; exact clsF_in _
  | k + 1, h => by
    rw [wrsF_step (by omega : k < xs.length)]
    have := wrsF_in xs k (by omega)
    have := clsF_in xs[k]
    omega
set_option maxRecDepth 100000 in
set_option maxHeartbeats 4000000 in
theorem WorstClass_any (v : Value) (xs : List DTest) (fp : List Nat) (w : World) (hx : Sl fTest.cod w v xs fp) :
    Calls Tryz.prog 16 #[v] w fun e w' => e = .returned (.tuple #[.int .i64 (wrsV xs), .int .i64 (wrsC xs)]) ∧ Below w.heap.size w w' := by
  obtain ⟨A, cap, rfl, hlen, hcap⟩ := hx.form
  go_enter Tryz.func16, Tryz.ntmps16
  go_wp2_with fail
  refine (ValidTests_any _ xs fp _ hx).mono ?_
  rintro e w1 ⟨rfl, hb1⟩
  cases hv : testsB xs
  · have HE := Lib.hid (wrs_bad hv)
    go_wp2
    go_ret2
    exact ⟨by rw [HE.out.1, HE.out.2]; rfl, hb1⟩
  by_cases h0 : xs.length = 0
  · have HE := Lib.hid (wrs_nil hv h0)
    obtain rfl := List.eq_nil_of_length_eq_zero h0
    go_wp2
    go_ret2
    exact ⟨by rw [HE.out.1, HE.out.2]; rfl, hb1⟩
  have HE := Lib.hid (wrs_ok hv h0)
  have HW := Lib.hid (wrsF_zero xs)
  have hx1 := hx.below' hb1
  have e3 : ((xs.length : Int) == 0) = false := by rw [beq_eq_false_iff_ne]; omega
  have hpos : 0 < xs.length := by omega
  clear h0
  obtain ⟨b, off, rfl, _, hok, hp⟩ := PTest.elem hx1 hpos
  obtain ⟨c0, c1, c2, c3, c4⟩ := id hp
  have hg0 := Lib.hid (getD_of_lt (d := test0) hpos)
  simp only [Nat.zero_mul, Nat.add_zero] at c0 c1 c2 c3 c4
  go_wp2_with fail
  refine (class_any xs[0] _ (testsB_one hv hpos)).mono ?_
  rintro e w2 ⟨rfl, hb2⟩
  have hB2 := hb1.trans (hb2.mono hb1.size)
  have hx2 := hx1.below' hb2
  have HC : Hid (clsF xs[0] = wrsF xs 0) := by show _ = _; rw [HW.out, hg0.out]
  rw [HC.out]
  clear hb1 hb2 hx1 hp c0 c1 c2 c3 c4 HW hg0 HC hok
  go_wp2
  go_loopw [4, 21] (fun m i wr => ∃ k : Nat, k ≤ xs.length ∧ i = .int .i64 k ∧ m = .int .i64 (wrsF xs k) ∧ Below w.heap.size w wr) (fun _ i _ => xs.length - (intOf i).toNat)
  case atStart => exact ⟨0, Nat.zero_le _, rfl, rfl, hB2⟩
  case round =>
    obtain ⟨k, hk, rfl, rfl, hb⟩ := hrel
    by_cases hlt : k < xs.length
    · obtain ⟨b', off', hA, _, hok, hp⟩ := PTest.elem (hx.below' hb) hlt
      injection hA with hA
      injection hA with hA1 hA2 _
      subst hA1 hA2
      have hvk := testsB_one hv hlt
      have HS := Lib.hid (wrsF_step hlt)
      obtain ⟨c0, c1, c2, c3, c4⟩ := id hp
      have hin := wrsF_in xs k hk
      go_wp2_with fail
      refine (class_any xs[k] _ hvk).mono ?_
      rintro e w3 ⟨rfl, hb3⟩
      have hb4 := hb.trans ((Below.trans ((Below.refl _ _).alloc (Nat.le_refl _) _) (hb3.mono (by simp))).mono hb.size)
      clear hp c0 c1 c2 c3 c4 hb3
      go_wp2
      go_roundw
      case rel => exact ⟨k + 1, by omega, by go_num, by rw [HS.out], hb4⟩
      case measure => simp [intOf]; omega
    · obtain rfl : k = xs.length := by omega
      go_wp2
      go_ret2
      exact ⟨by rw [HE.out.1, HE.out.2]; rfl, hb⟩
theorem rec_bad {xs : List DTest} {h d : Int} (h1 : testsB xs = false) : recC xs h d = 1 ∧ recF xs h d = [] := by
  have e : recC xs h d = 1 := by unfold recC; rw [h1]; rfl
  exact ⟨e, by unfold recF; rw [e]; rfl⟩
theorem rec_out {xs : List DTest} {h d : Int} (h1 : testsB xs = true) (h2 : (inB h 0 100000 && inB d 0 300) = false) : recC xs h d = 2 ∧ recF xs h d = [] := by
  have e : recC xs h d = 2 := by unfold recC; rw [h1, h2]; rfl
  exact ⟨e, by unfold recF; rw [e]; rfl⟩
theorem rec_ok {xs : List DTest} {h d : Int} (h1 : testsB xs = true) (h2 : (inB h 0 100000 && inB d 0 300) = true) : recC xs h d = 0 ∧ recF xs h d = idxL (recP xs h d) xs.length xs.length := by
  have e : recC xs h d = 0 := by unfold recC; rw [h1, h2]; rfl
  exact ⟨e, by unfold recF; rw [e]; rfl⟩
set_option maxRecDepth 100000 in
set_option maxHeartbeats 4000000 in
theorem RecentTests_any (v : Value) (xs : List DTest) (fp : List Nat) (h d : Int) (w : World) (hx : Sl fTest.cod w v xs fp) :
    Calls Tryz.prog 17 #[v, .int .i64 h, .int .i64 d] w fun e w' => NewR2 fInt.cod w (recF xs h d) (recC xs h d) e w' := by
  obtain ⟨A, cap, rfl, hlen, hcap⟩ := hx.form
  obtain ⟨i0, hi, hz0, hz1, hz2⟩ := info_parts infoIntT
  go_enter Tryz.func17, Tryz.ntmps17
  go_wp2_with fail
  refine (ValidTests_any _ xs fp _ hx).mono ?_
  rintro e w1 ⟨rfl, hb1⟩
  cases hv : testsB xs
  · have HE := Lib.hid (rec_bad (h := h) (d := d) hv)
    go_wp2
    go_ret2
    exact ⟨_, by rw [HE.out.1]; rfl, by rw [HE.out.2]; exact New.nil hb1⟩
  go_wp2_with fail
  refine (hourOkV_any _ _).mono ?_
  rintro e w' ⟨rfl, rfl⟩
  cases h1 : inB h 0 100000
  · have HE := Lib.hid (rec_out (h := h) (d := d) hv (by rw [h1]; rfl))
    go_wp2
    go_ret2
    exact ⟨_, by rw [HE.out.1]; rfl, by rw [HE.out.2]; exact New.nil hb1⟩
  go_wp2_with fail
  refine (nearOk_any _ _).mono ?_
  rintro e w' ⟨rfl, rfl⟩
  cases h2 : inB d 0 300
  · have HE := Lib.hid (rec_out (h := h) (d := d) hv (by rw [h1, h2]; rfl))
    go_wp2
    go_ret2
    exact ⟨_, by rw [HE.out.1]; rfl, by rw [HE.out.2]; exact New.nil hb1⟩
  have HE := Lib.hid (rec_ok (h := h) (d := d) hv (by rw [h1, h2]; rfl))
  obtain ⟨hh0, hh1⟩ := inB_true.1 h1
  obtain ⟨hd0, hd1⟩ := inB_true.1 h2
  have hl16 := testsB_len hv
  clear h1 h2
  go_wp2
  go_loopw [8, 26] (fun v i wr => ∃ k : Nat, k ≤ xs.length ∧ i = .int .i64 k ∧ Own fInt wr w.heap.size 2 v (idxL (recP xs h d) xs.length k) ∧ Below w.heap.size w wr) (fun _ i _ => xs.length - (intOf i).toNat)
  case atStart => exact ⟨0, Nat.zero_le _, rfl, Own.nil fInt _ _ _, hb1⟩
  case round =>
    obtain ⟨k, hk, rfl, ho, hb⟩ := hrel
    by_cases hlt : k < xs.length
    · obtain ⟨b, off, rfl, _, hok, hp⟩ := PTest.elem (hx.below' hb) hlt
      obtain ⟨c0, c1, c2, c3, c4⟩ := id hp
      have hP : recP xs h d k = inB xs[k].hour (h - d) h := by unfold recP; rw [getD_of_lt hlt]
      have hkl := idxL_len (p := recP xs h d) (n := xs.length) (k := k)
      have hsz := hb.size
      have hB2 : Below wr.heap.size wr (wr.alloc (.cells #[.int .i64 xs[k].kind, .int .i64 xs[k].score, .int .i64 xs[k].quality, .int .i64 xs[k].depth, .int .i64 xs[k].hour] 25)) := (Below.refl _ _).alloc (Nat.le_refl _) _
      have hb3 := hb.trans (hB2.mono hb.size)
      have ho2 := ho.below hB2
      have hsz3 := hb3.size
      cases hr : inB xs[k].hour (h - d) h
      · have HN := Lib.hid (idxL_no hlt (hP.trans hr))
        go_wp2_with fail
        refine (withinB_any _ _ _ _).mono ?_
        rintro e w' ⟨rfl, rfl⟩
        rw [hr]
        clear hr hP
        go_wp2
        go_roundw
        case rel => exact ⟨k + 1, by omega, by go_num, by rw [HN.out]; exact ho2, hb3⟩
        case measure => simp [intOf]; omega
      · have HN := Lib.hid (idxL_yes hlt (hP.trans hr))
        go_wp2_with fail
        refine (withinB_any _ _ _ _).mono ?_
        rintro e w' ⟨rfl, rfl⟩
        rw [hr]
        clear hr hP
        have ho3 : (wr.alloc (.cells #[.int .i64 xs[k].kind, .int .i64 xs[k].score, .int .i64 xs[k].quality, .int .i64 xs[k].depth, .int .i64 xs[k].hour] 25)).ownsRow w.heap.size 2 1 u8 (idxL (recP xs h d) xs.length k).length ((idxL (recP xs h d) xs.length k).flatMap fInt.enc) := ho2
        clear ho ho2 hp c0 c1 c2 c3 c4
        generalize hRL : idxL (recP xs h d) xs.length k = RL at *
        go_wp2_with (at_builtin; refine wpList_append_oneA (wr.heap.size + 1) (by simp) rfl _ _ 37 rfl w.heap.size 2 i0 (.int .i64 0) 1 8 Tryz.underlying37 hi hz0 hz1 hz2 rfl (by decide) u8 RL.length _ rfl ho3 [.int .i64 k] rfl (by intro u hu; rw [List.mem_singleton] at hu; subst hu; rfl) rfl (by omega) (by decide) hsz3 ?_)
        intro v' u hown hbu _ _
        have hoD : Own fInt u w.heap.size 2 v' (RL ++ [(k : Int)]) := Own.push _ (by omega) hown
        clear hown
        go_wp2
        go_roundw
        case rel => exact ⟨k + 1, by omega, by go_num, by rw [HN.out]; exact hoD, hb3.trans hbu⟩
        case measure => simp [intOf]; omega
    · obtain rfl : k = xs.length := by omega
      have hn := ho.new hb (idxL_ok (by omega))
      clear ho
      go_wp2
      go_ret2
      exact ⟨_, by rw [HE.out.1]; rfl, by rw [HE.out.2]; exact hn⟩

end Go.Proofs.YtfgmikgghpflbaaGreatDoor

namespace Go.Proofs.YtfgmikgghpflbaaGreatDoor
open Go.RowKit
set_option linter.unusedVariables false

/-- The source at block g: no more than n bytes have been drawn. -/
def SrcD (n : Nat) (g : Nat) (w : World) : Prop := ∃ (v : Value) (xs : List UInt8) (fp : List Nat) (k : Nat) (seed : Int), w.cell? ⟨g, 0, none⟩ = some v ∧ w.cell? ⟨g, 1, none⟩ = some (.int .i64 k) ∧ w.cell? ⟨g, 2, none⟩ = some (.int .u64 seed) ∧
  w.frozen? ⟨g, 1, none⟩ = false ∧ w.frozen? ⟨g, 2, none⟩ = false ∧ k ≤ n ∧ Sl fByte.cod w v xs fp ∧ (∀ b ∈ fp, b < g)
theorem Only.cell {fp : List Nat} {w w' : World} (h : Only fp w w') {p : Addr} (hp : p.block < w.heap.size) (hn : p.block ∉ fp) : w'.cell? p = w.cell? p := World.cell?_of_block (w := w) (h.block p.block hp hn)
theorem Only.frozen {fp : List Nat} {w w' : World} (h : Only fp w w') {p : Addr} (hp : p.block < w.heap.size) (hn : p.block ∉ fp) : w'.frozen? p = w.frozen? p := World.frozen?_of_block (w := w) (h.block p.block hp hn)
theorem Only.drewN {fp : List Nat} {w w' : World} (h : Only fp w w') (n : Nat) : Only fp w (w'.drewN n) := h.trans (.of_below (below_drewN (Below.refl _ _) n))
theorem SrcD.mono {n m g : Nat} {w : World} (h : SrcD n g w) (hm : n ≤ m) : SrcD m g w := by
  obtain ⟨v, xs, fp, k, seed, h0, h1, h2, h3, h4, h5, h6, h7⟩ := h
  exact ⟨v, xs, fp, k, seed, h0, h1, h2, h3, h4, by omega, h6, h7⟩
theorem SrcD.lt {n g : Nat} {w : World} (h : SrcD n g w) : g < w.heap.size := by
  obtain ⟨v, xs, fp, k, seed, h0, _⟩ := h
  exact block_lt_of_cell h0
theorem SrcD.below {n g : Nat} {w w' : World} (h : SrcD n g w) (hb : Below w.heap.size w w') : SrcD n g w' := by
  have hg := h.lt
  obtain ⟨v, xs, fp, k, seed, h0, h1, h2, h3, h4, h5, h6, h7⟩ := h
  exact ⟨v, xs, fp, k, seed, (hb.cell (p := ⟨g, 0, none⟩) hg).trans h0, (hb.cell (p := ⟨g, 1, none⟩) hg).trans h1, (hb.cell (p := ⟨g, 2, none⟩) hg).trans h2, (hb.frozen (p := ⟨g, 1, none⟩) hg).trans h3, (hb.frozen (p := ⟨g, 2, none⟩) hg).trans h4, h5, h6.below' hb, h7⟩
theorem SrcD.belowB {n g B : Nat} {w w' : World} (h : SrcD n g w) (hb : Below B w w') (hB : g < B) : SrcD n g w' := by
  obtain ⟨v, xs, fp, k, seed, h0, h1, h2, h3, h4, h5, h6, h7⟩ := h
  exact ⟨v, xs, fp, k, seed, (hb.cell (p := ⟨g, 0, none⟩) hB).trans h0, (hb.cell (p := ⟨g, 1, none⟩) hB).trans h1, (hb.cell (p := ⟨g, 2, none⟩) hB).trans h2, (hb.frozen (p := ⟨g, 1, none⟩) hB).trans h3, (hb.frozen (p := ⟨g, 2, none⟩) hB).trans h4, h5, h6.below hb (fun b hm => by have := h7 b hm; omega), h7⟩
theorem Only.then {fp : List Nat} {a b c : World} (h : Only fp a b) (k : Below a.heap.size b c) : Only fp a c :=
  ⟨k.os.trans h.os, k.tape.trans h.tape, k.output.trans h.output, Nat.le_trans h.size k.size, fun i hi hn => (k.block i hi).trans (h.block i hi hn)⟩
theorem Only.put {fp : List Nat} {a b : World} (h : Only fp a b) {p : Addr} (hp : a.heap.size ≤ p.block) (v : Value) : Only fp a (b.setCell p v) :=
  h.then ((Below.refl _ _).setCell hp v)
theorem Only.new {fp : List Nat} {a b : World} (h : Only fp a b) (o : Obj) : Only fp a (b.alloc o) := h.then ((Below.refl _ _).alloc h.size o)
theorem Only.later {fp : List Nat} {a b c : World} (h : Below a.heap.size a b) (k : Only fp b c) : Only fp a c :=
  (Only.of_below h).trans k
theorem Only.lift {g : Nat} {a b c : World} (h : Only [g] a b) (k : Only [g] b c) : Only [g] a c := h.trans k
theorem Own.only {α : Type} {E : Flat α} {w w' : World} {base : Nat} {e : TypeId} {v : Value} {L : List α} {fp : List Nat} (h : Own E w base e v L) (hb : Only fp w w') (hn : ∀ g ∈ fp, g < base) : Own E w' base e v L := by
  obtain ⟨h1, h2⟩ := h
  refine ⟨h1, ?_⟩
  rcases h2 with h2 | ⟨g, cap, cur, hv, hg, hh, r⟩
  · exact .inl h2
  · have hgl : g < w.heap.size := by
      rcases Nat.lt_or_ge g w.heap.size with h | h
      · exact h
      · rw [Array.getElem?_eq_none h] at hh; cases hh
    exact .inr ⟨g, cap, cur, hv, hg, by rw [hb.block g hgl (fun hm => by have := hn g hm; omega)]; exact hh, r⟩
theorem w64_inD (n : Int) (h : -9223372036854775808 ≤ n ∧ n ≤ 9223372036854775807) : wrap64 n = n := by unfold wrap64; omega
theorem and255 (x : Int) : 0 ≤ bits .and .u64 x 255 ∧ bits .and .u64 x 255 ≤ 255 := by
  have h : bits .and .u64 x 255 = IntKind.u64.wrap ((BitVec.ofInt 64 x &&& BitVec.ofInt 64 255).toNat : Int) := rfl
  rw [h, BitVec.toNat_and, show (BitVec.ofInt 64 255).toNat = 255 from by decide]
  have h1 : (BitVec.ofInt 64 x).toNat &&& 255 ≤ 255 := Nat.and_le_right
  generalize (BitVec.ofInt 64 x).toNat &&& 255 = m at *
  simp [IntKind.wrap, IntKind.bits, IntKind.signed]
  omega
def SrcAt (v : Value) (xs : List UInt8) (fp : List Nat) (k : Nat) (seed : Int) (n g : Nat) (w : World) : Prop := w.cell? ⟨g, 0, none⟩ = some v ∧ w.cell? ⟨g, 1, none⟩ = some (.int .i64 k) ∧ w.cell? ⟨g, 2, none⟩ = some (.int .u64 seed) ∧
  w.frozen? ⟨g, 1, none⟩ = false ∧ w.frozen? ⟨g, 2, none⟩ = false ∧ k ≤ n ∧ Sl fByte.cod w v xs fp ∧ (∀ b ∈ fp, b < g)
theorem src_step {v : Value} {xs : List UInt8} {fp : List Nat} {k n g : Nat} {seed : Int} {w : World} (h : SrcAt v xs fp k seed n g w) (i j : Nat) (s2 : Int) :
    SrcD (n + 1) g ((((w.drewN i).setCell ⟨g, 1, none⟩ (.int .i64 ((k : Int) + 1))).setCell ⟨g, 2, none⟩ (.int .u64 s2)).drewN j) := by
  obtain ⟨c0, c1, c2, z1, z2, hk, hsl, hne⟩ := h
  have hO : Only [g] w ((((w.drewN i).setCell ⟨g, 1, none⟩ (.int .i64 ((k : Int) + 1))).setCell ⟨g, 2, none⟩ (.int .u64 s2)).drewN j) := ((((Only.refl [g] w).drewN _).set 1 _).set 2 _).drewN _
  have d0 : (w.drewN i).cell? ⟨g, 0, none⟩ = some v := c0
  have d1 : (w.drewN i).cell? ⟨g, 1, none⟩ = some (.int .i64 k) := c1
  have d2 : (w.drewN i).cell? ⟨g, 2, none⟩ = some (.int .u64 seed) := c2
  have y1 : (w.drewN i).frozen? ⟨g, 1, none⟩ = false := z1
  have y2 : (w.drewN i).frozen? ⟨g, 2, none⟩ = false := z2
  refine ⟨v, xs, fp, k + 1, s2, ?_, ?_, ?_, ?_, ?_, by omega, hsl.only hO (fun b hb => by have := hne b hb; simp; omega), hne⟩
  · show World.cell? (World.setCell _ _ _) _ = _
    rw [World.cell?_setCell_other _ _ _ _ (by simp), World.cell?_setCell_other _ _ _ _ (by simp)]; exact d0
  · show World.cell? (World.setCell _ _ _) _ = _
    rw [World.cell?_setCell_other _ _ _ _ (by simp)]
    exact World.cell?_setCell_same _ _ _ d1
  · show World.cell? (World.setCell _ _ _) _ = _
    exact World.cell?_setCell_same _ _ _ ((World.cell?_setCell_other _ _ _ _ (by simp)).trans d2)
  · show World.frozen? (World.setCell _ _ _) _ = _
    rw [frozen?_setCell, frozen?_setCell]; exact y1
  · show World.frozen? (World.setCell _ _ _) _ = _
    rw [frozen?_setCell, frozen?_setCell]; exact y2
set_option maxRecDepth 100000 in
set_option maxHeartbeats 2000000 in
theorem next_any (n g : Nat) (w : World) (hs : SrcD n g w) (hn : n ≤ 1000000000000) :
    Calls Tryz.prog 186 #[.pointer (some ⟨g, 0, none⟩)] w fun e w' => ∃ r : Int, e = .returned (.int .i64 r) ∧ (0 ≤ r ∧ r ≤ 255) ∧ SrcD (n + 1) g w' ∧ Only [g] w w' := by
  have hg := hs.lt
  obtain ⟨v, xs, fp, k, seed, c0, c1, c2, z1, z2, hk, hsl, hne⟩ := hs
  obtain ⟨A, cap, rfl, hle, hca⟩ := hsl.form
  have hlen : xs.length ≤ 9223372036854775807 := by unfold maxLen at *; omega
  by_cases hat : k < xs.length
  · obtain ⟨b, off, rfl, hbm, _, hc, _⟩ := hsl.cell1 rfl hat rfl
    have hx := xs[k].toNat_lt
    go_enter Tryz.func186, Tryz.ntmps186
    go_wp2
    go_quiet (fail)
    go_wp2
    go_quiet (fail)
    go_wp2
    go_quiet (fail)
    go_wp2
    go_ret
    have hw : wrap64 (xs[k].toNat : Int) = xs[k].toNat := w64_inD _ (by omega)
    refine ⟨_, rfl, by first | (rw [hw]; omega) | omega, src_step ⟨c0, c1, c2, z1, z2, hk, hsl, hne⟩ _ _ _, ?_⟩
    exact ((((Only.refl [g] w).drewN _).set 1 _).set 2 _).drewN _
  · go_enter Tryz.func186, Tryz.ntmps186
    go_wp2
    go_quiet (fail)
    go_wp2
    go_quiet (fail)
    go_wp2
    go_ret
    have hw := and255 (IntKind.u64.wrap (IntKind.u64.wrap (IntKind.u64.wrap (seed * 6364136223846793005)) + 1442695040888963407) / 1099511627776)
    generalize bits BinOp.and IntKind.u64 (IntKind.u64.wrap (IntKind.u64.wrap (IntKind.u64.wrap (seed * 6364136223846793005)) + 1442695040888963407) / 1099511627776) 255 = r at *
    have hw2 : wrap64 r = r := w64_inD _ (by omega)
    refine ⟨_, rfl, by rw [hw2]; exact hw, src_step ⟨c0, c1, c2, z1, z2, hk, hsl, hne⟩ _ _ _, ?_⟩
    exact ((((Only.refl [g] w).drewN _).set 1 _).set 2 _).drewN _
set_option maxRecDepth 100000 in
set_option maxHeartbeats 2000000 in
theorem pick_any (n g : Nat) (m : Int) (w : World) (hs : SrcD n g w) (hn : n ≤ 999999999000) (hm : m ≤ 1000000000) :
    Calls Tryz.prog 100 #[.pointer (some ⟨g, 0, none⟩), .int .i64 m] w fun e w' => ∃ r : Int, e = .returned (.int .i64 r) ∧ (0 ≤ r ∧ (1 ≤ m → r < m) ∧ (m ≤ 1 → r = 0)) ∧ SrcD (n + 2) g w' ∧ Only [g] w w' := by
  by_cases h1 : m ≤ 1
  · go_enter Tryz.func100, Tryz.ntmps100
    go_wp2
    go_ret
    exact ⟨0, rfl, ⟨by omega, fun h => by omega, fun _ => rfl⟩, hs.mono (by omega), Only.refl _ _⟩
  · go_enter Tryz.func100, Tryz.ntmps100
    go_wp2_with fail
    refine (next_any n g _ hs (by omega)).mono ?_
    rintro e w1 ⟨x, rfl, hx, hs1, ho1⟩
    by_cases h2 : 200 < m
    · go_wp2_with fail
      refine (next_any (n + 1) g _ hs1 (by omega)).mono ?_
      rintro e w2 ⟨y, rfl, hy, hs2, ho2⟩
      have e1 : 0 ≤ Int.tmod (x * 256 + y) m := Int.tmod_nonneg _ (by omega)
      have e2 : Int.tmod (x * 256 + y) m < m := Int.tmod_lt_of_pos _ (by omega)
      have e3 : wrap64 (x * 256) = x * 256 := w64_inD _ (by omega)
      have e4 : wrap64 (x * 256 + y) = x * 256 + y := w64_inD _ (by omega)
      have e5 : wrap64 (Int.tmod (x * 256 + y) m) = Int.tmod (x * 256 + y) m := w64_inD _ (by omega)
      go_wp2
      go_ret
      refine ⟨_, rfl, ?_, hs2, ho1.trans ho2⟩
      first | exact ⟨e1, fun _ => e2, fun h => by omega⟩ | exact ⟨Int.emod_nonneg _ (by omega), fun _ => Int.emod_lt_of_pos _ (by omega), fun h => by omega⟩ | (simp only [e3, e4, e5]; exact ⟨e1, fun _ => e2, fun h => by omega⟩) | skip
    · have e1 : 0 ≤ Int.tmod x m := Int.tmod_nonneg _ (by omega)
      have e2 : Int.tmod x m < m := Int.tmod_lt_of_pos _ (by omega)
      have e5 : wrap64 (Int.tmod x m) = Int.tmod x m := w64_inD _ (by omega)
      go_wp2
      go_ret
      refine ⟨_, rfl, ?_, hs1.mono (by omega), ho1⟩
      first | exact ⟨e1, fun _ => e2, fun h => by omega⟩ | exact ⟨Int.emod_nonneg _ (by omega), fun _ => Int.emod_lt_of_pos _ (by omega), fun h => by omega⟩ | (simp only [e5]; exact ⟨e1, fun _ => e2, fun h => by omega⟩) | skip
set_option maxRecDepth 100000 in
set_option maxHeartbeats 2000000 in
theorem one_any (n g : Nat) (m : Int) (w : World) (hs : SrcD n g w) (hn : n ≤ 999999999000) (hm : m ≤ 1000000000) :
    Calls Tryz.prog 102 #[.pointer (some ⟨g, 0, none⟩), .int .i64 m] w fun e w' => ∃ r : Bool, e = .returned (.bool r) ∧ SrcD (n + 2) g w' ∧ Only [g] w w' := by
  go_enter Tryz.func102, Tryz.ntmps102
  go_wp2_with fail
  refine (pick_any n g m _ hs hn hm).mono ?_
  rintro e w1 ⟨x, rfl, hx, hs1, ho1⟩
  go_wp2
  go_ret
  exact ⟨_, rfl, hs1, ho1⟩
set_option maxRecDepth 100000 in
set_option maxHeartbeats 2000000 in
theorem text_any (n g : Nat) (v : Value) (xs : List ByteArray) (fp : List Nat) (w : World) (hs : SrcD n g w) (hn : n ≤ 999999999000) (hx : Sl fStr.cod w v xs fp) (hg : g ∉ fp) (h0 : 0 < xs.length) (h1 : xs.length ≤ 1000) :
    Calls Tryz.prog 110 #[.pointer (some ⟨g, 0, none⟩), v] w fun e w' => ∃ t ∈ xs, e = .returned (.string t) ∧ SrcD (n + 2) g w' ∧ Only [g] w w' := by
  obtain ⟨A, cap, rfl, hle, hca⟩ := hx.form
  go_enter Tryz.func110, Tryz.ntmps110
  go_wp2_with fail
  refine (pick_any n g _ _ hs hn (by omega)).mono ?_
  rintro e w1 ⟨r, rfl, ⟨hr0, hr1, _⟩, hs1, ho1⟩
  have hr2 := hr1 (by omega)
  obtain ⟨k, rfl⟩ : ∃ k : Nat, r = k := ⟨r.toNat, by omega⟩
  have hk : k < xs.length := by omega
  obtain ⟨b, off, rfl, _, _, hc, _⟩ := (hx.only ho1 (fun b hb => by simp; intro e; subst e; exact hg hb)).cell1 rfl hk rfl
  go_wp2
  go_ret
  exact ⟨_, List.getElem_mem hk, rfl, hs1, ho1⟩
set_option maxRecDepth 100000 in
set_option maxHeartbeats 2000000 in
theorem among_any (n g : Nat) (v : Value) (xs : List Int) (fp : List Nat) (w : World) (hs : SrcD n g w) (hn : n ≤ 999999999000) (hx : Sl fInt.cod w v xs fp) (hg : g ∉ fp) (h0 : 0 < xs.length) (h1 : xs.length ≤ 1000) :
    Calls Tryz.prog 96 #[.pointer (some ⟨g, 0, none⟩), v] w fun e w' => ∃ t ∈ xs, e = .returned (.int .i64 t) ∧ SrcD (n + 2) g w' ∧ Only [g] w w' := by
  obtain ⟨A, cap, rfl, hle, hca⟩ := hx.form
  go_enter Tryz.func96, Tryz.ntmps96
  go_wp2_with fail
  refine (pick_any n g _ _ hs hn (by omega)).mono ?_
  rintro e w1 ⟨r, rfl, ⟨hr0, hr1, _⟩, hs1, ho1⟩
  have hr2 := hr1 (by omega)
  obtain ⟨k, rfl⟩ : ∃ k : Nat, r = k := ⟨r.toNat, by omega⟩
  have hk : k < xs.length := by omega
  obtain ⟨b, off, rfl, _, _, hc, _⟩ := (hx.only ho1 (fun b hb => by simp; intro e; subst e; exact hg hb)).cell1 rfl hk rfl
  go_wp2
  go_ret
  exact ⟨_, List.getElem_mem hk, rfl, hs1, ho1⟩
set_option maxRecDepth 100000 in
set_option maxHeartbeats 2000000 in
theorem l00From_any (v : Value) (xs : List UInt8) (fp : List Nat) (w : World) (hx : Sl fByte.cod w v xs fp) :
    Calls Tryz.prog 76 #[v] w fun e w' => e = .returned (.pointer (some ⟨w.heap.size, 0, none⟩)) ∧ SrcD 0 w.heap.size w' ∧ Below w.heap.size w w' := by
  obtain ⟨A, cap, rfl, hlen, hcap⟩ := hx.form
  have hB : ∀ T, Below w.heap.size w (w.alloc (.cells #[.slice A xs.length cap, .int .i64 0, .int .u64 0] T)) := fun T => (Below.refl _ _).alloc (Nat.le_refl _) _
  have hlt := hx.lt
  go_enter Tryz.func76, Tryz.ntmps76
  go_wp2
  go_ret
  exact ⟨rfl, ⟨_, xs, fp, 0, 0, by simp, by simp, by simp, World.frozen?_alloc_at _ _ _ _ rfl, World.frozen?_alloc_at _ _ _ _ rfl, Nat.le_refl _, hx.below' (hB _), hlt⟩, hB _⟩
theorem slLit (V : World) (T : TypeId) (xs : List ByteArray) (cs : Array Value) (hcs : cs = (xs.flatMap fStr.enc).toArray) (hok : ∀ x ∈ xs, x.size ≤ 1000) (hne : 0 < xs.length) (hm : xs.length ≤ 1000) (k m : Nat) (hk : k = V.heap.size) (hn : m = xs.length) :
    Sl fStr.cod (V.alloc (.cells cs T)) (.slice (some ⟨k, 0, none⟩) m m) xs [k] := by
  subst hk hn
  exact Sl.lit2 (E := fStr) V xs T cs hcs (fun x hx => by have := hok x hx; show _ ≤ _; omega) hne (by omega)
theorem slLitI (V : World) (T : TypeId) (xs : List Int) (cs : Array Value) (hcs : cs = (xs.flatMap fInt.enc).toArray) (hok : ∀ x ∈ xs, -9223372036854775808 ≤ x ∧ x ≤ 9223372036854775807) (hne : 0 < xs.length) (hm : xs.length ≤ 1000) (k m : Nat) (hk : k = V.heap.size) (hn : m = xs.length) :
    Sl fInt.cod (V.alloc (.cells cs T)) (.slice (some ⟨k, 0, none⟩) m m) xs [k] := by
  subst hk hn
  exact Sl.lit2 (E := fInt) V xs T cs hcs hok hne (by omega)

end Go.Proofs.YtfgmikgghpflbaaGreatDoor
