/- Gates read. Written by wip/gen/rg.py. -/
import Derived.Test.YtaaholabodchaaaGreatDoorRl
import Derived.Test.YtaaholabodchaaaGreatDoorLawS
namespace Go.Proofs.YtaaholabodchaaaGreatDoor
open Go.RowKit
set_option linter.unusedVariables false

def one3 (b : ByteArray) : Bool := match rlF b with | some [_, _, _] => true | _ => false
def num3 (b : ByteArray) : List Int := match rlF b with | some [p, q, r] => [p, q, r] | _ => [0, 0, 0]
theorem one3_yes {b : ByteArray} (h : one3 b = true) : rlF b = some (num3 b) ∧ (num3 b).length = 3 := by
  unfold one3 num3 at *
  split at h
  · rename_i hr; rw [hr]; exact ⟨rfl, rfl⟩
  · cases h
theorem one3_no {b : ByteArray} (h : one3 b = false) : num3 b = [0, 0, 0] := by
  unfold one3 num3 at *
  split at h
  · cases h
  · rfl
theorem one3_of {b : ByteArray} {p q r : Int} (h : rlF b = some [p, q, r]) : one3 b = true ∧ num3 b = [p, q, r] := by unfold one3 num3; rw [h]; exact ⟨rfl, rfl⟩
theorem num3_len (b : ByteArray) : (num3 b).length = 3 := by unfold num3; split <;> rfl
theorem num3_abc (b : ByteArray) : ∃ p q r, num3 b = [p, q, r] := by
  have h := num3_len b
  match hn : num3 b, h with
  | [p, q, r], _ => exact ⟨p, q, r, rfl⟩
theorem one3_len {b : ByteArray} {xs : List Int} (h : rlF b = some xs) : one3 b = decide (xs.length = 3) := by
  unfold one3
  rw [h]
  match xs with
  | [] => rfl
  | [_] => rfl
  | [_, _] => rfl
  | [_, _, _] => rfl
  | _ :: _ :: _ :: _ :: l => simp
theorem one3_none {b : ByteArray} (h : rlF b = none) : one3 b = false := by unfold one3; rw [h]
def e0 : ByteArray := ⟨#[]⟩
def openS : ByteArray := ⟨#[111, 112, 101, 110]⟩
def shutS : ByteArray := ⟨#[115, 104, 117, 116]⟩
def xgX (X : List ByteArray) : DGate := ⟨X.getD 0 e0, (num3 (X.getD 1 e0)).getD 0 0, (num3 (X.getD 1 e0)).getD 1 0, (num3 (X.getD 1 e0)).getD 2 0, decide (X.length = 4), if X.length = 4 then numV (X.getD 3 e0) else 0⟩
def twoX (X : List ByteArray) : Bool := !decide (X.length = 4) || numOk (X.getD 3 e0)
def gtT (x : DGate) : ByteArray := if gateB x then gtS x else ⟨#[]⟩
def rgF (s : ByteArray) : Option DGate := if decide (3 ≤ (splS 32 s).length) && one3 ((splS 32 s).getD 1 e0) && twoX (splS 32 s) && decide (gtT (xgX (splS 32 s)) = s) then some (xgX (splS 32 s)) else none
theorem name_noblank {x : ByteArray} (h : nameB x = true) : ∀ b ∈ x.data.toList, b ≠ 32 := by
  intro b hb e
  subst e
  unfold nameB at h
  simp only [Bool.and_eq_true] at h
  have ha : allNm x.data.toList = true := by first | exact h.2 | exact h.1.2 | exact h.1.1.2 | exact h.1.1.1
  unfold allNm at ha
  have := List.all_eq_true.1 ha 32 hb
  revert this; decide
theorem joinX_bytes : ∀ (L : List (List UInt8)), (∀ x ∈ L, ∀ b ∈ x, b ≠ 32) → ∀ b ∈ joinX L, b ≠ 32
  | [], _, b, hb => by simp [joinX] at hb
  | x :: r, h, b, hb => by
    unfold joinX at hb
    rw [List.mem_append, List.mem_flatMap] at hb
    rcases hb with hb | ⟨y, hy, hb⟩
    · exact h x (by simp) b hb
    · rcases List.mem_cons.1 hb with rfl | hb
      · decide
      · exact h y (by simp [hy]) b hb
theorem listS_noblank (xs : List Int) : ∀ b ∈ (listS xs).data.toList, b ≠ 32 := by
  by_cases h : xs = []
  · subst h; intro b hb; have : b = 45 := by simpa [listS] using hb
    subst this; decide
  · rw [listS_data h]
    exact joinX_bytes _ (fun y hy b hb => by obtain ⟨v, _, rfl⟩ := List.mem_map.1 hy; exact (itoa_bytes v b hb).2)
theorem decS_data (v : Int) : (decS v).data.toList = Lib.itoa v := by unfold decS; simp
theorem gtN_xg {X : List ByteArray} {p q r : Int} (h : num3 (X.getD 1 e0) = [p, q, r]) : gtN (xgX X) = num3 (X.getD 1 e0) := by unfold gtN xgX; rw [h]; rfl
/-- The words of a gate's text. -/
theorem spl_open {a b : ByteArray} (ha : ∀ y ∈ a.data.toList, y ≠ 32) (hb : ∀ y ∈ b.data.toList, y ≠ 32) {s : ByteArray} (h : a ++ ⟨#[32]⟩ ++ b ++ ⟨#[32, 111, 112, 101, 110]⟩ = s) : splS 32 s = [a, b, openS] := by
  refine (splS_of ?_).symm
  have hd : s.data.toList = a.data.toList ++ 32 :: (b.data.toList ++ 32 :: [111, 112, 101, 110]) := by
    rw [← h, Go.Joins.data_append, Go.Joins.data_append, Go.Joins.data_append]; simp
  rw [hd, splL_app 32 _ _ ha, splL_app 32 _ _ hb]; rfl
theorem spl_shut {a b d : ByteArray} (ha : ∀ y ∈ a.data.toList, y ≠ 32) (hb : ∀ y ∈ b.data.toList, y ≠ 32) (hd0 : ∀ y ∈ d.data.toList, y ≠ 32) {s : ByteArray} (h : a ++ ⟨#[32]⟩ ++ b ++ ⟨#[32, 115, 104, 117, 116, 32]⟩ ++ d = s) : splS 32 s = [a, b, shutS, d] := by
  refine (splS_of ?_).symm
  have hd : s.data.toList = a.data.toList ++ 32 :: (b.data.toList ++ 32 :: ([115, 104, 117, 116] ++ 32 :: d.data.toList)) := by
    rw [← h, Go.Joins.data_append, Go.Joins.data_append, Go.Joins.data_append, Go.Joins.data_append]; simp
  rw [hd, splL_app 32 _ _ ha, splL_app 32 _ _ hb, splL_app 32 [115, 104, 117, 116] _ (by decide), splL_none hd0]; rfl
theorem words3 {s a b c : ByteArray} (h : splS 32 s = [a, b, c]) : a ++ ⟨#[32]⟩ ++ b ++ ⟨#[32]⟩ ++ c = s := by
  have hd := splS_data 32 s
  rw [h] at hd
  have hj := splL_join 32 s.data.toList [a.data.toList, b.data.toList] c.data.toList hd.symm
  refine data_inj ?_
  rw [Go.Joins.data_append, Go.Joins.data_append, Go.Joins.data_append, Go.Joins.data_append, ← hj]; simp
theorem words4 {s a b c d : ByteArray} (h : splS 32 s = [a, b, c, d]) : a ++ ⟨#[32]⟩ ++ b ++ ⟨#[32]⟩ ++ c ++ ⟨#[32]⟩ ++ d = s := by
  have hd := splS_data 32 s
  rw [h] at hd
  have hj := splL_join 32 s.data.toList [a.data.toList, b.data.toList, c.data.toList] d.data.toList hd.symm
  refine data_inj ?_
  rw [Go.Joins.data_append, Go.Joins.data_append, Go.Joins.data_append, Go.Joins.data_append, Go.Joins.data_append, Go.Joins.data_append, ← hj]; simp
theorem app_open (t : ByteArray) : t ++ ⟨#[32]⟩ ++ openS = t ++ ⟨#[32, 111, 112, 101, 110]⟩ := by
  refine data_inj ?_
  rw [Go.Joins.data_append, Go.Joins.data_append, Go.Joins.data_append]; simp [openS]
theorem app_shut (t d : ByteArray) : t ++ ⟨#[32]⟩ ++ shutS ++ ⟨#[32]⟩ ++ d = t ++ ⟨#[32, 115, 104, 117, 116, 32]⟩ ++ d := by
  refine data_inj ?_
  rw [Go.Joins.data_append, Go.Joins.data_append, Go.Joins.data_append, Go.Joins.data_append, Go.Joins.data_append, Go.Joins.data_append]; simp [shutS]
def specB (X : List ByteArray) : Bool := decide (3 ≤ X.length) && decide (X.length ≤ 4) && one3 (X.getD 1 e0) && (if X.length = 4 then numOk (X.getD 3 e0) && decide (X.getD 2 e0 = shutS) else decide (X.getD 2 e0 = openS)) && gateB (xgX X)
theorem gateB_name {x : DGate} (h : gateB x = true) : nameB x.id = true := by
  unfold gateB at h
  simp only [Bool.and_eq_true] at h
  exact h.1.1.1.1.1
theorem rg_spec (s : ByteArray) : rgF s = if specB (splS 32 s) then some (xgX (splS 32 s)) else none := by
  have key : (decide (3 ≤ (splS 32 s).length) && one3 ((splS 32 s).getD 1 e0) && twoX (splS 32 s) && decide (gtT (xgX (splS 32 s)) = s)) = specB (splS 32 s) := by
    rw [Bool.eq_iff_iff]
    constructor
    · intro h
      simp only [Bool.and_eq_true, decide_eq_true_eq] at h
      obtain ⟨⟨⟨h3, h1⟩, h2⟩, ht⟩ := h
      have hg : gateB (xgX (splS 32 s)) = true := by
        cases hg : gateB (xgX (splS 32 s)) with
        | true => rfl
        | false =>
          unfold gtT at ht
          rw [hg] at ht
          have : s = ⟨#[]⟩ := ht.symm
          subst this
          exact absurd h3 (by decide)
      unfold gtT at ht
      rw [if_pos hg] at ht
      have hid := name_noblank (gateB_name hg)
      have hls := listS_noblank (gtN (xgX (splS 32 s)))
      unfold gtS at ht
      by_cases hsh : (xgX (splS 32 s)).shuts = true
      · rw [if_pos hsh] at ht
        have hw := spl_shut hid hls (fun y hy => by rw [decS_data] at hy; exact (itoa_bytes _ y hy).2) ht
        have h4 : (splS 32 s).length = 4 := by unfold xgX at hsh; simpa using hsh
        have h22 : (splS 32 s).getD 2 e0 = shutS := by rw [hw]; rfl
        unfold twoX at h2
        rw [decide_eq_true h4] at h2
        unfold specB
        rw [if_pos h4, h1, hg, h22, decide_eq_true h3, decide_eq_true (show (splS 32 s).length ≤ 4 by omega)]
        have h2' : numOk ((splS 32 s).getD 3 e0) = true := by simpa using h2
        rw [h2']; rfl
      · rw [if_neg hsh] at ht
        have hw := spl_open hid hls ht
        have h4 : (splS 32 s).length = 3 := by rw [hw]; rfl
        have h22 : (splS 32 s).getD 2 e0 = openS := by rw [hw]; rfl
        unfold specB
        rw [if_neg (by omega), h1, hg, h22, decide_eq_true h3, decide_eq_true (show (splS 32 s).length ≤ 4 by omega)]
        rfl
    · intro h
      unfold specB at h
      simp only [Bool.and_eq_true, decide_eq_true_eq] at h
      obtain ⟨⟨⟨⟨h3, h4⟩, h1⟩, h2⟩, hg⟩ := h
      obtain ⟨hr, hrl⟩ := one3_yes h1
      obtain ⟨p, q, r, habc⟩ := num3_abc ((splS 32 s).getD 1 e0)
      have hlt := (rlF_text hr).2
      have hgn := gtN_xg habc
      simp only [Bool.and_eq_true, decide_eq_true_eq]
      refine ⟨⟨⟨h3, h1⟩, ?_⟩, ?_⟩
      · unfold twoX
        by_cases hl : (splS 32 s).length = 4
        · rw [if_pos hl] at h2
          simp only [Bool.and_eq_true] at h2
          rw [h2.1]; simp
        · rw [decide_eq_false hl]; rfl
      · unfold gtT
        rw [if_pos hg]
        unfold gtS
        rw [hgn, hlt]
        by_cases hl : (splS 32 s).length = 4
        · rw [if_pos hl] at h2
          simp only [Bool.and_eq_true, decide_eq_true_eq] at h2
          rw [if_pos (by unfold xgX; simpa using hl)]
          obtain ⟨a, b, c, d, hX⟩ : ∃ a b c d, splS 32 s = [a, b, c, d] := by
            match hm : splS 32 s, hl with
            | [a, b, c, d], _ => exact ⟨a, b, c, d, rfl⟩
          have hw := words4 hX
          have hcl : (xgX (splS 32 s)).calm = numV d := by unfold xgX; rw [hX]; rfl
          have hidd : (xgX (splS 32 s)).id = a := by unfold xgX; rw [hX]; rfl
          rw [hX] at h2
          have hc : c = shutS := h2.2
          have hdd : decS (numV d) = d := by
            refine data_inj ?_
            rw [decS_data]; exact (num_parts h2.1).1
          rw [hcl, hidd, hdd, ← app_shut, ← hc]
          rw [hX]
          exact hw
        · rw [if_neg hl] at h2
          simp only [decide_eq_true_eq] at h2
          rw [if_neg (by unfold xgX; simpa using hl)]
          obtain ⟨a, b, c, hX⟩ : ∃ a b c, splS 32 s = [a, b, c] := by
            have h33 : (splS 32 s).length = 3 := by omega
            match hm : splS 32 s, h33 with
            | [a, b, c], _ => exact ⟨a, b, c, rfl⟩
          have hw := words3 hX
          have hidd : (xgX (splS 32 s)).id = a := by unfold xgX; rw [hX]; rfl
          rw [hX] at h2
          have hc : c = openS := h2
          rw [hidd, ← app_open, ← hc]
          rw [hX]
          exact hw
  unfold rgF
  rw [key]
def gAgg (x : DGate) : Value := .agg #[.string x.id, .int .i64 x.shut, .int .i64 x.open_, .int .i64 x.hold, .bool x.shuts, .int .i64 x.calm]
def gt00 : DGate := ⟨⟨#[]⟩, 0, 0, 0, false, 0⟩
def GRet (s : ByteArray) (e : Ending) : Prop := e = .returned (.tuple #[gAgg ((rgF s).getD gt00), .bool (rgF s).isSome])
theorem GRet.no {s : ByteArray} (h : rgF s = none) : GRet s (.returned (.tuple #[gAgg gt00, .bool false])) := by unfold GRet; rw [h]; rfl
theorem GRet.yes {s : ByteArray} {x : DGate} (h : rgF s = some x) : GRet s (.returned (.tuple #[gAgg x, .bool true])) := by unfold GRet; rw [h]; rfl
structure Box6 (w : World) (g : Nat) : Prop where
  d0 : w.cell? ⟨g, 0, none⟩ = some (.string ⟨#[]⟩)
  d1 : w.cell? ⟨g, 1, none⟩ = some (.int .i64 0)
  d2 : w.cell? ⟨g, 2, none⟩ = some (.int .i64 0)
  d3 : w.cell? ⟨g, 3, none⟩ = some (.int .i64 0)
  d4 : w.cell? ⟨g, 4, none⟩ = some (.bool false)
  d5 : w.cell? ⟨g, 5, none⟩ = some (.int .i64 0)
  z0 : w.frozen? ⟨g, 0, none⟩ = false
  z1 : w.frozen? ⟨g, 1, none⟩ = false
  z2 : w.frozen? ⟨g, 2, none⟩ = false
  z3 : w.frozen? ⟨g, 3, none⟩ = false
  z4 : w.frozen? ⟨g, 4, none⟩ = false
  z5 : w.frozen? ⟨g, 5, none⟩ = false
theorem Box6.new (w : World) (T : TypeId) : Box6 (w.alloc (.cells #[.string ⟨#[]⟩, .int .i64 0, .int .i64 0, .int .i64 0, .bool false, .int .i64 0] T)) w.heap.size := by
  constructor <;> simp
theorem Box6.below {w w' : World} {g B : Nat} (h : Box6 w g) (hb : Below B w w') (hg : g < B) : Box6 w' g :=
  ⟨(hb.cell (p := ⟨g, _, none⟩) hg).trans h.d0, (hb.cell (p := ⟨g, _, none⟩) hg).trans h.d1, (hb.cell (p := ⟨g, _, none⟩) hg).trans h.d2, (hb.cell (p := ⟨g, _, none⟩) hg).trans h.d3, (hb.cell (p := ⟨g, _, none⟩) hg).trans h.d4, (hb.cell (p := ⟨g, _, none⟩) hg).trans h.d5,
   (hb.frozen (p := ⟨g, _, none⟩) hg).trans h.z0, (hb.frozen (p := ⟨g, _, none⟩) hg).trans h.z1, (hb.frozen (p := ⟨g, _, none⟩) hg).trans h.z2, (hb.frozen (p := ⟨g, _, none⟩) hg).trans h.z3, (hb.frozen (p := ⟨g, _, none⟩) hg).trans h.z4, (hb.frozen (p := ⟨g, _, none⟩) hg).trans h.z5⟩
theorem hit_cell {w : World} {p : Addr} {x : Value} (h : (w.cell? p).isSome = true) : (w.setCell p x).cell? p = some x := by
  obtain ⟨v, hv⟩ := Option.isSome_iff_exists.1 h
  exact World.cell?_setCell_same w p x hv
theorem PGate.closed {V : World} {g : Nat} {x : DGate} (h : PGate V g 0 x) (c : Int) : PGate ((V.setCell ⟨g, 4, none⟩ (.bool true)).setCell ⟨g, 5, none⟩ (.int .i64 c)) g 0 ⟨x.id, x.shut, x.open_, x.hold, true, c⟩ := by
  have n4 : ∀ j, j ≠ 4 → (⟨g, 4, none⟩ : Addr) ≠ ⟨g, j, none⟩ := fun j hj e => by injection e with _ e _; exact hj e.symm
  have n5 : ∀ j, j ≠ 5 → (⟨g, 5, none⟩ : Addr) ≠ ⟨g, j, none⟩ := fun j hj e => by injection e with _ e _; exact hj e.symm
  have k : ∀ j, j ≠ 4 → j ≠ 5 → ((V.setCell ⟨g, 4, none⟩ (.bool true)).setCell ⟨g, 5, none⟩ (.int .i64 c)).cell? ⟨g, j, none⟩ = V.cell? ⟨g, j, none⟩ := fun j h4 h5 => by
    rw [World.cell?_setCell_other _ _ _ _ (n5 j h5), World.cell?_setCell_other _ _ _ _ (n4 j h4)]
  refine ⟨(k _ (by decide) (by decide)).trans h.c0, (k _ (by decide) (by decide)).trans h.c1, (k _ (by decide) (by decide)).trans h.c2, (k _ (by decide) (by decide)).trans h.c3, ?_, ?_⟩
  · show (World.setCell _ _ _).cell? ⟨g, 4, none⟩ = _
    rw [World.cell?_setCell_other _ _ _ _ (n5 4 (by decide))]
    exact hit_cell (by have := h.c4; rw [show (0 + 4 : Nat) = 4 from rfl] at this; rw [this]; rfl)
  · show (World.setCell _ _ _).cell? ⟨g, 5, none⟩ = _
    refine hit_cell ?_
    rw [World.cell?_setCell_other _ _ _ _ (n4 5 (by decide))]
    have := h.c5; rw [show (0 + 5 : Nat) = 5 from rfl] at this; rw [this]; rfl
theorem PGate.set4 {V : World} {g : Nat} {x : DGate} (h : PGate V g 0 x) (c : Bool) : PGate (V.setCell ⟨g, 4, none⟩ (.bool c)) g 0 ⟨x.id, x.shut, x.open_, x.hold, c, x.calm⟩ := by
  have n4 : ∀ j, j ≠ 4 → (⟨g, 4, none⟩ : Addr) ≠ ⟨g, j, none⟩ := fun j hj e => by injection e with _ e _; exact hj e.symm
  have k : ∀ j, j ≠ 4 → (V.setCell ⟨g, 4, none⟩ (.bool c)).cell? ⟨g, j, none⟩ = V.cell? ⟨g, j, none⟩ := fun j h4 => World.cell?_setCell_other _ _ _ _ (n4 j h4)
  exact ⟨(k _ (by decide)).trans h.c0, (k _ (by decide)).trans h.c1, (k _ (by decide)).trans h.c2, (k _ (by decide)).trans h.c3, hit_cell (by have := h.c4; rw [show (0 + 4 : Nat) = 4 from rfl] at this; rw [this]; rfl), (k _ (by decide)).trans h.c5⟩
theorem PGate.set5 {V : World} {g : Nat} {x : DGate} (h : PGate V g 0 x) (c : Int) : PGate (V.setCell ⟨g, 5, none⟩ (.int .i64 c)) g 0 ⟨x.id, x.shut, x.open_, x.hold, x.shuts, c⟩ := by
  have n5 : ∀ j, j ≠ 5 → (⟨g, 5, none⟩ : Addr) ≠ ⟨g, j, none⟩ := fun j hj e => by injection e with _ e _; exact hj e.symm
  have k : ∀ j, j ≠ 5 → (V.setCell ⟨g, 5, none⟩ (.int .i64 c)).cell? ⟨g, j, none⟩ = V.cell? ⟨g, j, none⟩ := fun j h4 => World.cell?_setCell_other _ _ _ _ (n5 j h4)
  exact ⟨(k _ (by decide)).trans h.c0, (k _ (by decide)).trans h.c1, (k _ (by decide)).trans h.c2, (k _ (by decide)).trans h.c3, (k _ (by decide)).trans h.c4, hit_cell (by have := h.c5; rw [show (0 + 5 : Nat) = 5 from rfl] at this; rw [this]; rfl)⟩
theorem Box6.far {V : World} {b g j : Nat} {v : Value} (h : Box6 V b) (hne : b ≠ g) : Box6 (V.setCell ⟨g, j, none⟩ v) b := by
  have k : ∀ i, (V.setCell ⟨g, j, none⟩ v).cell? ⟨b, i, none⟩ = V.cell? ⟨b, i, none⟩ := fun i => World.cell?_setCell_far V ⟨g, j, none⟩ ⟨b, i, none⟩ v (fun e => hne e.symm)
  have f : ∀ i, (V.setCell ⟨g, j, none⟩ v).frozen? ⟨b, i, none⟩ = V.frozen? ⟨b, i, none⟩ := fun i => frozen?_setCell _ _ _ _
  exact ⟨(k _).trans h.d0, (k _).trans h.d1, (k _).trans h.d2, (k _).trans h.d3, (k _).trans h.d4, (k _).trans h.d5, (f _).trans h.z0, (f _).trans h.z1, (f _).trans h.z2, (f _).trans h.z3, (f _).trans h.z4, (f _).trans h.z5⟩
theorem num3_ok {b : ByteArray} : ∀ x ∈ num3 b, fInt.ok x := by
  cases h : one3 b
  · rw [one3_no h]; intro x hx; simp at hx; subst hx; show _ ∧ _; simp
  · have h1 := (rlF_text (one3_yes h).1).1
    unfold fitsL at h1
    simp only [Bool.and_eq_true] at h1
    intro x hx
    have := List.all_eq_true.1 h1.2 x hx
    unfold inB at this
    simp only [Bool.and_eq_true, decide_eq_true_eq] at this
    show _ ∧ _; omega
theorem made3 (v : Value) : madeCells #[v] 3 = #[v, v, v] := by
  unfold madeCells
  rw [show Array.range 3 = #[0, 1, 2] from by decide]
  simp [Nat.mod_one]
set_option maxRecDepth 100000 in
set_option maxHeartbeats 2000000 in
theorem readNumbers_any (s : ByteArray) (m : Int) (w : World) (hs : s.size ≤ 1048576) (hm9 : w.cell? ⟨0, 0, none⟩ = some (.int .i64 m)) (ht : RdTabs w) :
    Calls Tryz.prog 58 #[.string s, .int .i64 3] w fun e w' => ∃ v, e = .returned (.tuple #[v, .bool (one3 s)]) ∧ New fInt.cod w v (num3 s) w' := by
  obtain ⟨i0, hi, hz0, hz1, hz2⟩ := info_parts infoIntR
  have hmk : ∀ W : World, (Instr.makeSlice 82 (.int .i64 3) (.int .i64 3)).run Tryz.prog W = .ok (.slice (some ⟨W.heap.size, 0, none⟩) 3 3) (W.alloc (.cells (madeCells (Value.int .i64 0).cells (3 * i0.size)) 2)) := fun W => run_make_rowN (P := Tryz.prog) 82 2 i0 _ Tryz.underlying82 hi hz0 .i64 .i64 3 3 (Nat.le_refl _) (by rw [hz2]; decide) (by decide) W
  rw [hz1] at hmk
  have hzero : ∀ W : World, Own fInt (W.alloc (.cells (madeCells #[Value.int .i64 0] 3) 2)) W.heap.size 2 (.slice (some ⟨W.heap.size, 0, none⟩) 3 3) [0, 0, 0] := fun W => by
    rw [made3]
    exact World.ownsRow_lit (e := 2) (size := 1) W #[Value.int .i64 0, .int .i64 0, .int .i64 0] 3 (Nat.le_refl _) (by decide) rfl
  go_enter Tryz.func58, Tryz.ntmps58
  go_wp2_with fail
  refine (implReadList_any s m _ hs hm9 ht).mono ?_
  rintro e w1 ⟨v1, rfl, hn1⟩
  have hb1 := hn1.below
  have hfail : one3 s = false → ∃ v, Ending.returned (.tuple #[.slice (some ⟨w1.heap.size, 0, none⟩) 3 3, .bool false]) = .returned (.tuple #[v, .bool (one3 s)]) ∧ New fInt.cod w v (num3 s) (w1.alloc (.cells (madeCells #[Value.int .i64 0] 3) 2)) := fun h => ⟨_, by rw [h], by
    rw [one3_no h]
    exact ((hzero w1).new ((Below.refl _ _).alloc (Nat.le_refl _) _) (by intro x hx; simp at hx; subst hx; show _ ∧ _; simp)).later hb1⟩
  have HFAIL := Lib.hid hfail
  clear hfail hzero
  cases hr : rlF s with
  | none =>
    have h1 := one3_none hr
    rw [show (none : Option (List Int)).isSome = false from rfl]
    clear hn1 hr
    go_wp2
    go_ret2
    exact HFAIL.out h1
  | some xs =>
    have h1 := one3_len hr
    rw [show (some xs : Option (List Int)).isSome = true from rfl]
    rw [hr] at hn1
    have hn2 : New fInt.cod w v1 xs w1 := hn1
    obtain ⟨⟨fpy, hsy, _, _⟩, _⟩ := id hn2
    obtain ⟨A, cap, rfl, _, _⟩ := hsy.form
    clear hn1 hsy
    by_cases h3 : xs.length = 3
    · rw [decide_eq_true h3] at h1
      have hnum : num3 s = xs := by have := (one3_yes h1).1; rw [hr] at this; exact (Option.some.inj this).symm
      have HN := Lib.hid hnum
      have hn3 : New fInt.cod w (.slice A 3 cap) xs w1 := by rw [← h3]; exact hn2
      have H1 := Lib.hid h1
      have e5 : ((xs.length : Int) == 3) = true := by rw [beq_iff_eq]; omega
      have e6 : ((xs.length : Int) != 3) = false := by unfold bne; rw [e5]; rfl
      clear hr hnum h1
      go_wp2
      go_ret2
      exact ⟨_, by rw [H1.out]; rfl, by rw [HN.out]; exact hn3⟩
    · rw [decide_eq_false h3] at h1
      have H1 := Lib.hid h1
      have e5 : ((xs.length : Int) == 3) = false := by rw [beq_eq_false_iff_ne]; omega
      have e6 : ((xs.length : Int) != 3) = true := by unfold bne; rw [e5]; rfl
      clear hr h1 hn2
      go_wp2
      go_ret2
      exact HFAIL.out H1.out
set_option maxRecDepth 100000 in
set_option maxHeartbeats 2000000 in
theorem GateText_all (x : DGate) (w : World) (hok : fGate.ok x) (ht : Tab10 w) :
    Calls Tryz.prog 59 #[gAgg x] w fun e w' => e = .returned (.string (gtT x)) ∧ Below w.heap.size w w' := by
  unfold gAgg
  cases hv : gateB x
  · have HT : Hid (gtT x = ⟨#[]⟩) := by show _ = _; unfold gtT; rw [hv]; rfl
    have HV := Lib.hid hv
    obtain ⟨c0, c1, c2, c3, c4, c5⟩ := PGate.box w x 61
    go_enter Tryz.func59, Tryz.ntmps59
    go_wp2_with fail
    refine (gateValid_any x _ hok).mono ?_
    rintro e w1 ⟨rfl, hb1⟩
    have hB1 : Below w.heap.size w w1 := ((Below.refl _ _).alloc (Nat.le_refl _) _).trans (hb1.mono (by simp))
    rw [HV.out]
    go_wp2
    go_ret
    exact ⟨by rw [HT.out]; rfl, hB1⟩
  · have e : gtT x = gtS x := by unfold gtT; rw [if_pos hv]
    rw [e]
    exact GateText_any x w hok hv ht
theorem splitR_any (s : ByteArray) (c : UInt8) (m : Int) (w : World) (hs : s.size ≤ 1048576) (hm : w.cell? ⟨0, 0, none⟩ = some (.int .i64 m)) :
    Calls Tryz.prog 22 #[.string s, .string ⟨#[c]⟩] w fun e w' => OwnRT fStr 9 w (splS c s) e w' := by
  refine (Tryz.strings_Split s ⟨#[c]⟩ m w (by omega) hm (Nat.le_refl 1)).mono ?_
  rintro e w' ⟨rfl, rfl⟩
  have hl := Lib.splitB_all ⟨#[c]⟩ (Nat.le_refl 1) 0 _ s rfl
  rw [splS_split] at hl ⊢
  rw [← hl]
  have hb0 : Below w.heap.size w (w.alloc (.cells ((splS c s).map Value.string).toArray 9)) := (Below.refl _ _).alloc (Nat.le_refl _) _
  refine ⟨_, rfl, ?_, hb0⟩
  have hll : (splS c s).length ≤ s.size + 1 := by
    have h1 := Lib.countB_le ⟨#[c]⟩ (Nat.le_refl 1) s.size s (Nat.le_refl _)
    omega
  have h := World.ownsRow_lit (e := 9) (size := 1) (base := w.heap.size) w ((splS c s).map Value.string).toArray (splS c s).length (Nat.le_refl _) (by unfold maxLen; omega) (by simp)
  have e1 : (splS c s).map Value.string = (splS c s).flatMap fStr.enc := by
    generalize splS c s = L
    induction L with
    | nil => rfl
    | cons x L ih => rw [List.map_cons, List.flatMap_cons, ih]; rfl
  rw [show ((splS c s).map Value.string).toArray.toList = (splS c s).flatMap fStr.enc from by simpa using e1] at h
  exact h
set_option maxRecDepth 100000 in
set_option maxHeartbeats 8000000 in
theorem specReadGate_any (s : ByteArray) (w : World) (hs : s.size ≤ 1048576) :
    Calls Tryz.prog 33 #[.string s] w fun e w' => GRet s e ∧ Below w.heap.size w w' := by
  have hsz := spl_sizeR 32 s
  have hrg := rg_spec s
  go_enter Tryz.func33, Tryz.ntmps33
  go_wp2_with fail
  refine (l01Split_any s 32 _ hs).mono ?_
  rintro e w1 ⟨v1, rfl, hown, hb1⟩
  have hX6 : Box6 w1 w.heap.size := (Box6.new w _).below hb1 (by simp)
  have hB1 : Below w.heap.size w w1 := ((Below.refl _ _).alloc (Nat.le_refl _) _).trans (hb1.mono (by simp))
  have hg1 : w.heap.size < w1.heap.size := by have := hb1.size; simp at this; omega
  have hok : ∀ x ∈ splS 32 s, fStr.ok x := fun x hx => by have := hsz x hx; show _ ≤ _; omega
  obtain ⟨fp1, hsl, _, _⟩ := Sl.of_own (n := (splS 32 s).length) rfl hown hok
  generalize splS 32 s = X at *
  have HRG := Lib.hid hrg
  clear hown hok hrg hb1
  obtain ⟨A, cap, rfl, hle, hca⟩ := hsl.form
  by_cases h34 : 3 ≤ X.length ∧ X.length ≤ 4
  · obtain ⟨h3, h4⟩ := h34
    have hwA := hsl
    obtain ⟨b, off, rfl, _, _, ca, _⟩ := hsl.cell1 rfl (k := 1) (by omega) rfl
    have hs1 := hsz X[1] (List.getElem_mem (by omega))
    have hx1 : X.getD 1 e0 = X[1] := by rw [List.getD_eq_getElem?_getD, List.getElem?_eq_getElem (by omega)]; rfl
    have hx0 : X.getD 0 e0 = X[0] := by rw [List.getD_eq_getElem?_getD, List.getElem?_eq_getElem (by omega)]; rfl
    have hx2 : X.getD 2 e0 = X[2] := by rw [List.getD_eq_getElem?_getD, List.getElem?_eq_getElem (by omega)]; rfl
    go_wp2_with fail
    refine (specReadList_any X[1] _ (by omega)).mono ?_
    rintro e w2 ⟨v2, rfl, hn2⟩
    have hb2 := hn2.below
    have hB2 := hB1.trans (hb2.mono hB1.size)
    have hX62 := hX6.below hb2 hg1
    have hg2 : w.heap.size < w2.heap.size := Nat.lt_of_lt_of_le hg1 hb2.size
    have hsl2 := hsl.below' hb2
    have hbad : one3 X[1] = false → Hid (rgF s = none) := fun h => by
      show _ = _
      rw [HRG.out, if_neg]
      unfold specB
      rw [hx1, h]; simp
    cases hr : rlF X[1] with
    | none =>
      have HN := hbad (one3_none hr)
      rw [show (none : Option (List Int)).isSome = false from rfl]
      obtain ⟨d0, d1, d2, d3, d4, d5, z0, z1, z2, z3, z4, z5⟩ := hX62
      clear hn2 hbad hr
      go_wp2
      exact bodyPost_ret (v := .tuple #[gAgg gt00, .bool false]) (by simp [gAgg, gt00, results, hit_cell, d0, d1, d2, d3, d4, d5, Tryz.results33, go_sem]) rfl ⟨GRet.no HN.out, by (repeat (refine Below.setCell ?_ (by exact Nat.le_refl _) _)); assumption⟩
    | some xs =>
      rw [hr] at hn2
      have hn3 : New fInt.cod w1 v2 xs w2 := hn2
      rw [show (some xs : Option (List Int)).isSome = true from rfl]
      obtain ⟨⟨fpy, hsy, _, _⟩, _⟩ := hn3
      have h1 := one3_len hr
      by_cases hl3 : xs.length = 3
      · rw [decide_eq_true hl3] at h1
        obtain ⟨p, q, r, rfl⟩ : ∃ p q r, xs = [p, q, r] := by
          match xs, hl3 with
          | [p, q, r], _ => exact ⟨p, q, r, rfl⟩
        obtain ⟨A2, cap2, rfl, hle2, _⟩ := hsy.form
        obtain ⟨g2, o2, rfl, _, okp, n0, _⟩ := hsy.cell1 rfl (k := 0) (by simp) rfl
        obtain ⟨g2', o2', hA2, _, okq, n1, _⟩ := hsy.cell1 rfl (k := 1) (by simp) rfl
        injection hA2 with hA2; injection hA2 with ha1 ha2 _; subst ha1 ha2
        obtain ⟨g2', o2', hA2, _, okr, n2, _⟩ := hsy.cell1 rfl (k := 2) (by simp) rfl
        injection hA2 with hA2; injection hA2 with ha1 ha2 _; subst ha1 ha2
        have n00 : w2.cell? ⟨g2, o2, none⟩ = some (.int .i64 p) := by simpa using n0
        have n11 : w2.cell? ⟨g2, o2 + 1, none⟩ = some (.int .i64 q) := n1
        have n22 : w2.cell? ⟨g2, o2 + 2, none⟩ = some (.int .i64 r) := n2
        have hnum : num3 X[1] = [p, q, r] := (one3_of hr).2
        obtain ⟨b', off', hA, _, _, cb, _⟩ := hsl2.cell1 rfl (k := 0) (by omega) rfl
        injection hA with hA; injection hA with ha1 ha2 _; subst ha1 ha2
        have hcA : w2.cell? ⟨b, off, none⟩ = some (.string X[0]) := by simpa using cb
        have e3 : (([p, q, r] : List Int).length : Int) = 3 := rfl
        clear n0 n1 n2 cb hsy hn2 hr hbad
        have hid0 : fStr.ok X[0] := by have := hsz X[0] (List.getElem_mem (by omega)); show _ ≤ _; omega
        have hok6 : ∀ sh c, fInt.ok c → fGate.ok ⟨X[0], p, q, r, sh, c⟩ := fun sh c hc => ⟨hid0, okp, okq, okr, trivial, hc⟩
        go_wp2
        have ghcA := cell_regrown hcA
        have gn00 := cell_regrown n00
        have gn11 := cell_regrown n11
        have gn22 := cell_regrown n22
        refine wp_region_mix (C := fun w' => ∃ p : Regrown, w' = Go.Sort.grow (redrawn w2 p.d) p.os) [true, true, true, true, true, true, true, true, true, true, true, true, true, false, false] (by kernel_rfl) (by kernel_rfl) (by kernel_rfl) (fun _ _ d _ _ h => by cases d <;> exact h) (regrown_of_below (Below.drew (Below.refl _ _))) ?_
        have hS0 : Below (w2.heap.size) w2 w2.drew := Below.drew (Below.refl _ _)
        refine wpMix_pure (by kernel_rfl) (fun K hK => ?_)
        go_big_quiet_op
        refine hK _ ?_; clear hK K
        refine wpMix_pure (by kernel_rfl) (fun K hK => ?_)
        go_big_quiet_op
        refine hK _ ?_; clear hK K
        refine wpMix_pure (by kernel_rfl) (fun K hK => ?_)
        go_big_quiet_op
        refine hK _ ?_; clear hK K
        refine wpMix_pure (by kernel_rfl) (fun K hK => ?_)
        go_big_quiet_op
        refine hK _ ?_; clear hK K
        refine wpMix_pure (by kernel_rfl) (fun K hK => ?_)
        go_big_quiet_op
        refine hK _ ?_; clear hK K
        refine wpMix_pure (by kernel_rfl) (fun K hK => ?_)
        go_big_quiet_op
        refine hK _ ?_; clear hK K
        refine wpMix_pure (by kernel_rfl) (fun K hK => ?_)
        go_big_quiet_op
        refine hK _ ?_; clear hK K
        refine wpMix_pure (by kernel_rfl) (fun K hK => ?_)
        go_big_quiet_op
        refine hK _ ?_; clear hK K
        refine wpMix_pure (by kernel_rfl) (fun K hK => ?_)
        go_big_quiet_op
        refine hK _ ?_; clear hK K
        refine wpMix_pure (by kernel_rfl) (fun K hK => ?_)
        go_big_quiet_op
        refine hK _ ?_; clear hK K
        refine wpMix_pure (by kernel_rfl) (fun K hK => ?_)
        go_big_quiet_op
        refine hK _ ?_; clear hK K
        refine wpMix_pure (by kernel_rfl) (fun K hK => ?_)
        go_big_quiet_op
        refine hK _ ?_; clear hK K
        refine wpMix_pure (by kernel_rfl) (fun K hK => ?_)
        go_big_quiet_op
        refine hK _ ?_; clear hK K
        refine wpMix_act (by kernel_rfl) (fun K hK => ?_)
        go_big_op
        refine hK _ _ (regrown_of_below (by first | exact hS0.alloc hS0.size _ | exact Below.drew ((Below.refl _ _).alloc (Nat.le_refl _) _) | exact (Below.drew (Below.refl _ _)).alloc (Nat.le_refl _) _)) ?_
        clear hK K
        refine wpMix_act (by kernel_rfl) (fun K hK => ?_)
        go_big_op
        refine hK _ _ (regrown_of_below (by first | exact hS0.alloc hS0.size _ | exact Below.drew ((Below.refl _ _).alloc (Nat.le_refl _) _) | exact (Below.drew (Below.refl _ _)).alloc (Nat.le_refl _) _)) ?_
        clear hK K
        refine wpMix_nil ?_
        have hBx : Below w2.heap.size w2 (w2.alloc (.cells #[.string X[0], .int .i64 p, .int .i64 q, .int .i64 r, .bool false, .int .i64 0] 61)).drew := Below.drew ((Below.refl _ _).alloc (Nat.le_refl _) _)
        have hBV := hB2.trans (hBx.mono hB2.size)
        have hX6V := hX62.below hBx hg2
        have hpx : PGate (w2.alloc (.cells #[.string X[0], .int .i64 p, .int .i64 q, .int .i64 r, .bool false, .int .i64 0] 61)).drew w2.heap.size 0 ⟨X[0], p, q, r, false, 0⟩ := (PGate.box w2 ⟨X[0], p, q, r, false, 0⟩ _).below' (Below.drew (Below.refl _ _))
        have hzx : ∀ j, (w2.alloc (.cells #[.string X[0], .int .i64 p, .int .i64 q, .int .i64 r, .bool false, .int .i64 0] 61)).drew.frozen? ⟨w2.heap.size, j, none⟩ = false := fun j => by
          show (w2.alloc _).frozen? _ = false
          rw [World.frozen?_alloc_at _ _ _ _ rfl]
        have hslV := hsl2.below' hBx
        have hgV : w2.heap.size < (w2.alloc (.cells #[.string X[0], .int .i64 p, .int .i64 q, .int .i64 r, .bool false, .int .i64 0] 61)).drew.heap.size := by
          show _ < (w2.alloc _).heap.size
          simp
        clear hX62 hsl2 hcA n00 n11 n22 hBx ghcA gn00 gn11 gn22 hS0
        generalize (w2.alloc (.cells #[.string X[0], .int .i64 p, .int .i64 q, .int .i64 r, .bool false, .int .i64 0] 61)).drew = V at *
        have z10 := hzx 0
        have z11 := hzx 1
        have z12 := hzx 2
        have z13 := hzx 3
        have z14 := hzx 4
        have z15 := hzx 5
        clear hzx
        obtain ⟨x0, x1, x2, x3, x4, x5⟩ := id hpx
        have hX6 := hX6V
        clear hX6V
        obtain ⟨d0, d1, d2, d3, d4, d5, z0, z1, z2, z3, z4, z5⟩ := id hX6
        generalize hwq : w2.heap.size = wq at *
        have hne : w.heap.size ≠ wq := by omega
        have hx1' := hx1
        by_cases hl4 : X.length = 4
        · have hx3 : X.getD 3 e0 = X[3] := by rw [List.getD_eq_getElem?_getD, List.getElem?_eq_getElem (by omega)]; rfl
          have hxg : xgX X = ⟨X[0], p, q, r, true, numV X[3]⟩ := by
            unfold xgX; rw [hx0, hx1, hnum, if_pos hl4, decide_eq_true hl4, hx3]; rfl
          have hspec : specB X = (numOk X[3] && decide (X[2] = shutS) && gateB ⟨X[0], p, q, r, true, numV X[3]⟩) := by
            unfold specB; rw [hx1, hx2, hx3, hxg, h1, if_pos hl4, decide_eq_true h3, decide_eq_true h4]; rfl
          have HRS : Hid (rgF s = if (numOk X[3] && decide (X[2] = shutS) && gateB ⟨X[0], p, q, r, true, numV X[3]⟩) then some ⟨X[0], p, q, r, true, numV X[3]⟩ else none) := by show _ = _; rw [HRG.out, hspec, hxg]
          obtain ⟨b', off', hA, _, _, c3, _⟩ := hslV.cell1 rfl (k := 3) (by omega) rfl
          injection hA with hA; injection hA with ha1 ha2 _; subst ha1 ha2
          obtain ⟨b', off', hA, _, _, c2, _⟩ := hslV.cell1 rfl (k := 2) (by omega) rfl
          injection hA with hA; injection hA with ha1 ha2 _; subst ha1 ha2
          have hs3 := hsz X[3] (List.getElem_mem (by omega))
          have e4 : ((X.length : Int) == 4) = true := by rw [beq_iff_eq]; omega
          clear hspec hxg hslV
          go_wp2_with fail
          refine (l01Number_any X[3] _ (by omega)).mono ?_
          rintro e V2 ⟨rfl, hbV⟩
          have hBV2 := hBV.trans (hbV.mono hBV.size)
          have hX62 := hX6.below hbV (by omega)
          have hpx2 := hpx.below' hbV
          have c22 := (hbV.cell (p := ⟨b, off + 2, none⟩) (block_lt_of_cell c2)).trans c2
          have hgV2 : w.heap.size < V2.heap.size := by have := hbV.size; omega
          have y4 := (hbV.frozen (p := ⟨wq, 4, none⟩) hpx.lt).trans z14
          have y5 := (hbV.frozen (p := ⟨wq, 5, none⟩) hpx.lt).trans z15
          clear x0 x1 x2 x3 x4 x5 d0 d1 d2 d3 d4 d5 z0 z1 z2 z3 z4 z5 z10 z11 z12 z13 z14 z15 c2 c3 hX6 hpx
          cases hn : numOk X[3]
          · have HN : Hid (rgF s = none) := by show _ = _; rw [HRS.out, hn]; rfl
            obtain ⟨d0, d1, d2, d3, d4, d5, z0, z1, z2, z3, z4, z5⟩ := hX62
            clear hn
            go_wp2
            exact bodyPost_ret (v := .tuple #[gAgg gt00, .bool false]) (by simp [gAgg, gt00, results, hit_cell, d0, d1, d2, d3, d4, d5, Tryz.results33, go_sem]) rfl ⟨GRet.no HN.out, by (repeat (refine Below.setCell ?_ (by exact Nat.le_refl _) _)); assumption⟩
          · by_cases hsh : X[2] = shutS
            · have e7 : (X[2].toList == [115, 104, 117, 116]) = true := by rw [hsh, beq_iff_eq]; unfold shutS; simp [ByteArray.toList_eq]
              have HNO : Hid (gateB ⟨X[0], p, q, r, true, numV X[3]⟩ = false → rgF s = none) := fun h => by rw [HRS.out, hn, decide_eq_true hsh, h]; rfl
              have HYES : Hid (gateB ⟨X[0], p, q, r, true, numV X[3]⟩ = true → rgF s = some ⟨X[0], p, q, r, true, numV X[3]⟩) := fun h => by rw [HRS.out, hn, decide_eq_true hsh, h]; rfl
              have hpx2' := hpx2
              have hX62' := hX62
              obtain ⟨x0, x1, x2, x3, x4, x5⟩ := hpx2
              obtain ⟨d0, d1, d2, d3, d4, d5, z0, z1, z2, z3, z4, z5⟩ := hX62
              clear hn hsh
              go_wp2_with fail
              have hBV3 : Below w.heap.size w ((V2.setCell ⟨wq, 4, none⟩ (.bool true)).setCell ⟨wq, 5, none⟩ (.int .i64 (numV X[3]))) := (hBV2.setCell (show w.heap.size ≤ wq by omega) _).setCell (show w.heap.size ≤ wq by omega) _
              have hp6 := hpx2'.closed (numV X[3])
              have hX6 : Box6 ((V2.setCell ⟨wq, 4, none⟩ (.bool true)).setCell ⟨wq, 5, none⟩ (.int .i64 (numV X[3]))) w.heap.size := (hX62'.far hne).far hne
              clear x0 x1 x2 x3 x4 x5 d0 d1 d2 d3 d4 d5 z0 z1 z2 z3 z4 z5 c22 y4 y5
              have hgV : w.heap.size < ((V2.setCell ⟨wq, 4, none⟩ (.bool true)).setCell ⟨wq, 5, none⟩ (.int .i64 (numV X[3]))).heap.size := by simpa using hgV2
              generalize ((V2.setCell ⟨wq, 4, none⟩ (.bool true)).setCell ⟨wq, 5, none⟩ (.int .i64 (numV X[3]))) = V3 at *
              refine (l21Ok_any wq 0 ⟨X[0], p, q, r, true, numV X[3]⟩ _ hp6 (hok6 true _ (numV_ok _))).mono ?_
              rintro e U ⟨rfl, hbU⟩
              have hBU := hBV3.trans (hbU.mono hBV3.size)
              have hX6U := hX6.below hbU (by omega)
              have hp6U := hp6.below' hbU
              clear hX6 hp6
              obtain ⟨d0, d1, d2, d3, d4, d5, z0, z1, z2, z3, z4, z5⟩ := hX6U
              obtain ⟨x0, x1, x2, x3, x4, x5⟩ := hp6U
              cases hgb : gateB ⟨X[0], p, q, r, true, numV X[3]⟩
              · have HN := Lib.hid (HNO.out hgb)
                clear hgb
                go_wp2
                exact bodyPost_ret (v := .tuple #[gAgg gt00, .bool false]) (by simp [gAgg, gt00, results, hit_cell, d0, d1, d2, d3, d4, d5, Tryz.results33, go_sem]) rfl ⟨GRet.no HN.out, by (repeat (refine Below.setCell ?_ (by first | exact Nat.le_refl _ | (show _ ≤ _; omega)) _)); assumption⟩
              · have HY := Lib.hid (HYES.out hgb)
                clear hgb
                go_wp2
                exact bodyPost_ret (v := .tuple #[gAgg ⟨X[0], p, q, r, true, numV X[3]⟩, .bool true]) (by simp [gAgg, gt00, results, hit_cell, d0, d1, d2, d3, d4, d5, Tryz.results33, go_sem]) rfl ⟨GRet.yes HY.out, by (repeat (refine Below.setCell ?_ (by first | exact Nat.le_refl _ | (show _ ≤ _; omega)) _)); assumption⟩
            · have e7 : (X[2].toList == [115, 104, 117, 116]) = false := by
                rw [beq_eq_false_iff_ne]; intro e
                exact hsh (bytes_toList_inj (e.trans (by unfold shutS; simp [ByteArray.toList_eq])))
              have e8 : (X[2].toList != [115, 104, 117, 116]) = true := by unfold bne; rw [e7]; rfl
              have HN : Hid (rgF s = none) := by show _ = _; rw [HRS.out, hn, decide_eq_false hsh]; rfl
              obtain ⟨d0, d1, d2, d3, d4, d5, z0, z1, z2, z3, z4, z5⟩ := hX62
              clear hn hsh
              go_wp2
              exact bodyPost_ret (v := .tuple #[gAgg gt00, .bool false]) (by simp [gAgg, gt00, results, hit_cell, d0, d1, d2, d3, d4, d5, Tryz.results33, go_sem]) rfl ⟨GRet.no HN.out, by (repeat (refine Below.setCell ?_ (by exact Nat.le_refl _) _)); assumption⟩
        · have hxg : xgX X = ⟨X[0], p, q, r, false, 0⟩ := by
            unfold xgX; rw [hx0, hx1, hnum, if_neg hl4, decide_eq_false hl4]; rfl
          have hspec : specB X = (decide (X[2] = openS) && gateB ⟨X[0], p, q, r, false, 0⟩) := by
            unfold specB; rw [hx1, hx2, hxg, h1, if_neg hl4, decide_eq_true h3, decide_eq_true h4]; rfl
          have HRS : Hid (rgF s = if (decide (X[2] = openS) && gateB ⟨X[0], p, q, r, false, 0⟩) then some ⟨X[0], p, q, r, false, 0⟩ else none) := by show _ = _; rw [HRG.out, hspec, hxg]
          obtain ⟨b', off', hA, _, _, c2, _⟩ := hslV.cell1 rfl (k := 2) (by omega) rfl
          injection hA with hA; injection hA with ha1 ha2 _; subst ha1 ha2
          have e4 : ((X.length : Int) == 4) = false := by rw [beq_eq_false_iff_ne]; omega
          clear hspec hxg hslV
          by_cases hop : X[2] = openS
          · have e7 : (X[2].toList == [111, 112, 101, 110]) = true := by rw [hop, beq_iff_eq]; unfold openS; simp [ByteArray.toList_eq]
            have HNO : Hid (gateB ⟨X[0], p, q, r, false, 0⟩ = false → rgF s = none) := fun h => by rw [HRS.out, decide_eq_true hop, h]; rfl
            have HYES : Hid (gateB ⟨X[0], p, q, r, false, 0⟩ = true → rgF s = some ⟨X[0], p, q, r, false, 0⟩) := fun h => by rw [HRS.out, decide_eq_true hop, h]; rfl
            have hp6 := hpx
            clear hop
            go_wp2_with fail
            refine (l21Ok_any wq 0 ⟨X[0], p, q, r, false, 0⟩ _ hp6 (hok6 false 0 (by show _ ∧ _; simp))).mono ?_
            rintro e U ⟨rfl, hbU⟩
            have hBU := hBV.trans (hbU.mono hBV.size)
            have hX6U := hX6.below hbU (by omega)
            have hp6U := hp6.below' hbU
            clear hX6 hp6
            obtain ⟨d0, d1, d2, d3, d4, d5, z0, z1, z2, z3, z4, z5⟩ := hX6U
            obtain ⟨x0, x1, x2, x3, x4, x5⟩ := hp6U
            cases hgb : gateB ⟨X[0], p, q, r, false, 0⟩
            · have HN := Lib.hid (HNO.out hgb)
              clear hgb
              go_wp2
              exact bodyPost_ret (v := .tuple #[gAgg gt00, .bool false]) (by simp [gAgg, gt00, results, hit_cell, d0, d1, d2, d3, d4, d5, Tryz.results33, go_sem]) rfl ⟨GRet.no HN.out, by (repeat (refine Below.setCell ?_ (by first | exact Nat.le_refl _ | (show _ ≤ _; omega)) _)); assumption⟩
            · have HY := Lib.hid (HYES.out hgb)
              clear hgb
              go_wp2
              exact bodyPost_ret (v := .tuple #[gAgg ⟨X[0], p, q, r, false, 0⟩, .bool true]) (by simp [gAgg, gt00, results, hit_cell, d0, d1, d2, d3, d4, d5, Tryz.results33, go_sem]) rfl ⟨GRet.yes HY.out, by (repeat (refine Below.setCell ?_ (by first | exact Nat.le_refl _ | (show _ ≤ _; omega)) _)); assumption⟩
          · have e7 : (X[2].toList == [111, 112, 101, 110]) = false := by
              rw [beq_eq_false_iff_ne]; intro e
              exact hop (bytes_toList_inj (e.trans (by unfold openS; simp [ByteArray.toList_eq])))
            have e8 : (X[2].toList != [111, 112, 101, 110]) = true := by unfold bne; rw [e7]; rfl
            have HN : Hid (rgF s = none) := by show _ = _; rw [HRS.out, decide_eq_false hop]; rfl
            clear hop
            go_wp2
            exact bodyPost_ret (v := .tuple #[gAgg gt00, .bool false]) (by simp [gAgg, gt00, results, hit_cell, d0, d1, d2, d3, d4, d5, Tryz.results33, go_sem]) rfl ⟨GRet.no HN.out, by (repeat (refine Below.setCell ?_ (by exact Nat.le_refl _) _)); assumption⟩
      · rw [decide_eq_false hl3] at h1
        have HN := hbad h1
        obtain ⟨A2, cap2, rfl, _, _⟩ := hsy.form
        have e5 : ((xs.length : Int) == 3) = false := by rw [beq_eq_false_iff_ne]; omega
        have e6 : ((xs.length : Int) != 3) = true := by unfold bne; rw [e5]; rfl
        obtain ⟨d0, d1, d2, d3, d4, d5, z0, z1, z2, z3, z4, z5⟩ := hX62
        clear hn2 hbad hr hsy
        go_wp2
        exact bodyPost_ret (v := .tuple #[gAgg gt00, .bool false]) (by simp [gAgg, gt00, results, hit_cell, d0, d1, d2, d3, d4, d5, Tryz.results33, go_sem]) rfl ⟨GRet.no HN.out, by (repeat (refine Below.setCell ?_ (by exact Nat.le_refl _) _)); assumption⟩
  · have HN : Hid (rgF s = none) := by
      show _ = _
      rw [HRG.out, if_neg]
      unfold specB
      intro h
      simp only [Bool.and_eq_true, decide_eq_true_eq] at h
      exact h34 ⟨h.1.1.1.1, h.1.1.1.2⟩
    obtain ⟨d0, d1, d2, d3, d4, d5, z0, z1, z2, z3, z4, z5⟩ := hX6
    by_cases h3 : X.length < 3
    · go_wp2
      exact bodyPost_ret (v := .tuple #[gAgg gt00, .bool false]) (by simp [gAgg, gt00, results, hit_cell, d0, d1, d2, d3, d4, d5, Tryz.results33, go_sem]) rfl ⟨GRet.no HN.out, by (repeat (refine Below.setCell ?_ (by exact Nat.le_refl _) _)); assumption⟩
    · have h5 : 4 < X.length := by omega
      go_wp2
      exact bodyPost_ret (v := .tuple #[gAgg gt00, .bool false]) (by simp [gAgg, gt00, results, hit_cell, d0, d1, d2, d3, d4, d5, Tryz.results33, go_sem]) rfl ⟨GRet.no HN.out, by (repeat (refine Below.setCell ?_ (by exact Nat.le_refl _) _)); assumption⟩
set_option maxRecDepth 100000 in
set_option maxHeartbeats 8000000 in
theorem implReadGate_any (s : ByteArray) (m : Int) (w : World) (hs : s.size ≤ 1048576) (hm : w.cell? ⟨0, 0, none⟩ = some (.int .i64 m)) (ht : RdTabs w) :
    Calls Tryz.prog 36 #[.string s] w fun e w' => GRet s e ∧ Below w.heap.size w w' := by
  have hsz := spl_sizeR 32 s
  have hrg : rgF s = if decide (3 ≤ (splS 32 s).length) && one3 ((splS 32 s).getD 1 e0) && twoX (splS 32 s) && decide (gtT (xgX (splS 32 s)) = s) then some (xgX (splS 32 s)) else none := rfl
  go_enter Tryz.func36, Tryz.ntmps36
  go_wp2_with fail
  refine (splitR_any s 32 m _ hs (cell_below ((Below.refl _ _).alloc (Nat.le_refl _) _) hm)).mono ?_
  rintro e w1 ⟨v1, rfl, hown, hb1⟩
  have hX6 : Box6 w1 w.heap.size := (Box6.new w _).below hb1 (by simp)
  have hB1 : Below w.heap.size w w1 := ((Below.refl _ _).alloc (Nat.le_refl _) _).trans (hb1.mono (by simp))
  have hg1 : w.heap.size < w1.heap.size := by have := hb1.size; simp at this; omega
  have hok : ∀ x ∈ splS 32 s, fStr.ok x := fun x hx => by have := hsz x hx; show _ ≤ _; omega
  obtain ⟨fp1, hsl, _, _⟩ := Sl.of_own (n := (splS 32 s).length) rfl hown hok
  generalize splS 32 s = X at *
  have HRG := Lib.hid hrg
  clear hown hok hrg hb1
  obtain ⟨A, cap, rfl, hle, hca⟩ := hsl.form
  by_cases h3 : 3 ≤ X.length
  · obtain ⟨b, off, rfl, _, _, ca, _⟩ := hsl.cell1 rfl (k := 1) (by omega) rfl
    have hs1 := hsz X[1] (List.getElem_mem (by omega))
    have hx1 : X.getD 1 e0 = X[1] := by rw [List.getD_eq_getElem?_getD, List.getElem?_eq_getElem (by omega)]; rfl
    have hx0 : X.getD 0 e0 = X[0] := by rw [List.getD_eq_getElem?_getD, List.getElem?_eq_getElem (by omega)]; rfl
    go_wp2_with fail
    refine (readNumbers_any X[1] m _ (by omega) (cell_below hB1 hm) (ht.below hB1)).mono ?_
    rintro e w2 ⟨v2, rfl, ⟨⟨fpy, hsy, _, _⟩, hb2⟩⟩
    have hB2 := hB1.trans (hb2.mono hB1.size)
    have hX62 := hX6.below hb2 hg1
    have hg2 : w.heap.size < w2.heap.size := Nat.lt_of_lt_of_le hg1 hb2.size
    have hsl2 := hsl.below' hb2
    have hbw1 : b < w1.heap.size := block_lt_of_cell ca
    have hbw : b < w2.heap.size := Nat.lt_of_lt_of_le hbw1 hb2.size
    have hnok : ∀ x ∈ num3 X[1], fInt.ok x := num3_ok
    obtain ⟨p, q, r, hnum⟩ := num3_abc X[1]
    rw [hnum] at hsy hnok
    have okp := hnok p (by simp)
    have okq := hnok q (by simp)
    have okr := hnok r (by simp)
    obtain ⟨A2, cap2, rfl, hle2, _⟩ := hsy.form
    obtain ⟨g2, o2, rfl, _, _, n0, _⟩ := hsy.cell1 rfl (k := 0) (by simp) rfl
    obtain ⟨g2', o2', hA2, _, _, n1, _⟩ := hsy.cell1 rfl (k := 1) (by simp) rfl
    injection hA2 with hA2; injection hA2 with ha1 ha2 _; subst ha1 ha2
    obtain ⟨g2', o2', hA2, _, _, n2, _⟩ := hsy.cell1 rfl (k := 2) (by simp) rfl
    injection hA2 with hA2; injection hA2 with ha1 ha2 _; subst ha1 ha2
    have n00 : w2.cell? ⟨g2, o2, none⟩ = some (.int .i64 p) := by simpa using n0
    have n11 : w2.cell? ⟨g2, o2 + 1, none⟩ = some (.int .i64 q) := n1
    have n22 : w2.cell? ⟨g2, o2 + 2, none⟩ = some (.int .i64 r) := n2
    obtain ⟨b', off', hA, _, _, cb, _⟩ := hsl2.cell1 rfl (k := 0) (by omega) rfl
    injection hA with hA; injection hA with ha1 ha2 _; subst ha1 ha2
    have hcA : w2.cell? ⟨b, off, none⟩ = some (.string X[0]) := by simpa using cb
    have e3 : (([p, q, r] : List Int).length : Int) = 3 := rfl
    clear n0 n1 n2 cb hsy
    have hid0 : fStr.ok X[0] := by have := hsz X[0] (List.getElem_mem (by omega)); show _ ≤ _; omega
    have hok6 : ∀ sh c, fInt.ok c → fGate.ok ⟨X[0], p, q, r, sh, c⟩ := fun sh c hc => ⟨hid0, okp, okq, okr, trivial, hc⟩
    go_wp2
    have ghcA := cell_regrown hcA
    have gn00 := cell_regrown n00
    have gn11 := cell_regrown n11
    have gn22 := cell_regrown n22
    refine wp_region_mix (C := fun w' => ∃ p : Regrown, w' = Go.Sort.grow (redrawn w2 p.d) p.os) [true, true, true, true, true, true, true, true, true, true, true, true, true, false, false] (by kernel_rfl) (by kernel_rfl) (by kernel_rfl) (fun _ _ d _ _ h => by cases d <;> exact h) (regrown_of_below (Below.drew (Below.refl _ _))) ?_
    have hS0 : Below (w2.heap.size) w2 w2.drew := Below.drew (Below.refl _ _)
    refine wpMix_pure (by kernel_rfl) (fun K hK => ?_)
    go_big_quiet_op
    refine hK _ ?_; clear hK K
    refine wpMix_pure (by kernel_rfl) (fun K hK => ?_)
    go_big_quiet_op
    refine hK _ ?_; clear hK K
    refine wpMix_pure (by kernel_rfl) (fun K hK => ?_)
    go_big_quiet_op
    refine hK _ ?_; clear hK K
    refine wpMix_pure (by kernel_rfl) (fun K hK => ?_)
    go_big_quiet_op
    refine hK _ ?_; clear hK K
    refine wpMix_pure (by kernel_rfl) (fun K hK => ?_)
    go_big_quiet_op
    refine hK _ ?_; clear hK K
    refine wpMix_pure (by kernel_rfl) (fun K hK => ?_)
    go_big_quiet_op
    refine hK _ ?_; clear hK K
    refine wpMix_pure (by kernel_rfl) (fun K hK => ?_)
    go_big_quiet_op
    refine hK _ ?_; clear hK K
    refine wpMix_pure (by kernel_rfl) (fun K hK => ?_)
    go_big_quiet_op
    refine hK _ ?_; clear hK K
    refine wpMix_pure (by kernel_rfl) (fun K hK => ?_)
    go_big_quiet_op
    refine hK _ ?_; clear hK K
    refine wpMix_pure (by kernel_rfl) (fun K hK => ?_)
    go_big_quiet_op
    refine hK _ ?_; clear hK K
    refine wpMix_pure (by kernel_rfl) (fun K hK => ?_)
    go_big_quiet_op
    refine hK _ ?_; clear hK K
    refine wpMix_pure (by kernel_rfl) (fun K hK => ?_)
    go_big_quiet_op
    refine hK _ ?_; clear hK K
    refine wpMix_pure (by kernel_rfl) (fun K hK => ?_)
    go_big_quiet_op
    refine hK _ ?_; clear hK K
    refine wpMix_act (by kernel_rfl) (fun K hK => ?_)
    go_big_op
    refine hK _ _ (regrown_of_below (by first | exact hS0.alloc hS0.size _ | exact Below.drew ((Below.refl _ _).alloc (Nat.le_refl _) _) | exact (Below.drew (Below.refl _ _)).alloc (Nat.le_refl _) _)) ?_
    clear hK K
    refine wpMix_act (by kernel_rfl) (fun K hK => ?_)
    go_big_op
    refine hK _ _ (regrown_of_below (by first | exact hS0.alloc hS0.size _ | exact Below.drew ((Below.refl _ _).alloc (Nat.le_refl _) _) | exact (Below.drew (Below.refl _ _)).alloc (Nat.le_refl _) _)) ?_
    clear hK K
    refine wpMix_nil ?_
    have hBx : Below w2.heap.size w2 (w2.alloc (.cells #[.string X[0], .int .i64 p, .int .i64 q, .int .i64 r, .bool false, .int .i64 0] 61)).drew := Below.drew ((Below.refl _ _).alloc (Nat.le_refl _) _)
    have hBV := hB2.trans (hBx.mono hB2.size)
    have hX6V := hX62.below hBx hg2
    have hpx : PGate (w2.alloc (.cells #[.string X[0], .int .i64 p, .int .i64 q, .int .i64 r, .bool false, .int .i64 0] 61)).drew w2.heap.size 0 ⟨X[0], p, q, r, false, 0⟩ := (PGate.box w2 ⟨X[0], p, q, r, false, 0⟩ _).below' (Below.drew (Below.refl _ _))
    have hzx : ∀ j, (w2.alloc (.cells #[.string X[0], .int .i64 p, .int .i64 q, .int .i64 r, .bool false, .int .i64 0] 61)).drew.frozen? ⟨w2.heap.size, j, none⟩ = false := fun j => by
      show (w2.alloc _).frozen? _ = false
      rw [World.frozen?_alloc_at _ _ _ _ rfl]
    have hslV := hsl2.below' hBx
    have hgV : w2.heap.size < (w2.alloc (.cells #[.string X[0], .int .i64 p, .int .i64 q, .int .i64 r, .bool false, .int .i64 0] 61)).drew.heap.size := by
      show _ < (w2.alloc _).heap.size
      simp
    clear hX62 hsl2 hcA n00 n11 n22 hBx ghcA gn00 gn11 gn22 hS0
    generalize (w2.alloc (.cells #[.string X[0], .int .i64 p, .int .i64 q, .int .i64 r, .bool false, .int .i64 0] 61)).drew = V at *
    have z10 := hzx 0
    have z11 := hzx 1
    have z12 := hzx 2
    have z13 := hzx 3
    have z14 := hzx 4
    have z15 := hzx 5
    clear hzx
    obtain ⟨x0, x1, x2, x3, x4, x5⟩ := id hpx
    have hX6 := hX6V
    clear hX6V
    obtain ⟨d0, d1, d2, d3, d4, d5, z0, z1, z2, z3, z4, z5⟩ := id hX6
    generalize hwq : w2.heap.size = wq at *
    have hne : w.heap.size ≠ wq := by omega
    have htV := ht.below hBV
    by_cases hl4 : X.length = 4
    · have hx3 : X.getD 3 e0 = X[3] := by rw [List.getD_eq_getElem?_getD, List.getElem?_eq_getElem (by omega)]; rfl
      have hxg : xgX X = ⟨X[0], p, q, r, true, numV X[3]⟩ := by
        unfold xgX; rw [hx0, hx1, hnum, if_pos hl4, decide_eq_true hl4, hx3]; rfl
      have HRS : Hid (rgF s = if (one3 X[1] && numOk X[3] && decide (gtT ⟨X[0], p, q, r, true, numV X[3]⟩ = s)) then some ⟨X[0], p, q, r, true, numV X[3]⟩ else none) := by
        show _ = _; rw [HRG.out, hx1, hxg]; unfold twoX; rw [hx3, decide_eq_true h3, decide_eq_true hl4]; simp
      obtain ⟨b', off', hA, _, _, c3, _⟩ := hslV.cell1 rfl (k := 3) (by omega) rfl
      injection hA with hA; injection hA with ha1 ha2 _; subst ha1 ha2
      have hs3 := hsz X[3] (List.getElem_mem (by omega))
      have e4 : ((X.length : Int) == 4) = true := by rw [beq_iff_eq]; omega
      have hbne : wq ≠ b := by omega
      have c33 := (World.cell?_setCell_far V ⟨wq, 4, none⟩ ⟨b, off + 3, none⟩ (.bool true) hbne).trans c3
      clear hxg hslV
      have hB4 : Below w.heap.size w (V.setCell ⟨wq, 4, none⟩ (.bool true)) := hBV.setCell (show w.heap.size ≤ wq by omega) _
      go_wp2_with fail
      refine (ReadDecimal_any X[3] _ (by omega) (ht.below hB4)).mono ?_
      rintro e V2 ⟨rfl, hbV⟩
      have hB5 : Below w.heap.size w V2 := hB4.trans (hbV.mono hB4.size)
      have hgq : w.heap.size < (V.setCell ⟨wq, 4, none⟩ (.bool true)).heap.size := by simp; omega
      have hX62 : Box6 V2 w.heap.size := (hX6.far hne).below hbV hgq
      have hp4 : PGate V2 wq 0 ⟨X[0], p, q, r, true, 0⟩ := (hpx.set4 true).below' hbV
      have hwqV : wq < (V.setCell ⟨wq, 4, none⟩ (.bool true)).heap.size := (hpx.set4 true).lt
      have y5 : V2.frozen? ⟨wq, 5, none⟩ = false := (hbV.frozen (p := ⟨wq, 5, none⟩) hwqV).trans ((frozen?_setCell _ _ _ _).trans z15)
      have hX63 : Box6 (V2.setCell ⟨wq, 5, none⟩ (.int .i64 (numV X[3]))) w.heap.size := hX62.far hne
      have hp5 := hp4.set5 (numV X[3])
      have hB6 : Below w.heap.size w (V2.setCell ⟨wq, 5, none⟩ (.int .i64 (numV X[3]))) := hB5.setCell (show w.heap.size ≤ wq by omega) _
      have hg3 : w.heap.size < (V2.setCell ⟨wq, 5, none⟩ (.int .i64 (numV X[3]))).heap.size := Nat.lt_of_lt_of_le hgq (by have := hbV.size; simpa using this)
      have htV2 := (ht.below hB4).below hbV
      clear x0 x1 x2 x3 x4 x5 d0 d1 d2 d3 d4 d5 z0 z1 z2 z3 z4 z5 z10 z11 z12 z13 z14 z15 c3 c33 hX6 hpx
      cases h1 : one3 X[1]
      · have HN : Hid (rgF s = none) := by show _ = _; rw [HRS.out, h1]; rfl
        obtain ⟨d0, d1, d2, d3, d4, d5, z0, z1, z2, z3, z4, z5⟩ := hX62
        obtain ⟨q0, q1, q2, q3, q4, q5, k0, k1, k2, k3, k4, k5⟩ := hX63
        have x5 := hp4.c5
        clear h1 hp4 hp5
        go_wp2
        exact bodyPost_ret (v := .tuple #[gAgg gt00, .bool false]) (by simp [gAgg, gt00, results, hit_cell, q0, q1, q2, q3, q4, q5, Tryz.results36, go_sem]) rfl ⟨GRet.no HN.out, by (repeat (refine Below.setCell ?_ (by first | exact Nat.le_refl _ | (show _ ≤ _; omega)) _)); assumption⟩
      · cases hn : numOk X[3]
        · have HN : Hid (rgF s = none) := by show _ = _; rw [HRS.out, h1, hn]; rfl
          obtain ⟨d0, d1, d2, d3, d4, d5, z0, z1, z2, z3, z4, z5⟩ := hX62
          obtain ⟨q0, q1, q2, q3, q4, q5, k0, k1, k2, k3, k4, k5⟩ := hX63
          have x5 := hp4.c5
          clear h1 hn hp4 hp5
          go_wp2
          exact bodyPost_ret (v := .tuple #[gAgg gt00, .bool false]) (by simp [gAgg, gt00, results, hit_cell, q0, q1, q2, q3, q4, q5, Tryz.results36, go_sem]) rfl ⟨GRet.no HN.out, by (repeat (refine Below.setCell ?_ (by first | exact Nat.le_refl _ | (show _ ≤ _; omega)) _)); assumption⟩
        · have HNO : Hid (gtT ⟨X[0], p, q, r, true, numV X[3]⟩ ≠ s → rgF s = none) := fun h => by rw [HRS.out, h1, hn, decide_eq_false h]; rfl
          have HYES : Hid (gtT ⟨X[0], p, q, r, true, numV X[3]⟩ = s → rgF s = some ⟨X[0], p, q, r, true, numV X[3]⟩) := fun h => by rw [HRS.out, h1, hn, decide_eq_true h]; rfl
          obtain ⟨x0, x1, x2, x3, x4, x5⟩ := id hp4
          have htT := (ht.below hB6).tab
          clear h1 hn
          go_wp2_with fail
          generalize V2.setCell ⟨wq, 5, none⟩ (.int .i64 (numV X[3])) = V3 at *
          refine (GateText_all ⟨X[0], p, q, r, true, numV X[3]⟩ _ (hok6 true _ (numV_ok _)) htT).mono ?_
          rintro e U ⟨rfl, hbU⟩
          have hBU := hB6.trans (hbU.mono hB6.size)
          have hX6U := hX63.below hbU hg3
          have hp6U := hp5.below' hbU
          clear x0 x1 x2 x3 x4 x5
          obtain ⟨d0, d1, d2, d3, d4, d5, z0, z1, z2, z3, z4, z5⟩ := hX6U
          obtain ⟨x0, x1, x2, x3, x4, x5⟩ := hp6U
          generalize gtT ⟨X[0], p, q, r, true, numV X[3]⟩ = T at *
          by_cases hT : T = s
          · have HY := Lib.hid (HYES.out hT)
            have e9 : (T.toList == s.toList) = true := by rw [hT, beq_iff_eq]
            have e10 : (T.toList != s.toList) = false := by unfold bne; rw [e9]; rfl
            clear hT
            go_wp2
            exact bodyPost_ret (v := .tuple #[gAgg ⟨X[0], p, q, r, true, numV X[3]⟩, .bool true]) (by simp [gAgg, gt00, results, hit_cell, d0, d1, d2, d3, d4, d5, Tryz.results36, go_sem]) rfl ⟨GRet.yes HY.out, by (repeat (refine Below.setCell ?_ (by first | exact Nat.le_refl _ | (show _ ≤ _; omega)) _)); assumption⟩
          · have HN := Lib.hid (HNO.out hT)
            have e9 : (T.toList == s.toList) = false := by
              rw [beq_eq_false_iff_ne]; exact fun e => hT (bytes_toList_inj e)
            have e10 : (T.toList != s.toList) = true := by unfold bne; rw [e9]; rfl
            clear hT
            go_wp2
            exact bodyPost_ret (v := .tuple #[gAgg gt00, .bool false]) (by simp [gAgg, gt00, results, hit_cell, d0, d1, d2, d3, d4, d5, Tryz.results36, go_sem]) rfl ⟨GRet.no HN.out, by (repeat (refine Below.setCell ?_ (by first | exact Nat.le_refl _ | (show _ ≤ _; omega)) _)); assumption⟩
    · have hxg : xgX X = ⟨X[0], p, q, r, false, 0⟩ := by
        unfold xgX; rw [hx0, hx1, hnum, if_neg hl4, decide_eq_false hl4]; rfl
      have HRS : Hid (rgF s = if (one3 X[1] && decide (gtT ⟨X[0], p, q, r, false, 0⟩ = s)) then some ⟨X[0], p, q, r, false, 0⟩ else none) := by
        show _ = _; rw [HRG.out, hx1, hxg]; unfold twoX; rw [decide_eq_true h3, decide_eq_false hl4]; simp
      have e4 : ((X.length : Int) == 4) = false := by rw [beq_eq_false_iff_ne]; omega
      clear hxg hslV
      cases h1 : one3 X[1]
      · have HN : Hid (rgF s = none) := by show _ = _; rw [HRS.out, h1]; rfl
        clear h1 hpx
        go_wp2
        exact bodyPost_ret (v := .tuple #[gAgg gt00, .bool false]) (by simp [gAgg, gt00, results, hit_cell, d0, d1, d2, d3, d4, d5, Tryz.results36, go_sem]) rfl ⟨GRet.no HN.out, by (repeat (refine Below.setCell ?_ (by first | exact Nat.le_refl _ | (show _ ≤ _; omega)) _)); assumption⟩
      · have HNO : Hid (gtT ⟨X[0], p, q, r, false, 0⟩ ≠ s → rgF s = none) := fun h => by rw [HRS.out, h1, decide_eq_false h]; rfl
        have HYES : Hid (gtT ⟨X[0], p, q, r, false, 0⟩ = s → rgF s = some ⟨X[0], p, q, r, false, 0⟩) := fun h => by rw [HRS.out, h1, decide_eq_true h]; rfl
        have htT := htV.tab
        clear h1
        go_wp2_with fail
        refine (GateText_all ⟨X[0], p, q, r, false, 0⟩ _ (hok6 false 0 (by show _ ∧ _; simp)) htT).mono ?_
        rintro e U ⟨rfl, hbU⟩
        have hBU := hBV.trans (hbU.mono hBV.size)
        have hX6U := hX6.below hbU (by omega)
        have hp6U := hpx.below' hbU
        clear x0 x1 x2 x3 x4 x5
        obtain ⟨d0, d1, d2, d3, d4, d5, z0, z1, z2, z3, z4, z5⟩ := hX6U
        obtain ⟨x0, x1, x2, x3, x4, x5⟩ := hp6U
        generalize gtT ⟨X[0], p, q, r, false, 0⟩ = T at *
        by_cases hT : T = s
        · have HY := Lib.hid (HYES.out hT)
          have e9 : (T.toList == s.toList) = true := by rw [hT, beq_iff_eq]
          have e10 : (T.toList != s.toList) = false := by unfold bne; rw [e9]; rfl
          clear hT
          go_wp2
          exact bodyPost_ret (v := .tuple #[gAgg ⟨X[0], p, q, r, false, 0⟩, .bool true]) (by simp [gAgg, gt00, results, hit_cell, d0, d1, d2, d3, d4, d5, Tryz.results36, go_sem]) rfl ⟨GRet.yes HY.out, by (repeat (refine Below.setCell ?_ (by first | exact Nat.le_refl _ | (show _ ≤ _; omega)) _)); assumption⟩
        · have HN := Lib.hid (HNO.out hT)
          have e9 : (T.toList == s.toList) = false := by
            rw [beq_eq_false_iff_ne]; exact fun e => hT (bytes_toList_inj e)
          have e10 : (T.toList != s.toList) = true := by unfold bne; rw [e9]; rfl
          clear hT
          go_wp2
          exact bodyPost_ret (v := .tuple #[gAgg gt00, .bool false]) (by simp [gAgg, gt00, results, hit_cell, d0, d1, d2, d3, d4, d5, Tryz.results36, go_sem]) rfl ⟨GRet.no HN.out, by (repeat (refine Below.setCell ?_ (by first | exact Nat.le_refl _ | (show _ ≤ _; omega)) _)); assumption⟩
  · have HN : Hid (rgF s = none) := by
      show _ = _
      rw [HRG.out, decide_eq_false h3]; rfl
    obtain ⟨d0, d1, d2, d3, d4, d5, z0, z1, z2, z3, z4, z5⟩ := hX6
    go_wp2
    exact bodyPost_ret (v := .tuple #[gAgg gt00, .bool false]) (by simp [gAgg, gt00, results, hit_cell, d0, d1, d2, d3, d4, d5, Tryz.results36, go_sem]) rfl ⟨GRet.no HN.out, by (repeat (refine Below.setCell ?_ (by exact Nat.le_refl _) _)); assumption⟩

end Go.Proofs.YtaaholabodchaaaGreatDoor
