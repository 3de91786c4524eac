/- Lists of numbers as text, and gates. Written by wip/gen/lt.py. -/
import Derived.Test.YtaaholabodchaaaGreatDoorDe
import Derived.Test.YtaaholabodchaaaGreatDoorTb
import Derived.Test.YtaaholabodchaaaGreatDoorBu
import Derived.Test.YtaaholabodchaaaGreatDoorGt
import Derived.Test.YtaaholabodchaaaGreatDoorSp
import Derived.Test.YtaaholabodchaaaGreatDoorTInt64
namespace Go.Proofs.YtaaholabodchaaaGreatDoor
open Go.RowKit
set_option linter.unusedVariables false

theorem bytesL_append (a b : List UInt8) : (ByteArray.mk a.toArray ++ ByteArray.mk b.toArray) = ⟨(a ++ b).toArray⟩ := ByteArray.mk_append_mk a b
theorem bytesL_self (s : ByteArray) : s = ⟨s.data.toList.toArray⟩ := by cases s; simp
theorem mkL_size (l : List UInt8) : (ByteArray.mk l.toArray).size = l.length := by show l.toArray.size = _; simp
theorem dataL_len (s : ByteArray) : s.data.toList.length = s.size := by simp
def joinX : List (List UInt8) → List UInt8
  | [] => []
  | x :: r => x ++ r.flatMap (fun y => 44 :: y)
theorem joinX_one (x : List UInt8) : joinX [x] = x := by simp [joinX]
theorem joinX_snoc {xs : List (List UInt8)} (h : xs ≠ []) (y : List UInt8) : joinX (xs ++ [y]) = joinX xs ++ 44 :: y := by
  cases xs with
  | nil => exact absurd rfl h
  | cons x r => simp [joinX]
theorem joinX_len {n : Nat} : ∀ xs : List (List UInt8), (∀ x ∈ xs, x.length ≤ n) → (joinX xs).length ≤ (n + 1) * xs.length
  | [], _ => by simp [joinX]
  | x :: r, h => by
    have hr : ∀ r : List (List UInt8), (∀ y ∈ r, y.length ≤ n) → (r.flatMap (fun y => 44 :: y)).length ≤ (n + 1) * r.length := by
      intro r hr
      induction r with
      | nil => simp
      | cons a r ih =>
        have h1 := hr a (by simp)
        have h2 := ih (fun y hy => hr y (by simp [hy]))
        rw [List.flatMap_cons, List.length_append, List.length_cons, List.length_cons, Nat.mul_succ]
        omega
    have h1 := h x (by simp)
    have h2 := hr r (fun y hy => h y (by simp [hy]))
    show (x ++ _).length ≤ _
    rw [List.length_append, List.length_cons, Nat.mul_succ]
    omega
def listS (xs : List Int) : ByteArray := ⟨(if xs = [] then [45] else joinX (xs.map Lib.itoa)).toArray⟩
theorem itoaL_len {x : Int} (h : fInt.ok x) : (Lib.itoa x).length ≤ 21 := itoa_len20 h.1 h.2
theorem listS_size {xs : List Int} (h : ∀ x ∈ xs, fInt.ok x) : (listS xs).size ≤ 22 * xs.length + 1 := by
  unfold listS; rw [mkL_size]
  split
  · simp
  · have := joinX_len (n := 21) (xs.map Lib.itoa) (fun y hy => by obtain ⟨x, hx, rfl⟩ := List.mem_map.1 hy; exact itoaL_len (h x hx))
    rw [List.length_map] at this
    omega
theorem take_map_step {α β : Type} (f : α → β) {xs : List α} {k : Nat} (hk : k < xs.length) : (xs.take (k + 1)).map f = (xs.take k).map f ++ [f xs[k]] := by
  rw [List.take_succ_eq_append_getElem hk, List.map_append]; rfl
theorem join_first {xs : List Int} (h : 0 < xs.length) {t : ByteArray} (ht : t = ⟨(joinX ((xs.take 0).map Lib.itoa)).toArray⟩) : t ++ decS xs[0] = ⟨(joinX ((xs.take 1).map Lib.itoa)).toArray⟩ := by
  rw [ht, take_map_step Lib.itoa h]
  exact bytesL_append [] _ |>.trans (by simp [joinX])
theorem join_next {xs : List Int} {k : Nat} (h : k < xs.length) (hk : 0 < k) {t : ByteArray} (ht : t = ⟨(joinX ((xs.take k).map Lib.itoa)).toArray⟩) : t ++ ⟨#[44]⟩ ++ decS xs[k] = ⟨(joinX ((xs.take (k + 1)).map Lib.itoa)).toArray⟩ := by
  rw [ht, take_map_step Lib.itoa h, joinX_snoc (by
    intro e
    have := congrArg List.length e
    rw [List.length_map, List.length_take, List.length_nil] at this
    omega)]
  rw [show (ByteArray.mk #[44]) = ⟨([44] : List UInt8).toArray⟩ from rfl, bytesL_append]
  exact (bytesL_append _ _).trans (by simp)
def dataX (Xs : List ByteArray) : List (List UInt8) := Xs.map (fun x : ByteArray => x.data.toList)
def joinS (Xs : List ByteArray) : ByteArray := ⟨(joinX (dataX Xs)).toArray⟩
theorem joinX_dlen {Xs : List ByteArray} (h : ∀ x ∈ Xs, x.size ≤ 1000) (k : Nat) : (joinX (dataX (Xs.take k))).length ≤ 1001 * k := by
  have h1 := joinX_len (n := 1000) (dataX (Xs.take k)) (fun y hy => by
    unfold dataX at hy
    obtain ⟨x, hx, rfl⟩ := List.mem_map.1 hy
    have := h x (List.mem_of_mem_take hx)
    rw [dataL_len]; exact this)
  have h2 : (dataX (Xs.take k)).length ≤ k := by unfold dataX; rw [List.length_map, List.length_take]; omega
  have h3 : (1000 + 1) * (dataX (Xs.take k)).length ≤ (1000 + 1) * k := Nat.mul_le_mul_left _ h2
  omega
theorem joinX_step {Xs : List ByteArray} {k : Nat} (hk : k < Xs.length) (h0 : 0 < k) : joinX (dataX (Xs.take (k + 1))) = (joinX (dataX (Xs.take k)) ++ [44]) ++ Xs[k].data.toList := by
  unfold dataX
  rw [take_map_step _ hk, joinX_snoc (by
    intro e
    have := congrArg List.length e
    rw [List.length_map, List.length_take, List.length_nil] at this
    omega)]
  simp
set_option maxRecDepth 100000 in
set_option maxHeartbeats 4000000 in
theorem join_any (v : Value) (Xs : List ByteArray) (fp : List Nat) (w : World) (hx : Sl fStr.cod w v Xs fp) (hl : Xs.length ≤ 1000) (hsz : ∀ x ∈ Xs, x.size ≤ 1000) :
    Calls Tryz.prog 118 #[v, .string ⟨#[44]⟩] w fun e w' => e = .returned (.string (joinS Xs)) ∧ Below w.heap.size w w' := by
  obtain ⟨A, cap, rfl, hle, hca⟩ := hx.form
  rcases Nat.lt_or_ge Xs.length 2 with h2 | h2
  · match Xs, h2 with
    | [], _ =>
      go_enter Tryz.func118, Tryz.ntmps118
      go_wp2
      go_ret
      exact ⟨rfl, Below.refl _ _⟩
    | [a], _ =>
      obtain ⟨b, off, rfl, _, hok, hc, _⟩ := hx.cell1 rfl (k := 0) (by simp) rfl
      have hc0 : w.cell? ⟨b, off, none⟩ = some (.string a) := by simpa using hc
      have hj : joinS [a] = a := by unfold joinS dataX; rw [List.map_cons, List.map_nil, joinX_one]
      have HJ := Lib.hid hj
      clear hc hj
      go_enter Tryz.func118, Tryz.ntmps118
      go_wp2
      go_ret
      exact ⟨by rw [HJ.out]; rfl, Below.refl _ _⟩
    | _ :: _ :: _, h => exact absurd h (by simp)
  · obtain ⟨p, hp⟩ : ∃ p, Xs.length = p + 1 := ⟨Xs.length - 1, by omega⟩
    have hx0 := hx
    obtain ⟨b, off, rfl, _, hok, hc, _⟩ := hx.cell1 rfl (k := 0) (by omega) rfl
    have hc0 : w.cell? ⟨b, off, none⟩ = some (.string Xs[0]) := by simpa using hc
    have hs0 := hsz Xs[0] (List.getElem_mem (by omega))
    rw [hp] at hx hle ⊢
    have e0 : (((p + 1 : Nat) : Int) == 0) = false := by rw [beq_eq_false_iff_ne]; omega
    have e1 : (((p + 1 : Nat) : Int) == 1) = false := by rw [beq_eq_false_iff_ne]; omega
    have e2 : ((p : Int) == 0) = false := by rw [beq_eq_false_iff_ne]; omega
    have hq : ¬ (9223372036854775807 : Int) / (p : Int) ≤ 1 := by
      have : (2 : Int) ≤ 9223372036854775807 / (p : Int) := Int.le_ediv_of_mul_le (by omega) (by omega)
      omega
    have hnp : ¬ (p : Int) = 0 := by omega
    clear hc
    go_enter Tryz.func118, Tryz.ntmps118
    go_wp2
    go_loop [5, 41] (fun n i => ∃ k : Nat, k ≤ p + 1 ∧ i = .int .i64 k ∧ ∃ u : Nat, n = .int .i64 u ∧ u ≤ p + 1000 * k) (fun _ i => p + 1 - (intOf i).toNat)
    case atStart => exact ⟨0, Nat.zero_le _, rfl, p, by first | rfl | (congr 1; omega), by omega⟩
    case round =>
      obtain ⟨k, hk, rfl, u, rfl, hu⟩ := hrel
      by_cases hlt : k < p + 1
      · obtain ⟨b', off', hA, _, _, hck, _⟩ := hx.cell1 rfl (k := k) (by omega) rfl
        injection hA with hA; injection hA with hA1 hA2 _; subst hA1 hA2
        have hsk := hsz Xs[k] (List.getElem_mem (by omega))
        go_wp2
        go_round
        case rel => exact ⟨k + 1, by omega, by go_num, u + Xs[k].size, by go_num, by omega⟩
        case measure => simp [intOf]; omega
      · obtain rfl : k = p + 1 := by omega
        have hbk : (w.alloc (.cells #[.pointer none, .slice none 0 0] 113)).heap[w.heap.size]? = some (.cells #[.pointer none, .slice none 0 0] 113 (0, 0)) := heap_alloc_new w _
        have hJ1 : Hid (joinX (dataX (Xs.take 1)) = Xs[0].data.toList) := by
          show _ = _
          unfold dataX
          rw [take_map_step _ (by omega : 0 < Xs.length)]
          simp [joinX]
        have hjl := joinX_dlen hsz
        have HJL := Lib.hid hjl
        have HSZ := Lib.hid hsz
        clear hjl hsz
        go_wp2_with fail
        refine (Tryz.Builder_Grow_fresh w.heap.size w.heap.size u _ (Nat.le_refl _) hbk (by simp) (by omega)).mono ?_
        rintro e w1 ⟨rfl, hI, hb1⟩
        have hB1 : Below w.heap.size w w1 := ((Below.refl _ _).alloc (Nat.le_refl _) _).trans hb1
        have hx1 := hx0.below' hB1
        obtain ⟨b', off', hA, _, _, hc1, _⟩ := hx1.cell1 rfl (k := 0) (by omega) rfl
        injection hA with hA; injection hA with hA1 hA2 _; subst hA1 hA2
        have hc01 : w1.cell? ⟨b, off, none⟩ = some (.string Xs[0]) := by simpa using hc1
        clear hc1
        go_wp2_with fail
        refine (writeString_any w.heap.size w.heap.size [] _ _ (.inr hI) (by simp; omega) hB1.size).mono ?_
        rintro e w2 ⟨rfl, hI2, hb2⟩
        have hB2 := hB1.trans hb2
        rw [List.nil_append, Lib.strCells_eq, ← hJ1.out] at hI2
        have hcap : ¬ cap = 1 := by omega
        go_wp2
        go_loopw [65] (fun i wr => ∃ j : Nat, j ≤ p ∧ i = .int .i64 j ∧ Lib.IsBuilder 113 5 w.heap.size w.heap.size (Lib.byteCells (joinX (dataX (Xs.take (j + 1))))) wr ∧ Below w.heap.size w wr) (fun i _ => p - (intOf i).toNat)
        case atStart => exact ⟨0, Nat.zero_le _, rfl, hI2, hB2⟩
        case round =>
          obtain ⟨j, hj, rfl, hI3, hb⟩ := hrel
          have hbs := hb.size
          by_cases hjp : j < p
          · obtain ⟨b', off', hA, _, _, hcj, _⟩ := (hx0.below' hb).cell1 rfl (k := j + 1) (by omega) rfl
            injection hA with hA; injection hA with hA1 hA2 _; subst hA1 hA2
            have hcj0 : wr.cell? ⟨b, off + 1 + j, none⟩ = some (.string Xs[j + 1]) := by rw [Nat.add_assoc, Nat.add_comm 1 j]; exact hcj
            have hsj := HSZ.out Xs[j + 1] (List.getElem_mem (by omega))
            have hl1 := HJL.out (j + 1)
            have HST := Lib.hid (joinX_step (Xs := Xs) (k := j + 1) (by omega) (by omega))
            clear hcj
            go_wp2_with fail
            refine (writeString_any w.heap.size w.heap.size _ _ _ hI3 (by rw [Lib.byteCells_length]; show _ + 1 ≤ _; omega) hbs).mono ?_
            rintro e w5 ⟨rfl, hI5, hb5⟩
            have hB5 := hb.trans hb5
            rw [Lib.strCells_eq, ← Lib.byteCells_append] at hI5
            go_wp2_with fail
            refine (writeString_any w.heap.size w.heap.size _ _ _ hI5 (by rw [Lib.byteCells_length, List.length_append]; show _ + 1 + _ ≤ _; omega) hB5.size).mono ?_
            rintro e w6 ⟨rfl, hI6, hb6⟩
            rw [Lib.strCells_eq, ← Lib.byteCells_append] at hI6
            have hI7 : Lib.IsBuilder 113 5 w.heap.size w.heap.size (Lib.byteCells (joinX (dataX (Xs.take (j + 1 + 1))))) w6 := by rw [HST.out]; exact hI6
            clear hI5 hI6
            go_wp2
            go_roundw
            case rel => exact ⟨j + 1, by omega, by go_num, hI7, hB5.trans hb6⟩
            case measure => simp [intOf]; omega
          · obtain rfl : j = p := by omega
            rw [← hp, List.take_length] at hI3
            go_wp2_with fail
            refine (Tryz.Builder_String_any w.heap.size w.heap.size _ _ hI3 hbs).mono ?_
            rintro e w5 ⟨rfl, hb5⟩
            go_wp2
            go_ret
            exact ⟨rfl, hb.trans hb5⟩
def fitsL (xs : List Int) : Bool := decide (xs.length ≤ 64) && xs.all (fun x => inB x (-1000000000000) 1000000000000)
def listT (xs : List Int) : ByteArray := if fitsL xs then listS xs else ⟨#[]⟩
def decL (xs : List Int) : List ByteArray := xs.map decS
theorem decL_data (xs : List Int) : dataX (decL xs) = xs.map Lib.itoa := by
  unfold dataX decL; rw [List.map_map]; congr 1
theorem infoStrL : (Tryz.prog.info? 9).map (fun i => (i.zero, i.size, i.bytes)) = some (some (.string ⟨#[]⟩), 1, 16) := by kernel_rfl
theorem own_made {α : Type} {E : Flat α} {w : World} {base : Nat} (hb : base ≤ w.heap.size) {e : TypeId} {z : Array Value} {c : Nat} (hc : c ≤ 9223372036854775807) :
    Own E (w.alloc (.cells (madeCells z (c * E.n)) e)) base e (.slice (some ⟨w.heap.size, 0, none⟩) 0 c) [] := by
  refine ⟨by simp, .inr ⟨w.heap.size, c, madeCells z (c * E.n), rfl, hb, heap_alloc_new w _, Nat.zero_le _, by unfold maxLen; exact hc, size_madeCells _ _, ?_⟩⟩
  simp
set_option maxRecDepth 100000 in
set_option maxHeartbeats 4000000 in
theorem ListText_any (v : Value) (xs : List Int) (fp : List Nat) (w : World) (hx : Sl fInt.cod w v xs fp) (ht : Tab10 w) :
    Calls Tryz.prog 99 #[v] w fun e w' => e = .returned (.string (listT xs)) ∧ Below w.heap.size w w' := by
  obtain ⟨A, cap, rfl, hle, hca⟩ := hx.form
  obtain ⟨i0, hi, hz0, hz1, hz2⟩ := info_parts infoStrL
  have hoks := hx.oks
  by_cases h64 : xs.length ≤ 64
  · rcases Nat.eq_zero_or_pos xs.length with h0 | h0
    · obtain rfl := List.eq_nil_of_length_eq_zero h0
      go_enter Tryz.func99, Tryz.ntmps99
      go_wp2
      go_ret
      exact ⟨rfl, Below.refl _ _⟩
    · have e0 : ((xs.length : Int) == 0) = false := by rw [beq_eq_false_iff_ne]; omega
      have hne : ¬ xs = [] := by intro e; subst e; simp at h0
      have HN := Lib.hid hne
      have hmk : ∀ W : World, (Instr.makeSlice 37 (.int .i64 0) (.int .i64 (xs.length : Int))).run Tryz.prog W = .ok (.slice (some ⟨W.heap.size, 0, none⟩) 0 xs.length) (W.alloc (.cells (madeCells (Value.string ⟨#[]⟩).cells (xs.length * i0.size)) 9)) := fun W => run_make_rowN (P := Tryz.prog) 37 9 i0 _ Tryz.underlying37 hi hz0 .i64 .i64 0 xs.length (Nat.zero_le _) (by rw [hz2]; omega) (by omega) W
      rw [hz1] at hmk
      have hB0 : Below w.heap.size w (w.alloc (.cells (madeCells #[Value.string ⟨#[]⟩] xs.length) 9)) := (Below.refl _ _).alloc (Nat.le_refl _) _
      have hO0 : Own fStr (w.alloc (.cells (madeCells #[Value.string ⟨#[]⟩] xs.length) 9)) w.heap.size 9 (.slice (some ⟨w.heap.size, 0, none⟩) 0 xs.length) (decL (xs.take 0)) := by
        have h := own_made (E := fStr) (w := w) (base := w.heap.size) (e := 9) (z := #[Value.string ⟨#[]⟩]) (c := xs.length) (Nat.le_refl _) (by omega)
        rw [show xs.length * fStr.n = xs.length from Nat.mul_one _] at h
        exact h
      clear hne
      go_enter Tryz.func99, Tryz.ntmps99
      go_wp2
      go_loopw [3, 17] (fun v i wr => ∃ k : Nat, k ≤ xs.length ∧ i = .int .i64 k ∧ Hid ((xs.take k).all (fun x => inB x (-1000000000000) 1000000000000) = true) ∧ Own fStr wr w.heap.size 9 v (decL (xs.take k)) ∧ Below w.heap.size w wr) (fun _ i _ => xs.length - (intOf i).toNat)
      case atStart => exact ⟨0, Nat.zero_le _, rfl, rfl, hO0, hB0⟩
      case round =>
        obtain ⟨k, hk, rfl, HA, ho, hb⟩ := hrel
        by_cases hlt : k < xs.length
        · obtain ⟨b, off, rfl, _, hok, hc, _⟩ := (hx.below' hb).cell1 rfl hlt rfl
          obtain ⟨hk0, hk1⟩ : -9223372036854775808 ≤ xs[k] ∧ xs[k] ≤ 9223372036854775807 := hok
          cases hin : inB xs[k] (-1000000000000) 1000000000000
          · have hno : listT xs = ⟨#[]⟩ := by
              unfold listT fitsL
              rw [if_neg]
              intro h
              simp only [Bool.and_eq_true] at h
              have := List.all_eq_true.1 h.2 xs[k] (List.getElem_mem hlt)
              rw [hin] at this; cases this
            have HNO := Lib.hid hno
            clear hno ho
            go_wp2_with (go_at_call 26; refine (withinB_any _ _ _ _).mono ?_; rintro e w' ⟨rfl, rfl⟩)
            go_ret
            exact ⟨by rw [HNO.out]; rfl, hb⟩
          · have HA2 : Hid ((xs.take (k + 1)).all (fun x => inB x (-1000000000000) 1000000000000) = true) := by
              show _ = _
              rw [List.take_succ_eq_append_getElem hlt, List.all_append, HA.out]; simp [hin]
            have hst := take_map_step decS hlt
            have HST : Hid (decL (xs.take (k + 1)) = decL (xs.take k) ++ [decS xs[k]]) := hst
            have hkl : (decL (xs.take k)).length ≤ 64 := by unfold decL; rw [List.length_map, List.length_take]; omega
            clear hst
            go_wp2_with (go_at_call 26; refine (withinB_any _ _ _ _).mono ?_; rintro e w' ⟨rfl, rfl⟩)
            refine (Decimal_any xs[k] _ hk0 hk1 (ht.below hb)).mono ?_
            rintro e w2 ⟨rfl, hb2⟩
            have hB2 := hb.trans (hb2.mono hb.size)
            have ho3 : w2.ownsRow w.heap.size 9 1 u3 (decL (xs.take k)).length ((decL (xs.take k)).flatMap fStr.enc) := ho.below hb2
            have hs2 := hB2.size
            clear ho
            go_wp2_with (at_builtin; refine wpList_append_one rfl _ _ 37 rfl w.heap.size 9 i0 (.string ⟨#[]⟩) 1 16 Tryz.underlying37 hi hz0 hz1 hz2 rfl (by decide) u3 (decL (xs.take k)).length _ rfl ho3 [.string (decS xs[k])] rfl (by intro u hu; rw [List.mem_singleton] at hu; subst hu; rfl) rfl (by omega) (by decide) hs2 ?_)
            intro v' u hown hbu _ _
            have hbu' := hB2.trans hbu
            have ho4 : Own fStr u w.heap.size 9 v' (decL (xs.take (k + 1))) := by rw [HST.out]; exact Own.push _ rfl hown
            clear hown
            go_wp2
            go_roundw
            case rel => exact ⟨k + 1, by omega, by go_num, HA2, ho4, hbu'⟩
            case measure => simp [intOf]; omega
        · have hke : k = xs.length := by omega
          subst hke
          rw [List.take_length] at ho
          have hyes : listT xs = joinS (decL xs) := by
            have h := HA.out
            rw [List.take_length] at h
            unfold listT fitsL
            rw [decide_eq_true h64, h, if_pos (by rfl)]
            unfold listS joinS
            rw [if_neg HN.out, decL_data]
          have HY := Lib.hid hyes
          have hds : ∀ y ∈ decL xs, y.size ≤ 1000 := by
            intro y hy
            unfold decL at hy
            obtain ⟨x, hxm, rfl⟩ := List.mem_map.1 hy
            rw [decS_size]
            have := itoaL_len (hoks x hxm)
            omega
          obtain ⟨fpy, hsy, _, _⟩ := Sl.of_own (n := (decL xs).length) rfl ho (fun y hy => by have := hds y hy; show y.size ≤ 9223372036854775807; omega)
          have hdl : (decL xs).length ≤ 1000 := by unfold decL; rw [List.length_map]; omega
          clear ho hyes
          go_wp2_with fail
          refine (join_any _ (decL xs) fpy _ hsy hdl hds).mono ?_
          rintro e w2 ⟨rfl, hb2⟩
          go_wp2
          go_ret
          exact ⟨by rw [HY.out]; rfl, hb.trans (hb2.mono hb.size)⟩
  · have hno : listT xs = ⟨#[]⟩ := by unfold listT fitsL; rw [decide_eq_false h64]; rfl
    have HNO := Lib.hid hno
    clear hno
    go_enter Tryz.func99, Tryz.ntmps99
    go_wp2
    go_ret
    exact ⟨by rw [HNO.out]; rfl, Below.refl _ _⟩
theorem listT_size {xs : List Int} (h : ∀ x ∈ xs, fInt.ok x) (hl : xs.length ≤ 1000) : (listT xs).size ≤ 22001 := by
  unfold listT; split
  · have := listS_size h; omega
  · show 0 ≤ _; omega
set_option maxRecDepth 100000 in
set_option maxHeartbeats 2000000 in
theorem withId_any (id_ : ByteArray) (v : Value) (xs : List Int) (fp : List Nat) (w : World) (hx : Sl fInt.cod w v xs fp) (hl : xs.length ≤ 1000) (hid : id_.size ≤ 1048576) (ht : Tab10 w) :
    Calls Tryz.prog 79 #[.string id_, v] w fun e w' => e = .returned (.string (id_ ++ ⟨#[32]⟩ ++ listT xs)) ∧ Below w.heap.size w w' := by
  have hls := listT_size hx.oks hl
  have h1 : (id_ ++ ⟨#[32]⟩).size ≤ 1048577 := by rw [ByteArray.size_append]; show _ + 1 ≤ _; omega
  go_enter Tryz.func79, Tryz.ntmps79
  go_wp2_with fail
  refine (ListText_any v xs fp _ hx ht).mono ?_
  rintro e w1 ⟨rfl, hb⟩
  obtain ⟨T, hT⟩ : ∃ T, T = listT xs := ⟨_, rfl⟩
  rw [← hT] at hls ⊢
  have HT := Lib.hid hT
  clear hT
  go_wp2
  go_ret
  exact ⟨ret_str (by rw [HT.out]), hb⟩
def gtN (x : DGate) : List Int := [x.shut, x.open_, x.hold]
def gtS (x : DGate) : ByteArray := if x.shuts then x.id ++ ⟨#[32]⟩ ++ listS (gtN x) ++ ⟨#[32, 115, 104, 117, 116, 32]⟩ ++ decS x.calm else x.id ++ ⟨#[32]⟩ ++ listS (gtN x) ++ ⟨#[32, 111, 112, 101, 110]⟩
theorem gateB_parts {x : DGate} (h : gateB x = true) : x.id.size ≤ 10 ∧ (1 ≤ x.shut ∧ x.shut ≤ 1000) ∧ (0 ≤ x.open_ ∧ x.open_ ≤ x.shut) ∧ (1 ≤ x.hold ∧ x.hold ≤ 48) ∧ (0 ≤ x.calm ∧ x.calm ≤ x.hold - 1) := by
  unfold gateB inB nameB at h
  simp only [Bool.and_eq_true, decide_eq_true_eq] at h
  obtain ⟨⟨⟨⟨⟨h1, h2⟩, h3⟩, h4⟩, h5⟩, _⟩ := h
  exact ⟨h1.1.1, h2, h3, h4, h5⟩
theorem gtN_ok {x : DGate} (h : gateB x = true) : ∀ y ∈ gtN x, fInt.ok y := by
  obtain ⟨_, h1, h2, h3, _⟩ := gateB_parts h
  intro y hy
  unfold gtN at hy
  simp at hy
  rcases hy with rfl | rfl | rfl <;> (show _ ∧ _; omega)
theorem gtN_fits {x : DGate} (h : gateB x = true) : listT (gtN x) = listS (gtN x) := by
  obtain ⟨_, h1, h2, h3, _⟩ := gateB_parts h
  unfold listT
  rw [if_pos]
  unfold fitsL gtN inB
  simp
  omega
theorem gtS_size {x : DGate} (h : gateB x = true) : (gtS x).size ≤ 200 := by
  have h0 := (gateB_parts h).1
  have h1 := listS_size (gtN_ok h)
  have h2 : (decS x.calm).size ≤ 21 := by rw [decS_size]; obtain ⟨_, _, _, _, h5⟩ := gateB_parts h; obtain ⟨_, _, _, h4, _⟩ := gateB_parts h; exact itoa_len20 (by omega) (by omega)
  have h3 : (gtN x).length = 3 := rfl
  unfold gtS
  split
  · simp only [ByteArray.size_append]
    show x.id.size + 1 + _ + 6 + _ ≤ _; omega
  · simp only [ByteArray.size_append]
    show x.id.size + 1 + _ + 5 ≤ _; omega
set_option maxRecDepth 100000 in
set_option maxHeartbeats 4000000 in
theorem GateText_any (x : DGate) (w : World) (hok : fGate.ok x) (hv : gateB x = true) (ht : Tab10 w) :
    Calls Tryz.prog 59 #[.agg #[.string x.id, .int .i64 x.shut, .int .i64 x.open_, .int .i64 x.hold, .bool x.shuts, .int .i64 x.calm]] w fun e w' => e = .returned (.string (gtS x)) ∧ Below w.heap.size w w' := by
  obtain ⟨hi10, ⟨hp1, hp2⟩, ⟨hp3, hp4⟩, ⟨hp5, hp6⟩, ⟨hp7, hp8⟩⟩ := gateB_parts hv
  have hls := listS_size (gtN_ok hv)
  have hl3 : (gtN x).length = 3 := rfl
  rw [hl3] at hls
  have hd21 : (decS x.calm).size ≤ 21 := by rw [decS_size]; exact itoa_len20 (by omega) (by omega)
  have s1 : (x.id ++ ⟨#[32]⟩).size ≤ 11 := by rw [ByteArray.size_append]; show _ + 1 ≤ _; omega
  have s2 : (x.id ++ ⟨#[32]⟩ ++ listS (gtN x)).size ≤ 78 := by rw [ByteArray.size_append]; omega
  have s3 : (x.id ++ ⟨#[32]⟩ ++ listS (gtN x) ++ ⟨#[32, 115, 104, 117, 116, 32]⟩).size ≤ 84 := by rw [ByteArray.size_append]; show _ + 6 ≤ _; omega
  have HT : Hid (gtS x = if x.shuts then x.id ++ ⟨#[32]⟩ ++ listS (gtN x) ++ ⟨#[32, 115, 104, 117, 116, 32]⟩ ++ decS x.calm else x.id ++ ⟨#[32]⟩ ++ listS (gtN x) ++ ⟨#[32, 111, 112, 101, 110]⟩) := rfl
  have HV := Lib.hid hv
  have HGT := Lib.hid (gtN_fits hv)
  have hbx := PGate.box w x 61
  obtain ⟨c0, c1, c2, c3, c4, c5⟩ := id hbx
  go_enter Tryz.func59, Tryz.ntmps59
  go_wp2_with fail
  refine (gateValid_any x _ hok).mono ?_
  rintro e w1 ⟨rfl, hb1⟩
  have hp := hbx.below' hb1
  have hB1 : Below w.heap.size w w1 := ((Below.refl _ _).alloc (Nat.le_refl _) _).trans (hb1.mono (by simp))
  have ht1 := ht.below hB1
  rw [HV.out]
  clear c0 c1 c2 c3 c4 c5 hbx
  obtain ⟨c0, c1, c2, c3, c4, c5⟩ := id hp
  cases hsh : x.shuts
  · rw [hsh] at c4 HT
    rw [if_neg (by simp)] at HT
    have hsl : Sl fInt.cod (w1.alloc (.cells #[.int .i64 x.shut, .int .i64 x.open_, .int .i64 x.hold] 2)) (.slice (some ⟨w1.heap.size, 0, none⟩) 3 3) (gtN x) [w1.heap.size] := Sl.lit2 (E := fInt) w1 (gtN x) _ _ rfl (gtN_ok hv) (by show 0 < 3; decide) (by show 3 ≤ _; decide)
    have hB2 : Below w.heap.size w (w1.alloc (.cells #[.int .i64 x.shut, .int .i64 x.open_, .int .i64 x.hold] 2)) := hB1.alloc hB1.size _
    go_wp2_with fail
    refine (withId_any x.id _ (gtN x) _ _ hsl (by show 3 ≤ _; decide) (by omega) (ht.below hB2)).mono ?_
    rintro e w2 ⟨rfl, hb2⟩
    rw [HGT.out]
    clear hsl
    generalize listS (gtN x) = LS at *
    go_wp2
    go_ret
    exact ⟨ret_str HT.out.symm, hB2.trans (hb2.mono hB2.size)⟩
  · rw [hsh] at c4 HT
    rw [if_pos rfl] at HT
    go_wp2
    have gc0 := cell_regrown c0
    have gc1 := cell_regrown c1
    have gc2 := cell_regrown c2
    have gc3 := cell_regrown c3
    have gc4 := cell_regrown c4
    have gc5 := cell_regrown c5
    refine wp_region_mixed [0, 1, 2, 3, 4, 5, 6, 7, 11, 12, 8, 9, 10, 13, 14, 15] (C := fun w' => ∃ p : Regrown, w' = Go.Sort.grow (redrawn w1 p.d) p.os) [true, true, true, true, true, true, true, true, true, true, false, false, true, false, true, true] (by kernel_rfl) (by kernel_rfl) (by kernel_rfl) (fun _ _ d _ _ h => by cases d <;> exact h) (regrown_of_below (Below.drew (Below.refl _ _))) ?_
    simp only [List.map_cons, List.map_nil, List.getD_cons_zero, List.getD_cons_succ]
    have hS0 : Below (w1.heap.size) w1 w1.drew := Below.drew (Below.refl _ _)
    refine wpMix_pure (by kernel_rfl) (fun K hK => ?_)
    go_big_quiet_op
    refine hK _ ?_; clear hK K
    refine wpMix_pure (by kernel_rfl) (fun K hK => ?_)
    go_big_quiet_op
    refine hK _ ?_; clear hK K
    refine wpMix_pure (by kernel_rfl) (fun K hK => ?_)
    go_big_quiet_op
    refine hK _ ?_; clear hK K
    refine wpMix_pure (by kernel_rfl) (fun K hK => ?_)
    go_big_quiet_op
    refine hK _ ?_; clear hK K
    refine wpMix_pure (by kernel_rfl) (fun K hK => ?_)
    go_big_quiet_op
    refine hK _ ?_; clear hK K
    refine wpMix_pure (by kernel_rfl) (fun K hK => ?_)
    go_big_quiet_op
    refine hK _ ?_; clear hK K
    refine wpMix_pure (by kernel_rfl) (fun K hK => ?_)
    go_big_quiet_op
    refine hK _ ?_; clear hK K
    refine wpMix_pure (by kernel_rfl) (fun K hK => ?_)
    go_big_quiet_op
    refine hK _ ?_; clear hK K
    refine wpMix_pure (by kernel_rfl) (fun K hK => ?_)
    go_big_quiet_op
    refine hK _ ?_; clear hK K
    refine wpMix_pure (by kernel_rfl) (fun K hK => ?_)
    go_big_quiet_op
    refine hK _ ?_; clear hK K
    refine wpMix_act (by kernel_rfl) (fun K hK => ?_)
    go_big_op
    refine hK _ _ (regrown_of_below (hS0.alloc hS0.size _)) ?_
    clear hK K
    refine mix_world (fun N => Below (w1.heap.size) w1 N ∧ Sl fInt.cod N (.slice (some ⟨w1.drew.heap.size, 0, none⟩) 3 3) (gtN x) [w1.drew.heap.size]) ⟨hS0.alloc hS0.size _, Sl.lit2 (E := fInt) w1.drew (gtN x) _ _ rfl (gtN_ok hv) (by show 0 < 3; decide) (by show 3 ≤ _; decide)⟩ ?_
    rintro wr1 ⟨hbr1S, hbr1F⟩
    refine wpMix_act (by kernel_rfl) (fun K hK => ?_)
    go_big_op
    refine (withId_any x.id _ (gtN x) _ _ hbr1F (by show 3 ≤ _; decide) (by omega) (ht1.below hbr1S)).mono ?_
    rintro e wr2 ⟨rfl, hbr2⟩
    have hbr2S : Below (w1.heap.size) w1 wr2 := hbr1S.trans (hbr2.mono hbr1S.size)
    refine hK _ _ (regrown_of_below hbr2S) ?_
    clear hK K
    rw [HGT.out]
    clear hbr1F
    generalize listS (gtN x) = LS at *
    refine wpMix_pure (by kernel_rfl) (fun K hK => ?_)
    go_big_quiet_op
    refine hK _ ?_; clear hK K
    refine wpMix_act (by kernel_rfl) (fun K hK => ?_)
    go_big_op
    refine (Decimal_any x.calm _ (by omega) (by omega) (ht1.below hbr2S)).mono ?_
    rintro e wr3 ⟨rfl, hbr3⟩
    have hbr3S : Below (w1.heap.size) w1 wr3 := hbr2S.trans (hbr3.mono hbr2S.size)
    refine hK _ _ (regrown_of_below hbr3S) ?_
    clear hK K
    refine wpMix_pure (by kernel_rfl) (fun K hK => ?_)
    go_big_quiet_op
    refine hK _ ?_; clear hK K
    refine wpMix_pure (by kernel_rfl) (fun K hK => ?_)
    go_big_quiet_op
    refine hK _ ?_; clear hK K
    refine wpMix_nil ?_
    go_wp2
    go_ret
    exact ⟨ret_str HT.out.symm, hB1.trans ((hbr3S).mono hB1.size)⟩

end Go.Proofs.YtaaholabodchaaaGreatDoor
