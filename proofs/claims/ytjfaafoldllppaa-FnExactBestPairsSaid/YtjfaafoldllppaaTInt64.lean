
/- Int64: the data, its cells; the given helpers over it. Written by wip/gentype.py. -/
import Derived.Test.YtjfaafoldllppaaMark
namespace Go.Proofs.Ytjfaafoldllppaa
open Go.RowKit
set_option linter.unusedVariables false

def totInt64S (xs : List Int) : Nat := xs.length



set_option maxRecDepth 100000 in
set_option maxHeartbeats 400000 in
theorem eqInt64S_any (v v' : Value) (xs : List Int) (fp fp' : List Nat) (w : World) (hx : Sl fInt.cod w v xs fp) (hy : Sl fInt.cod w v' xs fp') :
    Calls Try.prog 34 #[v, v'] w fun e w' => YesR w e w' := by
  obtain ⟨A, cap, rfl, hlen, hcap⟩ := hx.form
  obtain ⟨A', cap', rfl, hlen', hcap'⟩ := hy.form
  go_enter Try.func34, Try.ntmps34
  go_wp2
  go_loopw [5] (fun i wr => ∃ k : Nat, k ≤ xs.length ∧ i = .int .i64 k ∧ ∃ n, wr = w.drewN n) (fun i _ => xs.length - (intOf i).toNat)
  case atStart => exact ⟨0, Nat.zero_le _, rfl, 0, rfl⟩
  case round =>
    obtain ⟨k, hk, rfl, n, rfl⟩ := hrel
    by_cases hlt : k < xs.length
    · obtain ⟨b, off, rfl, _, hok, hc, _⟩ := hx.cell1 rfl hlt rfl
      obtain ⟨b', off', rfl, _, hok', hc', _⟩ := hy.cell1 rfl hlt rfl
      go_wp2
      go_quiet (fail)
      go_wp2
      go_roundw
      case rel => exact ⟨k + 1, by omega, by go_num, _, rfl⟩
      case measure => simp [intOf]; omega
    · go_wp2
      go_ret
      exact ⟨rfl, below_drewN (Below.refl _ _) _⟩

def mkInt64 (k : Int) : Int := k
def marksInt64 (k : Int) (n : Nat) : List Int := (List.range n).map fun (i : Nat) => mkInt64 (k + 1 * (i : Int))

theorem marksInt64_get (k0 : Int) (n i : Nat) (h : i < (marksInt64 k0 n).length) : (marksInt64 k0 n)[i] = mkInt64 (k0 + 1 * (i : Int)) := by
  simp [marksInt64]
theorem marksInt64_len (k0 : Int) (n : Nat) : (marksInt64 k0 n).length = n := by simp [marksInt64]

set_option maxRecDepth 100000 in
set_option maxHeartbeats 2000000 in
theorem markInt64S_any (v : Value) (xs : List Int) (fp : List Nat) (k0 : Int) (w : World) (hx : Sl fInt.cod w v xs fp) (h0 : 0 ≤ k0) (h1 : k0 + 1 * (xs.length : Int) ≤ 1000000000000) :
    Calls Try.prog 37 #[v, .int .i64 k0] w fun e w' => MarkR fInt.cod fp w (k0 + 1 * (xs.length : Int)) v (marksInt64 k0 xs.length) e w' := by
  obtain ⟨A, cap, rfl, hlen, hcap⟩ := hx.form
  by_cases hne : xs.length = 0
  · have : xs = [] := List.eq_nil_of_length_eq_zero hne
    subst this
    go_enter Try.func37, Try.ntmps37
    go_wp2
    go_loop [1, 5] (fun n i => i = .int .i64 0 ∧ n = .int .i64 k0) (fun _ _ => 0)
    case atStart => exact ⟨rfl, rfl⟩
    case round =>
      obtain ⟨rfl, rfl⟩ := hrel
      go_wp2
      go_ret
      exact ⟨ret_int (by simp), hx, .refl _ _⟩
  · obtain ⟨b, off, rfl, rfl, hbs, hcs0⟩ := hx.cells (by omega)
    go_enter Try.func37, Try.ntmps37
    go_wp2
    go_loopw [1, 5] (fun n i wr => ∃ k : Nat, k ≤ xs.length ∧ i = .int .i64 k ∧ ∃ q : Int, n = .int .i64 q ∧ 0 ≤ q ∧ Hid (q = k0 + 1 * (k : Int)) ∧ Cells wr b off (((List.range k).map fun (i : Nat) => mkInt64 (k0 + 1 * (i : Int))).flatMap fInt.enc ++ (xs.drop k).flatMap fInt.enc) ∧ Only [b] w wr) (fun _ i _ => xs.length - (intOf i).toNat)
    case atStart => exact ⟨0, Nat.zero_le _, rfl, k0, rfl, h0, by show _ = _; simp, by simpa using hcs0, .refl _ _⟩
    case round =>
      obtain ⟨k, hk, rfl, q, rfl, hq0, HQ, hcs, ho⟩ := hrel
      by_cases hlt : k < xs.length
      · have hq1 : q + 1 ≤ 1000000000000 := by have := HQ.out; omega
        have HC : Cells wr b off (((List.range k).map fun (i : Nat) => mkInt64 (k0 + 1 * (i : Int))).flatMap fInt.enc ++ ((.int .i64 xs[k] : Value) :: (xs.drop (k + 1)).flatMap fInt.enc)) := by
          have := hcs
          rw [List.drop_eq_getElem_cons hlt, List.flatMap_cons] at this
          exact this
        generalize HP : ((List.range k).map fun (i : Nat) => mkInt64 (k0 + 1 * (i : Int))).flatMap fInt.enc = pre at *
        have HL : pre.length = k * 1 := by rw [← HP, flat_len fInt.enc 1 _ (fun _ _ => rfl)]; simp
        generalize HR : (xs.drop (k + 1)).flatMap fInt.enc = post at *
        have HPH := Lib.hid HP
        clear HP hcs
        have HRH := Lib.hid HR
        clear HR
        have HLH := Lib.hid HL
        clear HL
        have hu0 := HC.at_mid (m := k * 1) (j := 0) (p := off + k) HLH.out (by omega) (by simp) rfl
        have hz0 := HC.free_mid (m := k * 1) (j := 0) (p := off + k) HLH.out (by omega) (by simp)
        go_wp2
        have HC0 := HC.put (m := k * 1) (j := 0) (p := off + k) HLH.out (by omega) (by simp) (.int .i64 (q))
        have ho_ := ho.set (off + k) (.int .i64 (q))
        clear hu0 hz0 ho
        have ho := ho_
        clear ho_
        clear HC
        go_roundw
        case rel => exact ⟨k + 1, by omega, by go_num, q + 1, by go_num, by omega, by have := HQ.out; show _ = _; omega, marks_step (f := fun (i : Nat) => mkInt64 (k0 + 1 * (i : Int))) HPH.out HRH.out (by rw [← HQ.out] <;> rfl) HC0, ho⟩
        case measure => simp [intOf]; omega
      · have hk' : k = xs.length := by omega
        subst hk'
        rw [List.drop_length, List.flatMap_nil, List.append_nil] at hcs
        go_wp2
        go_ret
        have hsz := ho.size
        have hm := Sl.of_cells (E := fInt) (cap := cap) (xs := marksInt64 k0 xs.length) (by rw [marksInt64_len]; exact hlen) hcap (by omega) hcs (by intro x hx; simp [marksInt64] at hx; obtain ⟨i, hi, rfl⟩ := hx; exact (by simp only [fInt, mkInt64]; omega)) (by rw [marksInt64_len]; omega)
        rw [marksInt64_len] at hm
        exact ⟨ret_int HQ.out, hm, ho⟩

set_option maxRecDepth 100000 in
set_option maxHeartbeats 2000000 in
theorem heldInt64S_any (v : Value) (n0 : Nat) (fp : List Nat) (k0 : Int) (w : World) (hx0 : Sl fInt.cod w v (marksInt64 k0 n0) fp) (h0 : 0 ≤ k0) (h1 : k0 + 1 * (n0 : Int) ≤ 1000000000000) :
    Calls Try.prog 38 #[v, .int .i64 k0] w fun e w' => e = .returned (.int .i64 (k0 + 1 * (n0 : Int))) ∧ Below w.heap.size w w' := by
  have hn0 : (marksInt64 k0 n0).length = n0 := marksInt64_len _ _
  obtain ⟨xs, hxs⟩ : ∃ xs, xs = marksInt64 k0 n0 := ⟨_, rfl⟩
  rw [← hxs] at hx0 hn0
  have hx := hx0
  clear hx0
  rw [← hn0] at h1
  have HN := Lib.hid hn0
  clear hn0
  have HXS := Lib.hid hxs
  clear hxs
  obtain ⟨A, cap, rfl, hlen, hcap⟩ := hx.form
  go_enter Try.func38, Try.ntmps38
  go_wp2
  go_loopw [1, 5] (fun n i wr => ∃ k : Nat, k ≤ xs.length ∧ i = .int .i64 k ∧ ∃ q : Int, n = .int .i64 q ∧ 0 ≤ q ∧ Hid (q = k0 + 1 * (k : Int)) ∧ Below w.heap.size w wr) (fun _ i _ => xs.length - (intOf i).toNat)
  case atStart => exact ⟨0, Nat.zero_le _, rfl, k0, rfl, h0, by show _ = _; omega, Below.refl _ _⟩
  case round =>
    obtain ⟨k, hk, rfl, q, rfl, hq0, HQ, hb⟩ := hrel
    by_cases hlt : k < xs.length
    · have hq1 : q + 1 ≤ 1000000000000 := by have := HQ.out; omega
      obtain ⟨b, off, rfl, _⟩ := hx.at_ hlt
      have hget : xs[k] = mkInt64 (k0 + 1 * (k : Int)) := by
        have hxs := HXS.out
        subst hxs
        exact marksInt64_get _ _ _ _
      rw [← HQ.out] at hget
      have HG := Lib.hid hget
      clear hget
      have hc0 : wr.cell? ⟨b, off + k, none⟩ = some (.int .i64 (q)) := by
        have h := (hx.below' hb).atk hlt (j := 0) (by decide)
        rw [HG.out, show off + k * fInt.n + 0 = off + k from by (show off + k * 1 + 0 = _); omega] at h
        exact h
      go_wp2
      go_roundw
      case rel => exact ⟨k + 1, by omega, by go_num, q + 1, by go_num, by omega, by have := HQ.out; show _ = _; omega, hb⟩
      case measure => simp [intOf]; omega
    · have hk' : k = xs.length := by omega
      go_wp2
      go_ret
      exact ⟨ret_int (by rw [HQ.out, hk', HN.out]), hb⟩

end Go.Proofs.Ytjfaafoldllppaa
