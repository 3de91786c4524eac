/- String: the data, its cells; the given helpers over it. Written by wip/gentype.py. -/
import Derived.Test.YthejcbhplgjmgaaMark
namespace Go.Proofs.Ythejcbhplgjmgaa
open Go.RowKit
set_option linter.unusedVariables false

def totString (x : ByteArray) : Nat := x.size
def totStringS (xs : List ByteArray) : Nat := xs.length + (xs.map totString).sum

set_option maxRecDepth 100000 in
set_option maxHeartbeats 1000000 in
theorem szStringS_any (v : Value) (xs : List ByteArray) (fp : List Nat) (left : Int) (w : World) (hx : Sl fStr.cod w v xs fp) (h0 : 0 ≤ left) (h1 : left ≤ 1048576) :
    Calls Try.prog 13 #[v, .int .i64 left] w fun e w' => SzR left (totStringS xs) w e w' := by
  obtain ⟨A, cap, rfl, hlen, hcap⟩ := hx.form
  by_cases hl : left - (xs.length : Int) < 0
  · go_enter Try.func13, Try.ntmps13
    go_wp2
    go_ret
    exact .no (Below.refl _ _)
  · go_enter Try.func13, Try.ntmps13
    go_wp2
    go_loopw [1, 5] (fun l i wr => ∃ k : Nat, k ≤ xs.length ∧ i = .int .i64 k ∧ Below w.heap.size w wr ∧ ∃ r : Int, l = .int .i64 r ∧ 0 ≤ r ∧ r + (xs.length + ((xs.take k).map totString).sum : Nat) = left) (fun _ i _ => xs.length - (intOf i).toNat)
    case atStart => exact ⟨0, Nat.zero_le _, rfl, Below.refl _ _, _, rfl, by omega, by simp⟩
    case round =>
      obtain ⟨k, hk, rfl, hb, r, rfl, hr0, hr⟩ := hrel
      have HR := Lib.hid hr
      clear hr
      have hr1 : r ≤ 1048576 := by have := HR.out; omega
      by_cases hlt : k < xs.length
      · obtain ⟨b, off, rfl, _, hok, hc, _⟩ := (hx.below' hb).at_ hlt
        have hc0 : wr.cell? ⟨b, off + k, none⟩ = some (.string xs[k]) := by have := hc 0 (by decide); rw [show off + k * fStr.n + 0 = off + k from by show off + k * 1 + 0 = _; omega] at this; exact this
        clear hc
        have hsz0 : xs[k].size ≤ 9223372036854775807 := hok
        by_cases hneg : r - (xs[k].size : Int) < 0
        · go_wp2
          go_ret
          exact .no hb
        · go_wp2
          go_roundw
          case rel => exact ⟨k + 1, by omega, by go_num, hb, _, rfl, by omega, by have := HR.out; have hst := sum_take_step_ totString xs k hlt; unfold totString at hst this ⊢; omega⟩
          case measure => simp [intOf]; omega
      · go_wp2
        go_ret
        exact .yes hr0 (by have := HR.out; rw [List.take_of_length_le (by omega)] at this; exact this) hb

theorem infoString : (Try.prog.info? 9).map (fun i => (i.zero, i.size, i.bytes)) = some (some (.string ⟨#[]⟩), 1, 16) := by kernel_rfl
set_option maxRecDepth 100000 in
set_option maxHeartbeats 1000000 in
theorem toStringS_any (v : Value) (xs : List ByteArray) (fp : List Nat) (w : World) (hx : Sl fStr.cod w v xs fp) (h1 : xs.length ≤ 1048576) :
    Calls Try.prog 15 #[v] w fun e w' => NewR fStr.cod w xs e w' := by
  obtain ⟨A, cap, rfl, hlen, hcap⟩ := hx.form
  obtain ⟨i0, hi, hz0, hz1, hz2⟩ := info_parts infoString
  have hmk := fun W => run_make_rowN (P := Try.prog) 54 9 i0 _ Try.underlying54 hi hz0 .i64 .i64 xs.length xs.length (Nat.le_refl _) (by rw [hz2]; omega) (by omega) W
  rw [hz1] at hmk
  go_enter Try.func15, Try.ntmps15
  go_wp2
  go_loopw [4] (fun i wr => ∃ k : Nat, k ≤ xs.length ∧ i = .int .i64 k ∧ Fill wr w.heap.size w.heap.size 9 1 xs.length ((xs.take k).flatMap fStr.enc) ∧ Below w.heap.size w wr) (fun i _ => xs.length - (intOf i).toNat)
  case atStart => exact ⟨0, Nat.zero_le _, rfl, Fill.start1 w _ _ _ (by omega), (Below.refl _ _).alloc (Nat.le_refl _) _⟩
  case round =>
    obtain ⟨k, hk, rfl, hf, hb⟩ := hrel
    by_cases hlt : k < xs.length
    · obtain ⟨b, off, rfl, _, hok, hc, _⟩ := (hx.below' hb).at_ hlt
      have hc0 : wr.cell? ⟨b, off + k, none⟩ = some (.string xs[k]) := by have := hc 0 (by decide); rw [show off + k * fStr.n + 0 = off + k from by show off + k * 1 + 0 = _; omega] at this; exact this
      clear hc
      obtain ⟨u, hu⟩ := hf.cell (j := k) (by omega)
      have hfz := hf.frozen k
      go_wp2
      go_roundw
      case rel => exact ⟨k + 1, by omega, by go_num, fill_step rfl hf hlt rfl, hb.setCell (Nat.le_refl _) _⟩
      case measure => simp [intOf]; omega
    · have hk' : k = xs.length := by omega
      subst hk'
      rw [List.take_length] at hf
      go_wp2
      go_ret
      exact ⟨_, rfl, Sl.of_own rfl (hf.done (flat_len _ 1 _ (fun _ _ => rfl))) hx.oks, hb⟩

set_option maxRecDepth 100000 in
set_option maxHeartbeats 400000 in
theorem eqStringS_any (v v' : Value) (xs : List ByteArray) (fp fp' : List Nat) (w : World) (hx : Sl fStr.cod w v xs fp) (hy : Sl fStr.cod w v' xs fp') :
    Calls Try.prog 18 #[v, v'] w fun e w' => YesR w e w' := by
  obtain ⟨A, cap, rfl, hlen, hcap⟩ := hx.form
  obtain ⟨A', cap', rfl, hlen', hcap'⟩ := hy.form
  go_enter Try.func18, Try.ntmps18
  go_wp2
  go_loopw [5] (fun i wr => ∃ k : Nat, k ≤ xs.length ∧ i = .int .i64 k ∧ ∃ n, wr = w.drewN n) (fun i _ => xs.length - (intOf i).toNat)
  case atStart => exact ⟨0, Nat.zero_le _, rfl, 0, rfl⟩
  case round =>
    obtain ⟨k, hk, rfl, n, rfl⟩ := hrel
    by_cases hlt : k < xs.length
    · obtain ⟨b, off, rfl, _, hok, hc, _⟩ := hx.cell1 rfl hlt rfl
      obtain ⟨b', off', rfl, _, hok', hc', _⟩ := hy.cell1 rfl hlt rfl
      go_wp2
      go_quiet (fail)
      go_wp2
      go_roundw
      case rel => exact ⟨k + 1, by omega, by go_num, _, rfl⟩
      case measure => simp [intOf]; omega
    · go_wp2
      go_ret
      exact ⟨rfl, below_drewN (Below.refl _ _) _⟩

def mkString (k : Int) : ByteArray := mt (k)
def marksString (k : Int) (n : Nat) : List ByteArray := (List.range n).map fun (i : Nat) => mkString (k + 1 * (i : Int))

theorem marksString_get (k0 : Int) (n i : Nat) (h : i < (marksString k0 n).length) : (marksString k0 n)[i] = mkString (k0 + 1 * (i : Int)) := by
  simp [marksString]
theorem marksString_len (k0 : Int) (n : Nat) : (marksString k0 n).length = n := by simp [marksString]

set_option maxRecDepth 100000 in
set_option maxHeartbeats 2000000 in
theorem markStringS_any (v : Value) (xs : List ByteArray) (fp : List Nat) (k0 : Int) (w : World) (hx : Sl fStr.cod w v xs fp) (h0 : 0 ≤ k0) (h1 : k0 + 1 * (xs.length : Int) ≤ 1000000000000) :
    Calls Try.prog 19 #[v, .int .i64 k0] w fun e w' => MarkR fStr.cod fp w (k0 + 1 * (xs.length : Int)) v (marksString k0 xs.length) e w' := by
  obtain ⟨A, cap, rfl, hlen, hcap⟩ := hx.form
  by_cases hne : xs.length = 0
  · have : xs = [] := List.eq_nil_of_length_eq_zero hne
    subst this
    go_enter Try.func19, Try.ntmps19
    go_wp2
    go_loop [1, 5] (fun n i => i = .int .i64 0 ∧ n = .int .i64 k0) (fun _ _ => 0)
    case atStart => exact ⟨rfl, rfl⟩
    case round =>
      obtain ⟨rfl, rfl⟩ := hrel
      go_wp2
      go_ret
      exact ⟨ret_int (by simp), hx, .refl _ _⟩
  · obtain ⟨b, off, rfl, rfl, hbs, hcs0⟩ := hx.cells (by omega)
    go_enter Try.func19, Try.ntmps19
    go_wp2
    go_loopw [1, 5] (fun n i wr => ∃ k : Nat, k ≤ xs.length ∧ i = .int .i64 k ∧ ∃ q : Int, n = .int .i64 q ∧ 0 ≤ q ∧ Hid (q = k0 + 1 * (k : Int)) ∧ Cells wr b off (((List.range k).map fun (i : Nat) => mkString (k0 + 1 * (i : Int))).flatMap fStr.enc ++ (xs.drop k).flatMap fStr.enc) ∧ Only [b] w wr) (fun _ i _ => xs.length - (intOf i).toNat)
    case atStart => exact ⟨0, Nat.zero_le _, rfl, k0, rfl, h0, by show _ = _; simp, by simpa using hcs0, .refl _ _⟩
    case round =>
      obtain ⟨k, hk, rfl, q, rfl, hq0, HQ, hcs, ho⟩ := hrel
      by_cases hlt : k < xs.length
      · have hq1 : q + 1 ≤ 1000000000000 := by have := HQ.out; omega
        have HC : Cells wr b off (((List.range k).map fun (i : Nat) => mkString (k0 + 1 * (i : Int))).flatMap fStr.enc ++ ((.string xs[k] : Value) :: (xs.drop (k + 1)).flatMap fStr.enc)) := by
          have := hcs
          rw [List.drop_eq_getElem_cons hlt, List.flatMap_cons] at this
          exact this
        generalize HP : ((List.range k).map fun (i : Nat) => mkString (k0 + 1 * (i : Int))).flatMap fStr.enc = pre at *
        have HL : pre.length = k * 1 := by rw [← HP, flat_len fStr.enc 1 _ (fun _ _ => rfl)]; simp
        generalize HR : (xs.drop (k + 1)).flatMap fStr.enc = post at *
        have HPH := Lib.hid HP
        clear HP hcs
        have HRH := Lib.hid HR
        clear HR
        have HLH := Lib.hid HL
        clear HL
        go_wp2_with fail
        refine (markText_any _ _ (by omega)).mono ?_
        rintro e w0 ⟨rfl, hbm⟩
        have HD0 := HC.keep (hbm.block b (by have := ho.size; simp at this ⊢; omega))
        have hoo := ho.trans (.of_below hbm)
        clear ho hbm HC
        have ho := hoo
        clear hoo
        have hu0 := HD0.at_mid (m := k * 1) (j := 0) (p := off + k) HLH.out (by omega) (by simp) rfl
        have hz0 := HD0.free_mid (m := k * 1) (j := 0) (p := off + k) HLH.out (by omega) (by simp)
        go_wp2
        have HC0 := HD0.put (m := k * 1) (j := 0) (p := off + k) HLH.out (by omega) (by simp) (.string (mt (q)))
        have ho_ := ho.set (off + k) (.string (mt (q)))
        clear hu0 hz0 ho
        have ho := ho_
        clear ho_
        clear HD0
        go_roundw
        case rel => exact ⟨k + 1, by omega, by go_num, q + 1, by go_num, by omega, by have := HQ.out; show _ = _; omega, marks_step (f := fun (i : Nat) => mkString (k0 + 1 * (i : Int))) HPH.out HRH.out (by rw [← HQ.out] <;> rfl) HC0, ho⟩
        case measure => simp [intOf]; omega
      · have hk' : k = xs.length := by omega
        subst hk'
        rw [List.drop_length, List.flatMap_nil, List.append_nil] at hcs
        go_wp2
        go_ret
        have hsz := ho.size
        have hm := Sl.of_cells (E := fStr) (cap := cap) (xs := marksString k0 xs.length) (by rw [marksString_len]; exact hlen) hcap (by omega) hcs (by intro x hx; simp [marksString] at hx; obtain ⟨i, hi, rfl⟩ := hx; exact mt_ok _ (by omega)) (by rw [marksString_len]; omega)
        rw [marksString_len] at hm
        exact ⟨ret_int HQ.out, hm, ho⟩

set_option maxRecDepth 100000 in
set_option maxHeartbeats 2000000 in
theorem heldStringS_any (v : Value) (n0 : Nat) (fp : List Nat) (k0 : Int) (w : World) (hx0 : Sl fStr.cod w v (marksString k0 n0) fp) (h0 : 0 ≤ k0) (h1 : k0 + 1 * (n0 : Int) ≤ 1000000000000) :
    Calls Try.prog 104 #[v, .int .i64 k0] w fun e w' => e = .returned (.int .i64 (k0 + 1 * (n0 : Int))) ∧ Below w.heap.size w w' := by
  have hn0 : (marksString k0 n0).length = n0 := marksString_len _ _
  obtain ⟨xs, hxs⟩ : ∃ xs, xs = marksString k0 n0 := ⟨_, rfl⟩
  rw [← hxs] at hx0 hn0
  have hx := hx0
  clear hx0
  rw [← hn0] at h1
  have HN := Lib.hid hn0
  clear hn0
  have HXS := Lib.hid hxs
  clear hxs
  obtain ⟨A, cap, rfl, hlen, hcap⟩ := hx.form
  go_enter Try.func104, Try.ntmps104
  go_wp2
  go_loopw [1, 5] (fun n i wr => ∃ k : Nat, k ≤ xs.length ∧ i = .int .i64 k ∧ ∃ q : Int, n = .int .i64 q ∧ 0 ≤ q ∧ Hid (q = k0 + 1 * (k : Int)) ∧ Below w.heap.size w wr) (fun _ i _ => xs.length - (intOf i).toNat)
  case atStart => exact ⟨0, Nat.zero_le _, rfl, k0, rfl, h0, by show _ = _; omega, Below.refl _ _⟩
  case round =>
    obtain ⟨k, hk, rfl, q, rfl, hq0, HQ, hb⟩ := hrel
    by_cases hlt : k < xs.length
    · have hq1 : q + 1 ≤ 1000000000000 := by have := HQ.out; omega
      obtain ⟨b, off, rfl, _⟩ := hx.at_ hlt
      have hget : xs[k] = mkString (k0 + 1 * (k : Int)) := by
        have hxs := HXS.out
        subst hxs
        exact marksString_get _ _ _ _
      rw [← HQ.out] at hget
      have HG := Lib.hid hget
      clear hget
      have hc0 : wr.cell? ⟨b, off + k, none⟩ = some (.string (mt (q))) := by
        have h := (hx.below' hb).atk hlt (j := 0) (by decide)
        rw [HG.out, show off + k * fStr.n + 0 = off + k from by (show off + k * 1 + 0 = _); omega] at h
        exact h
      have gc0 := cell_regrown hc0
      clear hc0
      have cq : ∀ d os, Calls Try.prog 103 #[.int .i64 (q)] (Go.Sort.grow (redrawn wr d) os) fun e w'' => e = .returned (.string (mt (q))) ∧ ∃ p : Regrown, w'' = Go.Sort.grow (redrawn wr p.d) p.os := fun d os => Calls.regrown_of (markText_any _ _ (by omega))
      go_wp2_with fail
      refine wp_region_quiet_below (by kernel_rfl) (by kernel_rfl) ?_
      repeat (quiet_step (exact cq _ _))
      refine wpQuiet_nil ?_
      intro _ hw'
      obtain ⟨⟨dq, osq⟩, hw''⟩ := hw'
      subst hw''
      have hbq := below_regrown wr dq osq
      clear gc0 cq
      generalize Go.Sort.grow (redrawn wr dq) osq = wq0 at *
      have hbb := hb.trans (hbq.mono hb.size)
      clear hb hbq
      have hb := hbb
      clear hbb
      go_wp2
      go_roundw
      case rel => exact ⟨k + 1, by omega, by go_num, q + 1, by go_num, by omega, by have := HQ.out; show _ = _; omega, hb⟩
      case measure => simp [intOf]; omega
    · have hk' : k = xs.length := by omega
      go_wp2
      go_ret
      exact ⟨ret_int (by rw [HQ.out, hk', HN.out]), hb⟩

end Go.Proofs.Ythejcbhplgjmgaa
