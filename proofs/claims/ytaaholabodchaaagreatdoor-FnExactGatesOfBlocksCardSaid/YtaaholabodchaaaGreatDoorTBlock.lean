/- Block: the data, its cells; the given helpers over it. Written by wip/gentype.py. -/
import Derived.Test.YtaaholabodchaaaGreatDoorMark
namespace Go.Proofs.YtaaholabodchaaaGreatDoor
open Go.RowKit
set_option linter.unusedVariables false

structure DBlock where
  kind : ByteArray
  name : ByteArray
  text : ByteArray
  deriving DecidableEq

def fBlock : Flat DBlock where
  n := 3
  enc := fun x => [.string x.kind, .string x.name, .string x.text]
  ok := fun x => fStr.ok x.kind ∧ fStr.ok x.name ∧ fStr.ok x.text
  pos := by omega
  len := fun _ => rfl
  one := by intro x v hv; simp at hv; rcases hv with rfl | rfl | rfl <;> rfl

def totBlock (x : DBlock) : Nat := x.kind.size + x.name.size + x.text.size
def totBlockS (xs : List DBlock) : Nat := xs.length + (xs.map totBlock).sum

set_option maxRecDepth 100000 in
set_option maxHeartbeats 1000000 in
theorem szBlock_any (x : DBlock) (left : Int) (w : World) (hx : fBlock.ok x) (h0 : 0 ≤ left) (h1 : left ≤ 1048576) :
    Calls Tryz.prog 31 #[.agg #[.string x.kind, .string x.name, .string x.text], .int .i64 left] w fun e w' => SzR left (totBlock x) w e w' := by
  have hsz0 : x.kind.size ≤ 9223372036854775807 := hx.1
  have hsz1 : x.name.size ≤ 9223372036854775807 := hx.2.1
  have hsz2 : x.text.size ≤ 9223372036854775807 := hx.2.2
  by_cases c0 : left - x.kind.size < 0
  · go_enter Tryz.func31, Tryz.ntmps31
    go_wp2
    go_ret
    exact .no (by repeat (first | exact Below.refl _ _ | assumption | refine Below.alloc ?_ (by first | omega | (simp <;> omega)) _ | refine Below.setCell ?_ (by first | (show _ ≤ _; omega) | (simp <;> omega)) _ | refine Below.drew ?_ | refine below_drewN ?_ _))
  · skip
    by_cases c1 : left - x.kind.size - x.name.size < 0
    · go_enter Tryz.func31, Tryz.ntmps31
      go_wp2
      go_ret
      exact .no (by repeat (first | exact Below.refl _ _ | assumption | refine Below.alloc ?_ (by first | omega | (simp <;> omega)) _ | refine Below.setCell ?_ (by first | (show _ ≤ _; omega) | (simp <;> omega)) _ | refine Below.drew ?_ | refine below_drewN ?_ _))
    · skip
      by_cases c2 : left - x.kind.size - x.name.size - x.text.size < 0
      · go_enter Tryz.func31, Tryz.ntmps31
        go_wp2
        go_ret
        exact .no (by repeat (first | exact Below.refl _ _ | assumption | refine Below.alloc ?_ (by first | omega | (simp <;> omega)) _ | refine Below.setCell ?_ (by first | (show _ ≤ _; omega) | (simp <;> omega)) _ | refine Below.drew ?_ | refine below_drewN ?_ _))
      · skip
        go_enter Tryz.func31, Tryz.ntmps31
        go_wp2
        go_ret
        exact .yes (by omega) (by unfold totBlock; omega) (by repeat (first | exact Below.refl _ _ | assumption | refine Below.alloc ?_ (by first | omega | (simp <;> omega)) _ | refine Below.setCell ?_ (by first | (show _ ≤ _; omega) | (simp <;> omega)) _ | refine Below.drew ?_ | refine below_drewN ?_ _))

set_option maxRecDepth 100000 in
set_option maxHeartbeats 1000000 in
theorem szBlockS_any (v : Value) (xs : List DBlock) (fp : List Nat) (left : Int) (w : World) (hx : Sl fBlock.cod w v xs fp) (h0 : 0 ≤ left) (h1 : left ≤ 1048576) :
    Calls Tryz.prog 10 #[v, .int .i64 left] w fun e w' => SzR left (totBlockS xs) w e w' := by
  obtain ⟨A, cap, rfl, hlen, hcap⟩ := hx.form
  by_cases hl : left - (xs.length : Int) < 0
  · go_enter Tryz.func10, Tryz.ntmps10
    go_wp2
    go_ret
    exact .no (Below.refl _ _)
  · go_enter Tryz.func10, Tryz.ntmps10
    go_wp2
    go_loopw [1, 5] (fun l i wr => ∃ k : Nat, k ≤ xs.length ∧ i = .int .i64 k ∧ Below w.heap.size w wr ∧ ∃ r : Int, l = .int .i64 r ∧ 0 ≤ r ∧ r + (xs.length + ((xs.take k).map totBlock).sum : Nat) = left) (fun _ i _ => xs.length - (intOf i).toNat)
    case atStart => exact ⟨0, Nat.zero_le _, rfl, Below.refl _ _, _, rfl, by omega, by simp⟩
    case round =>
      obtain ⟨k, hk, rfl, hb, r, rfl, hr0, hr⟩ := hrel
      have HR := Lib.hid hr
      clear hr
      have hr1 : r ≤ 1048576 := by have := HR.out; omega
      by_cases hlt : k < xs.length
      · obtain ⟨b, off, rfl, _, hok, hc, _⟩ := (hx.below' hb).at_ hlt
        have hc0 : wr.cell? ⟨b, off + k * 3, none⟩ = some (.string xs[k].kind) := by have := hc 0 (by decide); exact this
        have hc1 : wr.cell? ⟨b, off + k * 3 + 1, none⟩ = some (.string xs[k].name) := by have := hc 1 (by decide); exact this
        have hc2 : wr.cell? ⟨b, off + k * 3 + 2, none⟩ = some (.string xs[k].text) := by have := hc 2 (by decide); exact this
        clear hc
        go_wp2_with fail
        refine (szBlock_any xs[k] r _ hok hr0 hr1).mono ?_
        rintro e w2 ⟨r2, rfl, hr2, hb2⟩
        have HR2 := Lib.hid hr2
        clear hr2
        by_cases hneg : r2 < 0
        · go_wp2
          go_ret
          exact .no (hb.trans (hb2.mono hb.size))
        · go_wp2
          go_roundw
          case rel => exact ⟨k + 1, by omega, by go_num, hb.trans (hb2.mono hb.size), _, rfl, by omega, by have := HR.out; have hst := sum_take_step_ totBlock xs k hlt; rcases HR2.out with h | ⟨_, h⟩ <;> omega⟩
          case measure => simp [intOf]; omega
      · go_wp2
        go_ret
        exact .yes hr0 (by have := HR.out; rw [List.take_of_length_le (by omega)] at this; exact this) hb

set_option maxRecDepth 100000 in
set_option maxHeartbeats 1000000 in
theorem toBlock_any (x : DBlock) (w : World) :
    Calls Tryz.prog 34 #[.agg #[.string x.kind, .string x.name, .string x.text]] w fun e w' => e = .returned (.agg #[.string x.kind, .string x.name, .string x.text]) ∧ Below w.heap.size w w' := by
  go_enter Tryz.func34, Tryz.ntmps34
  go_wp2
  exact bodyPost_ret (v := .agg #[.string x.kind, .string x.name, .string x.text]) (by simp [results, Tryz.results34, go_sem]) rfl ⟨rfl, (by repeat (first | exact Below.refl _ _ | assumption | refine Below.alloc ?_ (by first | omega | (simp <;> omega)) _ | refine Below.setCell ?_ (by first | (show _ ≤ _; omega) | (simp <;> omega)) _ | refine Below.drew ?_ | refine below_drewN ?_ _))⟩
set_option maxRecDepth 100000 in
set_option maxHeartbeats 1000000 in
theorem eqBlock_any (x : DBlock) (w : World) :
    Calls Tryz.prog 29 #[.agg #[.string x.kind, .string x.name, .string x.text], .agg #[.string x.kind, .string x.name, .string x.text]] w fun e w' => e = .returned (.bool true) ∧ Below w.heap.size w w' := by
  go_enter Tryz.func29, Tryz.ntmps29
  go_wp2
  go_ret
  exact ⟨rfl, (by repeat (first | exact Below.refl _ _ | assumption | refine Below.alloc ?_ (by first | omega | (simp <;> omega)) _ | refine Below.setCell ?_ (by first | (show _ ≤ _; omega) | (simp <;> omega)) _ | refine Below.drew ?_ | refine below_drewN ?_ _))⟩

theorem infoBlock : (Tryz.prog.info? 43).map (fun i => (i.zero, i.size, i.bytes)) = some (some (.agg #[.string ⟨#[]⟩, .string ⟨#[]⟩, .string ⟨#[]⟩]), 3, 48) := by kernel_rfl
set_option maxRecDepth 100000 in
set_option maxHeartbeats 1000000 in
theorem toBlockS_any (v : Value) (xs : List DBlock) (fp : List Nat) (w : World) (hx : Sl fBlock.cod w v xs fp) (h1 : xs.length ≤ 1048576) :
    Calls Tryz.prog 12 #[v] w fun e w' => NewR fBlock.cod w xs e w' := by
  obtain ⟨A, cap, rfl, hlen, hcap⟩ := hx.form
  obtain ⟨i0, hi, hz0, hz1, hz2⟩ := info_parts infoBlock
  have hmk := fun W => run_make_rowN (P := Tryz.prog) 22 43 i0 _ Tryz.underlying22 hi hz0 .i64 .i64 xs.length xs.length (Nat.le_refl _) (by rw [hz2]; omega) (by omega) W
  rw [hz1] at hmk
  go_enter Tryz.func12, Tryz.ntmps12
  go_wp2
  go_loopw [4] (fun i wr => ∃ k : Nat, k ≤ xs.length ∧ i = .int .i64 k ∧ Fill wr w.heap.size w.heap.size 43 3 xs.length ((xs.take k).flatMap fBlock.enc) ∧ Below w.heap.size w wr) (fun i _ => xs.length - (intOf i).toNat)
  case atStart => exact ⟨0, Nat.zero_le _, rfl, Fill.start w _ _ _ _ (by omega), (Below.refl _ _).alloc (Nat.le_refl _) _⟩
  case round =>
    obtain ⟨k, hk, rfl, hf, hb⟩ := hrel
    by_cases hlt : k < xs.length
    · obtain ⟨b, off, rfl, _, hok, hc, _⟩ := (hx.below' hb).at_ hlt
      have hc0 : wr.cell? ⟨b, off + k * 3, none⟩ = some (.string xs[k].kind) := by have := hc 0 (by decide); exact this
      have hc1 : wr.cell? ⟨b, off + k * 3 + 1, none⟩ = some (.string xs[k].name) := by have := hc 1 (by decide); exact this
      have hc2 : wr.cell? ⟨b, off + k * 3 + 2, none⟩ = some (.string xs[k].text) := by have := hc 2 (by decide); exact this
      clear hc
      go_wp2_with fail
      refine (toBlock_any xs[k] _).mono ?_
      rintro e w2 ⟨rfl, hb2⟩
      have hgl := hf.lt
      have hf2 := hf.below hb2 hgl
      clear hf hc0 hc1 hc2
      obtain ⟨u0, hu0⟩ := hf2.cell (j := k * 3) (by omega)
      have hz0 := hf2.frozen (k * 3)
      obtain ⟨u1, hu1⟩ := hf2.cell (j := k * 3 + 1) (by omega)
      have hz1 := hf2.frozen (k * 3 + 1)
      obtain ⟨u2, hu2⟩ := hf2.cell (j := k * 3 + 2) (by omega)
      have hz2 := hf2.frozen (k * 3 + 2)
      go_wp2
      have HL : ((xs.take k).flatMap fBlock.enc).length = k * 3 := flat_take_len (E := fBlock) hk
      have hq0 := hf2.put_at (p := k * 3) (by simp [HL]) (by omega) (.string xs[k].kind)
      have hq1 := hq0.put_at (p := k * 3 + 1) (by simp [HL]) (by omega) (.string xs[k].name)
      have hq2 := hq1.put_at (p := k * 3 + 2) (by simp [HL]) (by omega) (.string xs[k].text)
      go_roundw
      case rel => exact ⟨k + 1, by omega, by go_num, by rw [flat_take_step hlt]; simpa [fBlock, List.append_assoc] using hq2, ((((hb.trans (hb2.mono hb.size)).setCell (Nat.le_refl _) _).setCell (Nat.le_refl _) _).setCell (Nat.le_refl _) _)⟩
      case measure => simp [intOf]; omega
    · have hk' : k = xs.length := by omega
      subst hk'
      rw [List.take_length] at hf
      go_wp2
      go_ret
      exact ⟨_, rfl, Sl.of_own rfl (hf.done (flat_len _ 3 _ (fun _ _ => rfl))) hx.oks, hb⟩

set_option maxRecDepth 100000 in
set_option maxHeartbeats 1000000 in
theorem eqBlockS_any (v v' : Value) (xs : List DBlock) (fp fp' : List Nat) (w : World) (hx : Sl fBlock.cod w v xs fp) (hy : Sl fBlock.cod w v' xs fp') :
    Calls Tryz.prog 7 #[v, v'] w fun e w' => YesR w e w' := by
  obtain ⟨A, cap, rfl, hlen, hcap⟩ := hx.form
  obtain ⟨A', cap', rfl, hlen', hcap'⟩ := hy.form
  go_enter Tryz.func7, Tryz.ntmps7
  go_wp2
  go_loopw [5] (fun i wr => ∃ k : Nat, k ≤ xs.length ∧ i = .int .i64 k ∧ Below w.heap.size w wr) (fun i _ => xs.length - (intOf i).toNat)
  case atStart => exact ⟨0, Nat.zero_le _, rfl, Below.refl _ _⟩
  case round =>
    obtain ⟨k, hk, rfl, hb⟩ := hrel
    by_cases hlt : k < xs.length
    · obtain ⟨b, off, rfl, _, hok, hc, _⟩ := (hx.below' hb).at_ hlt
      obtain ⟨b', off', rfl, _, hok', hd, _⟩ := (hy.below' hb).at_ hlt
      have hc0 : wr.cell? ⟨b, off + k * 3, none⟩ = some (.string xs[k].kind) := by have := hc 0 (by decide); exact this
      have hc1 : wr.cell? ⟨b, off + k * 3 + 1, none⟩ = some (.string xs[k].name) := by have := hc 1 (by decide); exact this
      have hc2 : wr.cell? ⟨b, off + k * 3 + 2, none⟩ = some (.string xs[k].text) := by have := hc 2 (by decide); exact this
      have hd0 : wr.cell? ⟨b', off' + k * 3, none⟩ = some (.string xs[k].kind) := by have := hd 0 (by decide); exact this
      have hd1 : wr.cell? ⟨b', off' + k * 3 + 1, none⟩ = some (.string xs[k].name) := by have := hd 1 (by decide); exact this
      have hd2 : wr.cell? ⟨b', off' + k * 3 + 2, none⟩ = some (.string xs[k].text) := by have := hd 2 (by decide); exact this
      have gc0 := cell_regrown hc0
      have gc1 := cell_regrown hc1
      have gc2 := cell_regrown hc2
      have gd0 := cell_regrown hd0
      have gd1 := cell_regrown hd1
      have gd2 := cell_regrown hd2
      clear hc hd hc0 hd0 hc1 hd1 hc2 hd2
      have cq : ∀ d os, Calls Tryz.prog 29 #[.agg #[.string xs[k].kind, .string xs[k].name, .string xs[k].text], .agg #[.string xs[k].kind, .string xs[k].name, .string xs[k].text]] (Go.Sort.grow (redrawn wr d) os) fun e w'' => e = .returned (.bool true) ∧ ∃ p : Regrown, w'' = Go.Sort.grow (redrawn wr p.d) p.os := fun d os => Calls.regrown_of (eqBlock_any xs[k] _)
      go_wp2
      refine wp_region_quiet_below (by kernel_rfl) (by kernel_rfl) ?_
      repeat (quiet_step (exact cq _ _))
      refine wpQuiet_nil ?_
      intro _ hw'
      obtain ⟨⟨dq, osq⟩, hw''⟩ := hw'
      subst hw''
      have hbq := below_regrown wr dq osq
      clear gc0 gd0 cq
      generalize Go.Sort.grow (redrawn wr dq) osq = wq at *
      go_wp2
      go_roundw
      case rel => exact ⟨k + 1, by omega, by go_num, hb.trans (hbq.mono hb.size)⟩
      case measure => simp [intOf]; omega
    · go_wp2
      go_ret
      exact ⟨rfl, hb⟩

def mkBlock (k : Int) : DBlock := ⟨mt (k), mt (k + 1), mt (k + 1 + 1)⟩
def marksBlock (k : Int) (n : Nat) : List DBlock := (List.range n).map fun (i : Nat) => mkBlock (k + 3 * (i : Int))

theorem marksBlock_get (k0 : Int) (n i : Nat) (h : i < (marksBlock k0 n).length) : (marksBlock k0 n)[i] = mkBlock (k0 + 3 * (i : Int)) := by
  simp [marksBlock]
theorem marksBlock_len (k0 : Int) (n : Nat) : (marksBlock k0 n).length = n := by simp [marksBlock]

set_option maxRecDepth 100000 in
set_option maxHeartbeats 2000000 in
theorem markBlockS_any (v : Value) (xs : List DBlock) (fp : List Nat) (k0 : Int) (w : World) (hx : Sl fBlock.cod w v xs fp) (h0 : 0 ≤ k0) (h1 : k0 + 3 * (xs.length : Int) ≤ 1000000000000) :
    Calls Tryz.prog 8 #[v, .int .i64 k0] w fun e w' => MarkR fBlock.cod fp w (k0 + 3 * (xs.length : Int)) v (marksBlock k0 xs.length) e w' := by
  obtain ⟨A, cap, rfl, hlen, hcap⟩ := hx.form
  by_cases hne : xs.length = 0
  · have : xs = [] := List.eq_nil_of_length_eq_zero hne
    subst this
    go_enter Tryz.func8, Tryz.ntmps8
    go_wp2
    go_loop [1, 5] (fun n i => i = .int .i64 0 ∧ n = .int .i64 k0) (fun _ _ => 0)
    case atStart => exact ⟨rfl, rfl⟩
    case round =>
      obtain ⟨rfl, rfl⟩ := hrel
      go_wp2
      go_ret
      exact ⟨ret_int (by simp), hx, .refl _ _⟩
  · obtain ⟨b, off, rfl, rfl, hbs, hcs0⟩ := hx.cells (by omega)
    go_enter Tryz.func8, Tryz.ntmps8
    go_wp2
    go_loopw [1, 5] (fun n i wr => ∃ k : Nat, k ≤ xs.length ∧ i = .int .i64 k ∧ ∃ q : Int, n = .int .i64 q ∧ 0 ≤ q ∧ Hid (q = k0 + 3 * (k : Int)) ∧ Cells wr b off (((List.range k).map fun (i : Nat) => mkBlock (k0 + 3 * (i : Int))).flatMap fBlock.enc ++ (xs.drop k).flatMap fBlock.enc) ∧ Only [b] w wr) (fun _ i _ => xs.length - (intOf i).toNat)
    case atStart => exact ⟨0, Nat.zero_le _, rfl, k0, rfl, h0, by show _ = _; simp, by simpa using hcs0, .refl _ _⟩
    case round =>
      obtain ⟨k, hk, rfl, q, rfl, hq0, HQ, hcs, ho⟩ := hrel
      by_cases hlt : k < xs.length
      · have hq1 : q + 3 ≤ 1000000000000 := by have := HQ.out; omega
        have HC : Cells wr b off (((List.range k).map fun (i : Nat) => mkBlock (k0 + 3 * (i : Int))).flatMap fBlock.enc ++ ((.string xs[k].kind : Value) :: (.string xs[k].name : Value) :: (.string xs[k].text : Value) :: (xs.drop (k + 1)).flatMap fBlock.enc)) := by
          have := hcs
          rw [List.drop_eq_getElem_cons hlt, List.flatMap_cons] at this
          exact this
        generalize HP : ((List.range k).map fun (i : Nat) => mkBlock (k0 + 3 * (i : Int))).flatMap fBlock.enc = pre at *
        have HL : pre.length = k * 3 := by rw [← HP, flat_len fBlock.enc 3 _ (fun _ _ => rfl)]; simp
        generalize HR : (xs.drop (k + 1)).flatMap fBlock.enc = post at *
        have HPH := Lib.hid HP
        clear HP hcs
        have HRH := Lib.hid HR
        clear HR
        have HLH := Lib.hid HL
        clear HL
        go_wp2_with fail
        refine (markText_any _ _ (by omega)).mono ?_
        rintro e w0 ⟨rfl, hbm⟩
        have HD0 := HC.keep (hbm.block b (by have := ho.size; simp at this ⊢; omega))
        have hoo := ho.trans (.of_below hbm)
        clear ho hbm HC
        have ho := hoo
        clear hoo
        have hu0 := HD0.at_mid (m := k * 3) (j := 0) (p := off + k * 3) HLH.out (by omega) (by simp) rfl
        have hz0 := HD0.free_mid (m := k * 3) (j := 0) (p := off + k * 3) HLH.out (by omega) (by simp)
        go_wp2_with fail
        have HC0 := HD0.put (m := k * 3) (j := 0) (p := off + k * 3) HLH.out (by omega) (by simp) (.string (mt (q)))
        have ho_ := ho.set (off + k * 3) (.string (mt (q)))
        clear hu0 hz0 ho
        have ho := ho_
        clear ho_
        clear HD0
        refine (markText_any _ _ (by omega)).mono ?_
        rintro e w1 ⟨rfl, hbm⟩
        have HD1 := HC0.keep (hbm.block b (by have := ho.size; simp at this ⊢; omega))
        have hoo := ho.trans (.of_below hbm)
        clear ho hbm HC0
        have ho := hoo
        clear hoo
        have hu1 := HD1.at_mid (m := k * 3) (j := 1) (p := off + k * 3 + 1) HLH.out (by omega) (by simp) rfl
        have hz1 := HD1.free_mid (m := k * 3) (j := 1) (p := off + k * 3 + 1) HLH.out (by omega) (by simp)
        go_wp2_with fail
        have HC1 := HD1.put (m := k * 3) (j := 1) (p := off + k * 3 + 1) HLH.out (by omega) (by simp) (.string (mt (q + 1)))
        have ho_ := ho.set (off + k * 3 + 1) (.string (mt (q + 1)))
        clear hu1 hz1 ho
        have ho := ho_
        clear ho_
        clear HD1
        refine (markText_any _ _ (by omega)).mono ?_
        rintro e w2 ⟨rfl, hbm⟩
        have HD2 := HC1.keep (hbm.block b (by have := ho.size; simp at this ⊢; omega))
        have hoo := ho.trans (.of_below hbm)
        clear ho hbm HC1
        have ho := hoo
        clear hoo
        have hu2 := HD2.at_mid (m := k * 3) (j := 2) (p := off + k * 3 + 2) HLH.out (by omega) (by simp) rfl
        have hz2 := HD2.free_mid (m := k * 3) (j := 2) (p := off + k * 3 + 2) HLH.out (by omega) (by simp)
        go_wp2
        have HC2 := HD2.put (m := k * 3) (j := 2) (p := off + k * 3 + 2) HLH.out (by omega) (by simp) (.string (mt (q + 1 + 1)))
        have ho_ := ho.set (off + k * 3 + 2) (.string (mt (q + 1 + 1)))
        clear hu2 hz2 ho
        have ho := ho_
        clear ho_
        clear HD2
        go_roundw
        case rel => exact ⟨k + 1, by omega, by go_num, q + 3, by go_num, by omega, by have := HQ.out; show _ = _; omega, marks_step (f := fun (i : Nat) => mkBlock (k0 + 3 * (i : Int))) HPH.out HRH.out (by rw [← HQ.out] <;> rfl) HC2, ho⟩
        case measure => simp [intOf]; omega
      · have hk' : k = xs.length := by omega
        subst hk'
        rw [List.drop_length, List.flatMap_nil, List.append_nil] at hcs
        go_wp2
        go_ret
        have hsz := ho.size
        have hm := Sl.of_cells (E := fBlock) (cap := cap) (xs := marksBlock k0 xs.length) (by rw [marksBlock_len]; exact hlen) hcap (by omega) hcs (by intro x hx; simp [marksBlock] at hx; obtain ⟨i, hi, rfl⟩ := hx; exact ⟨mt_ok _ (by omega), mt_ok _ (by omega), mt_ok _ (by omega)⟩) (by rw [marksBlock_len]; omega)
        rw [marksBlock_len] at hm
        exact ⟨ret_int HQ.out, hm, ho⟩

set_option maxRecDepth 100000 in
set_option maxHeartbeats 2000000 in
theorem heldBlockS_any (v : Value) (n0 : Nat) (fp : List Nat) (k0 : Int) (w : World) (hx0 : Sl fBlock.cod w v (marksBlock k0 n0) fp) (h0 : 0 ≤ k0) (h1 : k0 + 3 * (n0 : Int) ≤ 1000000000000) :
    Calls Tryz.prog 9 #[v, .int .i64 k0] w fun e w' => e = .returned (.int .i64 (k0 + 3 * (n0 : Int))) ∧ Below w.heap.size w w' := by
  have hn0 : (marksBlock k0 n0).length = n0 := marksBlock_len _ _
  obtain ⟨xs, hxs⟩ : ∃ xs, xs = marksBlock k0 n0 := ⟨_, rfl⟩
  rw [← hxs] at hx0 hn0
  have hx := hx0
  clear hx0
  rw [← hn0] at h1
  have HN := Lib.hid hn0
  clear hn0
  have HXS := Lib.hid hxs
  clear hxs
  obtain ⟨A, cap, rfl, hlen, hcap⟩ := hx.form
  go_enter Tryz.func9, Tryz.ntmps9
  go_wp2
  go_loopw [1, 5] (fun n i wr => ∃ k : Nat, k ≤ xs.length ∧ i = .int .i64 k ∧ ∃ q : Int, n = .int .i64 q ∧ 0 ≤ q ∧ Hid (q = k0 + 3 * (k : Int)) ∧ Below w.heap.size w wr) (fun _ i _ => xs.length - (intOf i).toNat)
  case atStart => exact ⟨0, Nat.zero_le _, rfl, k0, rfl, h0, by show _ = _; omega, Below.refl _ _⟩
  case round =>
    obtain ⟨k, hk, rfl, q, rfl, hq0, HQ, hb⟩ := hrel
    by_cases hlt : k < xs.length
    · have hq1 : q + 3 ≤ 1000000000000 := by have := HQ.out; omega
      obtain ⟨b, off, rfl, _⟩ := hx.at_ hlt
      have hget : xs[k] = mkBlock (k0 + 3 * (k : Int)) := by
        have hxs := HXS.out
        subst hxs
        exact marksBlock_get _ _ _ _
      rw [← HQ.out] at hget
      have HG := Lib.hid hget
      clear hget
      have hc0 : wr.cell? ⟨b, off + k * 3, none⟩ = some (.string (mt (q))) := by
        have h := (hx.below' hb).atk hlt (j := 0) (by decide)
        rw [HG.out, show off + k * fBlock.n + 0 = off + k * 3 from by (show off + k * 3 + 0 = _); omega] at h
        exact h
      have gc0 := cell_regrown hc0
      clear hc0
      have cq : ∀ d os, Calls Tryz.prog 30 #[.int .i64 (q)] (Go.Sort.grow (redrawn wr d) os) fun e w'' => e = .returned (.string (mt (q))) ∧ ∃ p : Regrown, w'' = Go.Sort.grow (redrawn wr p.d) p.os := fun d os => Calls.regrown_of (markText_any _ _ (by omega))
      go_wp2_with fail
      refine wp_region_quiet_below (by kernel_rfl) (by kernel_rfl) ?_
      repeat (quiet_step (exact cq _ _))
      refine wpQuiet_nil ?_
      intro _ hw'
      obtain ⟨⟨dq, osq⟩, hw''⟩ := hw'
      subst hw''
      have hbq := below_regrown wr dq osq
      clear gc0 cq
      generalize Go.Sort.grow (redrawn wr dq) osq = wq0 at *
      have hbb := hb.trans (hbq.mono hb.size)
      clear hb hbq
      have hb := hbb
      clear hbb
      have hc1 : wq0.cell? ⟨b, off + k * 3 + 1, none⟩ = some (.string (mt (q + 1))) := by
        have h := (hx.below' hb).atk hlt (j := 1) (by decide)
        rw [HG.out, show off + k * fBlock.n + 1 = off + k * 3 + 1 from by (show off + k * 3 + 1 = _); omega] at h
        exact h
      have gc1 := cell_regrown hc1
      clear hc1
      have cq : ∀ d os, Calls Tryz.prog 30 #[.int .i64 (q + 1)] (Go.Sort.grow (redrawn wq0 d) os) fun e w'' => e = .returned (.string (mt (q + 1))) ∧ ∃ p : Regrown, w'' = Go.Sort.grow (redrawn wq0 p.d) p.os := fun d os => Calls.regrown_of (markText_any _ _ (by omega))
      go_wp2_with fail
      refine wp_region_quiet_below (by kernel_rfl) (by kernel_rfl) ?_
      repeat (quiet_step (exact cq _ _))
      refine wpQuiet_nil ?_
      intro _ hw'
      obtain ⟨⟨dq, osq⟩, hw''⟩ := hw'
      subst hw''
      have hbq := below_regrown wq0 dq osq
      clear gc1 cq
      generalize Go.Sort.grow (redrawn wq0 dq) osq = wq1 at *
      have hbb := hb.trans (hbq.mono hb.size)
      clear hb hbq
      have hb := hbb
      clear hbb
      have hc2 : wq1.cell? ⟨b, off + k * 3 + 2, none⟩ = some (.string (mt (q + 1 + 1))) := by
        have h := (hx.below' hb).atk hlt (j := 2) (by decide)
        rw [HG.out, show off + k * fBlock.n + 2 = off + k * 3 + 2 from by (show off + k * 3 + 2 = _); omega] at h
        exact h
      have gc2 := cell_regrown hc2
      clear hc2
      have cq : ∀ d os, Calls Tryz.prog 30 #[.int .i64 (q + 1 + 1)] (Go.Sort.grow (redrawn wq1 d) os) fun e w'' => e = .returned (.string (mt (q + 1 + 1))) ∧ ∃ p : Regrown, w'' = Go.Sort.grow (redrawn wq1 p.d) p.os := fun d os => Calls.regrown_of (markText_any _ _ (by omega))
      go_wp2_with fail
      refine wp_region_quiet_below (by kernel_rfl) (by kernel_rfl) ?_
      repeat (quiet_step (exact cq _ _))
      refine wpQuiet_nil ?_
      intro _ hw'
      obtain ⟨⟨dq, osq⟩, hw''⟩ := hw'
      subst hw''
      have hbq := below_regrown wq1 dq osq
      clear gc2 cq
      generalize Go.Sort.grow (redrawn wq1 dq) osq = wq2 at *
      have hbb := hb.trans (hbq.mono hb.size)
      clear hb hbq
      have hb := hbb
      clear hbb
      go_wp2
      go_roundw
      case rel => exact ⟨k + 1, by omega, by go_num, q + 3, by go_num, by omega, by have := HQ.out; show _ = _; omega, hb⟩
      case measure => simp [intOf]; omega
    · have hk' : k = xs.length := by omega
      go_wp2
      go_ret
      exact ⟨ret_int (by rw [HQ.out, hk', HN.out]), hb⟩

end Go.Proofs.YtaaholabodchaaaGreatDoor
