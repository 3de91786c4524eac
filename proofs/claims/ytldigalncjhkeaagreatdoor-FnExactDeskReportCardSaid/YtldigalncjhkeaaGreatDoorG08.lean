/- Parts of the proof: Dp, WDeskReport, Law, LawS, LawL, Dr, Open, OObserved, OTest, OStand, OPathPoint, OVerified, OShot, OGroup, OWatch, OIncident, ODesk. -/
import Derived.Test.YtldigalncjhkeaaGreatDoorG07
import Derived.Test.YtldigalncjhkeaaGreatDoorG01
import Derived.ProofKit
import Derived.ChangeSame
import Derived.HandedShaped
import Derived.Shelf.Vars
import Derived.LaidMore
import Derived.Stop.Joined
import Derived.Laws.Tables
import GoSem.PinnedTables
import Derived.Deep.Slices
import Derived.Deep.Fields
import Derived.OpenShut
import Derived.Test.YtldigalncjhkeaaGreatDoorG02
import Derived.Test.YtldigalncjhkeaaGreatDoorG03
namespace Go.Proofs.YtldigalncjhkeaaGreatDoor
open Go.RowKit
set_option linter.unusedVariables false

theorem Own.newD {α : Type} {E : Flat α} {w w' : World} {base : Nat} {e : TypeId} {v : Value} {L : List α} (h : Own E w' base e v L) (hbase : w.heap.size ≤ base) (hb : Below w.heap.size w w') (hok : ∀ x ∈ L, E.ok x) : New E.cod w v L w' := by
  obtain ⟨fp, h1, h2, h3⟩ := Sl.of_own (n := L.length) rfl h hok
  exact ⟨⟨fp, h1, fun b hb => Nat.le_trans hbase (h2 b hb), h3⟩, hb⟩
theorem infoStrDp : (Tryz.prog.info? 9).map (fun i => (i.zero, i.size, i.bytes)) = some (some (.string ⟨#[]⟩), 1, 16) := by kernel_rfl
def wordsD : List ByteArray := [⟨#[111, 98, 115, 101, 114, 118, 101, 100]⟩, ⟨#[99, 101, 108, 108, 115]⟩, ⟨#[116, 101, 115, 116, 115]⟩, ⟨#[115, 116, 97, 110, 100, 115]⟩, ⟨#[112, 111, 105, 110, 116, 115]⟩, ⟨#[122, 111, 110, 101, 115]⟩, ⟨#[114, 101, 103, 105, 111, 110, 115]⟩, ⟨#[118, 101, 114, 105, 102, 105, 101, 100]⟩, ⟨#[115, 104, 111, 116, 115]⟩, ⟨#[103, 114, 111, 117, 112, 115]⟩, ⟨#[119, 97, 116, 99, 104, 101, 115]⟩, ⟨#[105, 110, 99, 105, 100, 101, 110, 116, 115]⟩]
def cntsD (x : DDesk) : List Int := [(x.ob.length : Int), (x.ma.length : Int), (x.te.length : Int), (x.st.length : Int), (x.pa.length : Int), (x.zo.length : Int), (x.re.length : Int), (x.ve.length : Int), (x.sh.length : Int), (x.gr.length : Int), (x.wa.length : Int), (x.in_.length : Int)]
def lineD (x : DDesk) (k : Nat) : ByteArray := wordsD.getD k ⟨#[]⟩ ++ ⟨#[32]⟩ ++ decS ((cntsD x).getD k 0)
def linesD (x : DDesk) (k : Nat) : List ByteArray := (List.range k).map (lineD x)
def drpF (x : DDesk) : List ByteArray := if deskB x then linesD x 12 else []
def drpC (x : DDesk) : Int := if deskB x then 0 else 1
theorem linesD_step (x : DDesk) (k : Nat) : linesD x (k + 1) = linesD x k ++ [lineD x k] := by unfold linesD; rw [List.range_succ, List.map_append]; rfl
theorem linesD_len (x : DDesk) (k : Nat) : (linesD x k).length = k := by unfold linesD; simp
theorem wordsD_size {k : Nat} (h : k < 12) : (wordsD.getD k ⟨#[]⟩).size ≤ 9 := by
  have h1 : ∀ k : Fin 12, (wordsD.getD k.1 ⟨#[]⟩).size ≤ 9 := by decide
  exact h1 ⟨k, h⟩
structure CntOk (x : DDesk) : Prop where
  ob : x.ob.length ≤ 9223372036854775807
  ma : x.ma.length ≤ 9223372036854775807
  te : x.te.length ≤ 9223372036854775807
  st : x.st.length ≤ 9223372036854775807
  pa : x.pa.length ≤ 9223372036854775807
  zo : x.zo.length ≤ 9223372036854775807
  re : x.re.length ≤ 9223372036854775807
  ve : x.ve.length ≤ 9223372036854775807
  sh : x.sh.length ≤ 9223372036854775807
  gr : x.gr.length ≤ 9223372036854775807
  wa : x.wa.length ≤ 9223372036854775807
  in_ : x.in_.length ≤ 9223372036854775807
theorem CntOk.of {w : World} {v : DVals} {x : DDesk} {F : Nat → List Nat} (h : DeskRd w v x F) : CntOk x :=
  ⟨(let ⟨_, _, _, a, b⟩ := h.ob.form; Nat.le_trans a b), (let ⟨_, _, _, a, b⟩ := h.ma.form; Nat.le_trans a b), (let ⟨_, _, _, a, b⟩ := h.te.form; Nat.le_trans a b), (let ⟨_, _, _, a, b⟩ := h.st.form; Nat.le_trans a b), (let ⟨_, _, _, a, b⟩ := h.pa.form; Nat.le_trans a b), (let ⟨_, _, _, a, b⟩ := h.zo.form; Nat.le_trans a b), (let ⟨_, _, _, a, b⟩ := h.re.form; Nat.le_trans a b), (let ⟨_, _, _, a, b⟩ := h.ve.form; Nat.le_trans a b), (let ⟨_, _, _, a, b⟩ := h.sh.form; Nat.le_trans a b), (let ⟨_, _, _, a, b⟩ := h.gr.form; Nat.le_trans a b), (let ⟨_, _, _, a, b⟩ := h.wa.form; Nat.le_trans a b), (let ⟨_, _, _, a, b⟩ := h.in_.form; Nat.le_trans a b)⟩
theorem cntsD_ok {x : DDesk} (h : CntOk x) : ∀ n ∈ cntsD x, 0 ≤ n ∧ n ≤ 9223372036854775807 := by
  obtain ⟨h0, h1, h2, h3, h4, h5, h6, h7, h8, h9, h10, h11⟩ := h
  intro n hn
  unfold cntsD at hn
  simp only [List.mem_cons, List.not_mem_nil, or_false] at hn
  rcases hn with rfl | rfl | rfl | rfl | rfl | rfl | rfl | rfl | rfl | rfl | rfl | rfl
  all_goals omega
theorem cntD_ok {x : DDesk} (h : CntOk x) {k : Nat} (hk : k < 12) : 0 ≤ (cntsD x).getD k 0 ∧ (cntsD x).getD k 0 ≤ 9223372036854775807 := by
  have hl : k < (cntsD x).length := hk
  rw [List.getD_eq_getElem?_getD, List.getElem?_eq_getElem hl, Option.getD_some]
  exact cntsD_ok h _ (List.getElem_mem hl)
theorem lineD_size {x : DDesk} (h : CntOk x) {k : Nat} (hk : k < 12) : (wordsD.getD k ⟨#[]⟩ ++ ⟨#[32]⟩).size ≤ 10 ∧ (lineD x k).size ≤ 31 := by
  have h1 := wordsD_size hk
  have h2 := cntD_ok h hk
  have h3 : (decS ((cntsD x).getD k 0)).size ≤ 21 := by rw [decS_size]; exact itoa_len20 (by omega) (by omega)
  have h4 : (wordsD.getD k ⟨#[]⟩ ++ ⟨#[32]⟩).size ≤ 10 := by rw [ByteArray.size_append]; show _ + 1 ≤ _; omega
  refine ⟨h4, ?_⟩
  unfold lineD
  rw [ByteArray.size_append]
  omega
theorem linesD_ok {x : DDesk} (h : CntOk x) {k : Nat} (hk : k ≤ 12) : ∀ s ∈ linesD x k, fStr.ok s := by
  intro s hs
  obtain ⟨i, hi, rfl⟩ := List.mem_map.1 hs
  have hi' : i < k := by simpa using hi
  have := (lineD_size h (k := i) (by omega)).2
  show _ ≤ _; omega
theorem words_sl (V : World) : Sl fStr.cod (V.alloc (.cells #[.string ⟨#[111, 98, 115, 101, 114, 118, 101, 100]⟩, .string ⟨#[99, 101, 108, 108, 115]⟩, .string ⟨#[116, 101, 115, 116, 115]⟩, .string ⟨#[115, 116, 97, 110, 100, 115]⟩, .string ⟨#[112, 111, 105, 110, 116, 115]⟩, .string ⟨#[122, 111, 110, 101, 115]⟩, .string ⟨#[114, 101, 103, 105, 111, 110, 115]⟩, .string ⟨#[118, 101, 114, 105, 102, 105, 101, 100]⟩, .string ⟨#[115, 104, 111, 116, 115]⟩, .string ⟨#[103, 114, 111, 117, 112, 115]⟩, .string ⟨#[119, 97, 116, 99, 104, 101, 115]⟩, .string ⟨#[105, 110, 99, 105, 100, 101, 110, 116, 115]⟩] 9)) (.slice (some ⟨V.heap.size, 0, none⟩) 12 12) wordsD [V.heap.size] :=
  Sl.lit2 (E := fStr) V wordsD _ _ rfl (fun y hy => by
    have h1 : ∀ z ∈ wordsD, z.size ≤ 9 := by decide
    have := h1 y hy; show _ ≤ _; omega) (by decide) (by decide)
theorem cnts_sl (V : World) (x : DDesk) (h : CntOk x) : Sl fInt.cod (V.alloc (.cells #[.int .i64 (x.ob.length : Int), .int .i64 (x.ma.length : Int), .int .i64 (x.te.length : Int), .int .i64 (x.st.length : Int), .int .i64 (x.pa.length : Int), .int .i64 (x.zo.length : Int), .int .i64 (x.re.length : Int), .int .i64 (x.ve.length : Int), .int .i64 (x.sh.length : Int), .int .i64 (x.gr.length : Int), .int .i64 (x.wa.length : Int), .int .i64 (x.in_.length : Int)] 3)) (.slice (some ⟨V.heap.size, 0, none⟩) 12 12) (cntsD x) [V.heap.size] :=
  Sl.lit2 (E := fInt) V (cntsD x) _ _ rfl (fun y hy => by have := cntsD_ok h y hy; show _ ∧ _; omega) (show 0 < 12 by decide) (show 12 ≤ 9223372036854775807 by decide)
structure DWM where
  word : ByteArray
  many : Int
def fWM : Flat DWM where
  n := 2
  enc := fun x => [.string x.word, .int .i64 x.many]
  ok := fun x => fStr.ok x.word ∧ fInt.ok x.many
  pos := by omega
  len := fun _ => rfl
  one := by intro x v hv; simp at hv; rcases hv with rfl | rfl <;> rfl
def wmD (x : DDesk) : List DWM := [⟨⟨#[111, 98, 115, 101, 114, 118, 101, 100]⟩, (x.ob.length : Int)⟩, ⟨⟨#[99, 101, 108, 108, 115]⟩, (x.ma.length : Int)⟩, ⟨⟨#[116, 101, 115, 116, 115]⟩, (x.te.length : Int)⟩, ⟨⟨#[115, 116, 97, 110, 100, 115]⟩, (x.st.length : Int)⟩, ⟨⟨#[112, 111, 105, 110, 116, 115]⟩, (x.pa.length : Int)⟩, ⟨⟨#[122, 111, 110, 101, 115]⟩, (x.zo.length : Int)⟩, ⟨⟨#[114, 101, 103, 105, 111, 110, 115]⟩, (x.re.length : Int)⟩, ⟨⟨#[118, 101, 114, 105, 102, 105, 101, 100]⟩, (x.ve.length : Int)⟩, ⟨⟨#[115, 104, 111, 116, 115]⟩, (x.sh.length : Int)⟩, ⟨⟨#[103, 114, 111, 117, 112, 115]⟩, (x.gr.length : Int)⟩, ⟨⟨#[119, 97, 116, 99, 104, 101, 115]⟩, (x.wa.length : Int)⟩, ⟨⟨#[105, 110, 99, 105, 100, 101, 110, 116, 115]⟩, (x.in_.length : Int)⟩]
theorem wmD_at {x : DDesk} {k : Nat} (hk : k < (wmD x).length) : (wmD x)[k].word = wordsD.getD k ⟨#[]⟩ ∧ (wmD x)[k].many = (cntsD x).getD k 0 := by
  have hk' : k < 12 := hk
  match k, hk' with
  | 0, _ => exact ⟨rfl, rfl⟩
  | 1, _ => exact ⟨rfl, rfl⟩
  | 2, _ => exact ⟨rfl, rfl⟩
  | 3, _ => exact ⟨rfl, rfl⟩
  | 4, _ => exact ⟨rfl, rfl⟩
  | 5, _ => exact ⟨rfl, rfl⟩
  | 6, _ => exact ⟨rfl, rfl⟩
  | 7, _ => exact ⟨rfl, rfl⟩
  | 8, _ => exact ⟨rfl, rfl⟩
  | 9, _ => exact ⟨rfl, rfl⟩
  | 10, _ => exact ⟨rfl, rfl⟩
  | 11, _ => exact ⟨rfl, rfl⟩
theorem wm_sl (V : World) (T : TypeId) (x : DDesk) (h : CntOk x) : Sl fWM.cod (V.alloc (.cells #[.string ⟨#[111, 98, 115, 101, 114, 118, 101, 100]⟩, .int .i64 (x.ob.length : Int), .string ⟨#[99, 101, 108, 108, 115]⟩, .int .i64 (x.ma.length : Int), .string ⟨#[116, 101, 115, 116, 115]⟩, .int .i64 (x.te.length : Int), .string ⟨#[115, 116, 97, 110, 100, 115]⟩, .int .i64 (x.st.length : Int), .string ⟨#[112, 111, 105, 110, 116, 115]⟩, .int .i64 (x.pa.length : Int), .string ⟨#[122, 111, 110, 101, 115]⟩, .int .i64 (x.zo.length : Int), .string ⟨#[114, 101, 103, 105, 111, 110, 115]⟩, .int .i64 (x.re.length : Int), .string ⟨#[118, 101, 114, 105, 102, 105, 101, 100]⟩, .int .i64 (x.ve.length : Int), .string ⟨#[115, 104, 111, 116, 115]⟩, .int .i64 (x.sh.length : Int), .string ⟨#[103, 114, 111, 117, 112, 115]⟩, .int .i64 (x.gr.length : Int), .string ⟨#[119, 97, 116, 99, 104, 101, 115]⟩, .int .i64 (x.wa.length : Int), .string ⟨#[105, 110, 99, 105, 100, 101, 110, 116, 115]⟩, .int .i64 (x.in_.length : Int)] T)) (.slice (some ⟨V.heap.size, 0, none⟩) 12 12) (wmD x) [V.heap.size] :=
  Sl.lit2 (E := fWM) V (wmD x) _ _ rfl (fun y hy => by
    obtain ⟨i, hi, rfl⟩ := List.getElem_of_mem hy
    obtain ⟨e1, e2⟩ := wmD_at hi
    have hw := wordsD_size (k := i) hi
    have hc := cntD_ok h (k := i) hi
    refine ⟨?_, ?_⟩
    · show (wmD x)[i].word.size ≤ _; rw [e1]; omega
    · rw [e2]; show _ ∧ _; omega) (show 0 < 12 by decide) (show 12 ≤ 9223372036854775807 by decide)
set_option maxRecDepth 100000 in
set_option maxHeartbeats 8000000 in
theorem specDeskReport_any (x : DDesk) (v : DVals) (F : Nat → List Nat) (w : World) (hd : DeskRd w v x F) :
    Calls Tryz.prog 5 #[deskA v x] w fun e w' => NewR2 fStr.cod w (drpF x) (drpC x) e w' := by
  have hco := CntOk.of hd
  obtain ⟨i0, hi, hz0, hz1, hz2⟩ := info_parts infoStrDp
  obtain ⟨q0, q1, q2, q3, q4, q5, q6, q7, q8, q9, q10, q11⟩ := v
  obtain ⟨A0, k0, h0, _, _⟩ := hd.ob.form
  simp only at h0
  subst h0
  obtain ⟨A1, k1, h1, _, _⟩ := hd.ma.form
  simp only at h1
  subst h1
  obtain ⟨A2, k2, h2, _, _⟩ := hd.te.form
  simp only at h2
  subst h2
  obtain ⟨A3, k3, h3, _, _⟩ := hd.st.form
  simp only at h3
  subst h3
  obtain ⟨A4, k4, h4, _, _⟩ := hd.pa.form
  simp only at h4
  subst h4
  obtain ⟨A5, k5, h5, _, _⟩ := hd.zo.form
  simp only at h5
  subst h5
  obtain ⟨A6, k6, h6, _, _⟩ := hd.re.form
  simp only at h6
  subst h6
  obtain ⟨A7, k7, h7, _, _⟩ := hd.ve.form
  simp only at h7
  subst h7
  obtain ⟨A8, k8, h8, _, _⟩ := hd.sh.form
  simp only at h8
  subst h8
  obtain ⟨A9, k9, h9, _, _⟩ := hd.gr.form
  simp only at h9
  subst h9
  obtain ⟨A10, k10, h10, _, _⟩ := hd.wa.form
  simp only at h10
  subst h10
  obtain ⟨A11, k11, h11, _, _⟩ := hd.in_.form
  simp only at h11
  subst h11
  have hB : Below w.heap.size w (w.alloc (.cells #[.slice A0 x.ob.length k0, .int .i64 x.rows, .int .i64 x.columns, .slice A1 x.ma.length k1, .slice A2 x.te.length k2, .slice A3 x.st.length k3, .slice A4 x.pa.length k4, .slice A5 x.zo.length k5, .slice A6 x.re.length k6, .slice A7 x.ve.length k7, .slice A8 x.sh.length k8, .slice A9 x.gr.length k9, .slice A10 x.wa.length k10, .slice A11 x.in_.length k11] 53)) := (Below.refl _ _).alloc (Nat.le_refl _) _
  have hp := DBox.new w ⟨.slice A0 x.ob.length k0, .slice A1 x.ma.length k1, .slice A2 x.te.length k2, .slice A3 x.st.length k3, .slice A4 x.pa.length k4, .slice A5 x.zo.length k5, .slice A6 x.re.length k6, .slice A7 x.ve.length k7, .slice A8 x.sh.length k8, .slice A9 x.gr.length k9, .slice A10 x.wa.length k10, .slice A11 x.in_.length k11⟩ x 53
  have hd1 := hd.below' hB
  unfold deskA
  go_enter Tryz.func5, Tryz.ntmps5
  go_wp2_with fail
  refine (l32Ok_any _ x ⟨.slice A0 x.ob.length k0, .slice A1 x.ma.length k1, .slice A2 x.te.length k2, .slice A3 x.st.length k3, .slice A4 x.pa.length k4, .slice A5 x.zo.length k5, .slice A6 x.re.length k6, .slice A7 x.ve.length k7, .slice A8 x.sh.length k8, .slice A9 x.gr.length k9, .slice A10 x.wa.length k10, .slice A11 x.in_.length k11⟩ F _ hp hd1).mono ?_
  rintro e w1 ⟨rfl, hbn⟩
  replace hp := hp.below' hbn
  replace hB := hB.trans (hbn.mono hB.size)
  clear hd1 hbn
  generalize hgd : w.heap.size = gd at *
  cases h0 : deskB x
  · go_wp2
    go_ret2
    rw [← hgd] at hB
    exact ⟨_, by rw [drpC, h0]; rfl, by rw [drpF, h0]; exact New.nil hB⟩
  · have HC := Lib.hid (show drpC x = 0 from by rw [drpC, h0]; rfl)
    have HF := Lib.hid (show drpF x = linesD x 12 from by rw [drpF, h0]; rfl)
    clear h0
    have HG := Lib.hid hgd
    have hga : gd ≤ w1.heap.size := by rw [← hgd]; exact hB.size
    clear hgd
    replace hp := hp.below' ((Below.refl _ _).alloc (Nat.le_refl _) (.cells #[.string ⟨#[111, 98, 115, 101, 114, 118, 101, 100]⟩, .string ⟨#[99, 101, 108, 108, 115]⟩, .string ⟨#[116, 101, 115, 116, 115]⟩, .string ⟨#[115, 116, 97, 110, 100, 115]⟩, .string ⟨#[112, 111, 105, 110, 116, 115]⟩, .string ⟨#[122, 111, 110, 101, 115]⟩, .string ⟨#[114, 101, 103, 105, 111, 110, 115]⟩, .string ⟨#[118, 101, 114, 105, 102, 105, 101, 100]⟩, .string ⟨#[115, 104, 111, 116, 115]⟩, .string ⟨#[103, 114, 111, 117, 112, 115]⟩, .string ⟨#[119, 97, 116, 99, 104, 101, 115]⟩, .string ⟨#[105, 110, 99, 105, 100, 101, 110, 116, 115]⟩] 9))
    have c0 : (w1.alloc (.cells #[.string ⟨#[111, 98, 115, 101, 114, 118, 101, 100]⟩, .string ⟨#[99, 101, 108, 108, 115]⟩, .string ⟨#[116, 101, 115, 116, 115]⟩, .string ⟨#[115, 116, 97, 110, 100, 115]⟩, .string ⟨#[112, 111, 105, 110, 116, 115]⟩, .string ⟨#[122, 111, 110, 101, 115]⟩, .string ⟨#[114, 101, 103, 105, 111, 110, 115]⟩, .string ⟨#[118, 101, 114, 105, 102, 105, 101, 100]⟩, .string ⟨#[115, 104, 111, 116, 115]⟩, .string ⟨#[103, 114, 111, 117, 112, 115]⟩, .string ⟨#[119, 97, 116, 99, 104, 101, 115]⟩, .string ⟨#[105, 110, 99, 105, 100, 101, 110, 116, 115]⟩] 9)).cell? ⟨gd, 0, none⟩ = some (.slice A0 x.ob.length k0) := hp.c0
    have c3 : (w1.alloc (.cells #[.string ⟨#[111, 98, 115, 101, 114, 118, 101, 100]⟩, .string ⟨#[99, 101, 108, 108, 115]⟩, .string ⟨#[116, 101, 115, 116, 115]⟩, .string ⟨#[115, 116, 97, 110, 100, 115]⟩, .string ⟨#[112, 111, 105, 110, 116, 115]⟩, .string ⟨#[122, 111, 110, 101, 115]⟩, .string ⟨#[114, 101, 103, 105, 111, 110, 115]⟩, .string ⟨#[118, 101, 114, 105, 102, 105, 101, 100]⟩, .string ⟨#[115, 104, 111, 116, 115]⟩, .string ⟨#[103, 114, 111, 117, 112, 115]⟩, .string ⟨#[119, 97, 116, 99, 104, 101, 115]⟩, .string ⟨#[105, 110, 99, 105, 100, 101, 110, 116, 115]⟩] 9)).cell? ⟨gd, 3, none⟩ = some (.slice A1 x.ma.length k1) := hp.c3
    have c4 : (w1.alloc (.cells #[.string ⟨#[111, 98, 115, 101, 114, 118, 101, 100]⟩, .string ⟨#[99, 101, 108, 108, 115]⟩, .string ⟨#[116, 101, 115, 116, 115]⟩, .string ⟨#[115, 116, 97, 110, 100, 115]⟩, .string ⟨#[112, 111, 105, 110, 116, 115]⟩, .string ⟨#[122, 111, 110, 101, 115]⟩, .string ⟨#[114, 101, 103, 105, 111, 110, 115]⟩, .string ⟨#[118, 101, 114, 105, 102, 105, 101, 100]⟩, .string ⟨#[115, 104, 111, 116, 115]⟩, .string ⟨#[103, 114, 111, 117, 112, 115]⟩, .string ⟨#[119, 97, 116, 99, 104, 101, 115]⟩, .string ⟨#[105, 110, 99, 105, 100, 101, 110, 116, 115]⟩] 9)).cell? ⟨gd, 4, none⟩ = some (.slice A2 x.te.length k2) := hp.c4
    have c5 : (w1.alloc (.cells #[.string ⟨#[111, 98, 115, 101, 114, 118, 101, 100]⟩, .string ⟨#[99, 101, 108, 108, 115]⟩, .string ⟨#[116, 101, 115, 116, 115]⟩, .string ⟨#[115, 116, 97, 110, 100, 115]⟩, .string ⟨#[112, 111, 105, 110, 116, 115]⟩, .string ⟨#[122, 111, 110, 101, 115]⟩, .string ⟨#[114, 101, 103, 105, 111, 110, 115]⟩, .string ⟨#[118, 101, 114, 105, 102, 105, 101, 100]⟩, .string ⟨#[115, 104, 111, 116, 115]⟩, .string ⟨#[103, 114, 111, 117, 112, 115]⟩, .string ⟨#[119, 97, 116, 99, 104, 101, 115]⟩, .string ⟨#[105, 110, 99, 105, 100, 101, 110, 116, 115]⟩] 9)).cell? ⟨gd, 5, none⟩ = some (.slice A3 x.st.length k3) := hp.c5
    have c6 : (w1.alloc (.cells #[.string ⟨#[111, 98, 115, 101, 114, 118, 101, 100]⟩, .string ⟨#[99, 101, 108, 108, 115]⟩, .string ⟨#[116, 101, 115, 116, 115]⟩, .string ⟨#[115, 116, 97, 110, 100, 115]⟩, .string ⟨#[112, 111, 105, 110, 116, 115]⟩, .string ⟨#[122, 111, 110, 101, 115]⟩, .string ⟨#[114, 101, 103, 105, 111, 110, 115]⟩, .string ⟨#[118, 101, 114, 105, 102, 105, 101, 100]⟩, .string ⟨#[115, 104, 111, 116, 115]⟩, .string ⟨#[103, 114, 111, 117, 112, 115]⟩, .string ⟨#[119, 97, 116, 99, 104, 101, 115]⟩, .string ⟨#[105, 110, 99, 105, 100, 101, 110, 116, 115]⟩] 9)).cell? ⟨gd, 6, none⟩ = some (.slice A4 x.pa.length k4) := hp.c6
    have c7 : (w1.alloc (.cells #[.string ⟨#[111, 98, 115, 101, 114, 118, 101, 100]⟩, .string ⟨#[99, 101, 108, 108, 115]⟩, .string ⟨#[116, 101, 115, 116, 115]⟩, .string ⟨#[115, 116, 97, 110, 100, 115]⟩, .string ⟨#[112, 111, 105, 110, 116, 115]⟩, .string ⟨#[122, 111, 110, 101, 115]⟩, .string ⟨#[114, 101, 103, 105, 111, 110, 115]⟩, .string ⟨#[118, 101, 114, 105, 102, 105, 101, 100]⟩, .string ⟨#[115, 104, 111, 116, 115]⟩, .string ⟨#[103, 114, 111, 117, 112, 115]⟩, .string ⟨#[119, 97, 116, 99, 104, 101, 115]⟩, .string ⟨#[105, 110, 99, 105, 100, 101, 110, 116, 115]⟩] 9)).cell? ⟨gd, 7, none⟩ = some (.slice A5 x.zo.length k5) := hp.c7
    have c8 : (w1.alloc (.cells #[.string ⟨#[111, 98, 115, 101, 114, 118, 101, 100]⟩, .string ⟨#[99, 101, 108, 108, 115]⟩, .string ⟨#[116, 101, 115, 116, 115]⟩, .string ⟨#[115, 116, 97, 110, 100, 115]⟩, .string ⟨#[112, 111, 105, 110, 116, 115]⟩, .string ⟨#[122, 111, 110, 101, 115]⟩, .string ⟨#[114, 101, 103, 105, 111, 110, 115]⟩, .string ⟨#[118, 101, 114, 105, 102, 105, 101, 100]⟩, .string ⟨#[115, 104, 111, 116, 115]⟩, .string ⟨#[103, 114, 111, 117, 112, 115]⟩, .string ⟨#[119, 97, 116, 99, 104, 101, 115]⟩, .string ⟨#[105, 110, 99, 105, 100, 101, 110, 116, 115]⟩] 9)).cell? ⟨gd, 8, none⟩ = some (.slice A6 x.re.length k6) := hp.c8
    have c9 : (w1.alloc (.cells #[.string ⟨#[111, 98, 115, 101, 114, 118, 101, 100]⟩, .string ⟨#[99, 101, 108, 108, 115]⟩, .string ⟨#[116, 101, 115, 116, 115]⟩, .string ⟨#[115, 116, 97, 110, 100, 115]⟩, .string ⟨#[112, 111, 105, 110, 116, 115]⟩, .string ⟨#[122, 111, 110, 101, 115]⟩, .string ⟨#[114, 101, 103, 105, 111, 110, 115]⟩, .string ⟨#[118, 101, 114, 105, 102, 105, 101, 100]⟩, .string ⟨#[115, 104, 111, 116, 115]⟩, .string ⟨#[103, 114, 111, 117, 112, 115]⟩, .string ⟨#[119, 97, 116, 99, 104, 101, 115]⟩, .string ⟨#[105, 110, 99, 105, 100, 101, 110, 116, 115]⟩] 9)).cell? ⟨gd, 9, none⟩ = some (.slice A7 x.ve.length k7) := hp.c9
    have c10 : (w1.alloc (.cells #[.string ⟨#[111, 98, 115, 101, 114, 118, 101, 100]⟩, .string ⟨#[99, 101, 108, 108, 115]⟩, .string ⟨#[116, 101, 115, 116, 115]⟩, .string ⟨#[115, 116, 97, 110, 100, 115]⟩, .string ⟨#[112, 111, 105, 110, 116, 115]⟩, .string ⟨#[122, 111, 110, 101, 115]⟩, .string ⟨#[114, 101, 103, 105, 111, 110, 115]⟩, .string ⟨#[118, 101, 114, 105, 102, 105, 101, 100]⟩, .string ⟨#[115, 104, 111, 116, 115]⟩, .string ⟨#[103, 114, 111, 117, 112, 115]⟩, .string ⟨#[119, 97, 116, 99, 104, 101, 115]⟩, .string ⟨#[105, 110, 99, 105, 100, 101, 110, 116, 115]⟩] 9)).cell? ⟨gd, 10, none⟩ = some (.slice A8 x.sh.length k8) := hp.c10
    have c11 : (w1.alloc (.cells #[.string ⟨#[111, 98, 115, 101, 114, 118, 101, 100]⟩, .string ⟨#[99, 101, 108, 108, 115]⟩, .string ⟨#[116, 101, 115, 116, 115]⟩, .string ⟨#[115, 116, 97, 110, 100, 115]⟩, .string ⟨#[112, 111, 105, 110, 116, 115]⟩, .string ⟨#[122, 111, 110, 101, 115]⟩, .string ⟨#[114, 101, 103, 105, 111, 110, 115]⟩, .string ⟨#[118, 101, 114, 105, 102, 105, 101, 100]⟩, .string ⟨#[115, 104, 111, 116, 115]⟩, .string ⟨#[103, 114, 111, 117, 112, 115]⟩, .string ⟨#[119, 97, 116, 99, 104, 101, 115]⟩, .string ⟨#[105, 110, 99, 105, 100, 101, 110, 116, 115]⟩] 9)).cell? ⟨gd, 11, none⟩ = some (.slice A9 x.gr.length k9) := hp.c11
    have c12 : (w1.alloc (.cells #[.string ⟨#[111, 98, 115, 101, 114, 118, 101, 100]⟩, .string ⟨#[99, 101, 108, 108, 115]⟩, .string ⟨#[116, 101, 115, 116, 115]⟩, .string ⟨#[115, 116, 97, 110, 100, 115]⟩, .string ⟨#[112, 111, 105, 110, 116, 115]⟩, .string ⟨#[122, 111, 110, 101, 115]⟩, .string ⟨#[114, 101, 103, 105, 111, 110, 115]⟩, .string ⟨#[118, 101, 114, 105, 102, 105, 101, 100]⟩, .string ⟨#[115, 104, 111, 116, 115]⟩, .string ⟨#[103, 114, 111, 117, 112, 115]⟩, .string ⟨#[119, 97, 116, 99, 104, 101, 115]⟩, .string ⟨#[105, 110, 99, 105, 100, 101, 110, 116, 115]⟩] 9)).cell? ⟨gd, 12, none⟩ = some (.slice A10 x.wa.length k10) := hp.c12
    have c13 : (w1.alloc (.cells #[.string ⟨#[111, 98, 115, 101, 114, 118, 101, 100]⟩, .string ⟨#[99, 101, 108, 108, 115]⟩, .string ⟨#[116, 101, 115, 116, 115]⟩, .string ⟨#[115, 116, 97, 110, 100, 115]⟩, .string ⟨#[112, 111, 105, 110, 116, 115]⟩, .string ⟨#[122, 111, 110, 101, 115]⟩, .string ⟨#[114, 101, 103, 105, 111, 110, 115]⟩, .string ⟨#[118, 101, 114, 105, 102, 105, 101, 100]⟩, .string ⟨#[115, 104, 111, 116, 115]⟩, .string ⟨#[103, 114, 111, 117, 112, 115]⟩, .string ⟨#[119, 97, 116, 99, 104, 101, 115]⟩, .string ⟨#[105, 110, 99, 105, 100, 101, 110, 116, 115]⟩] 9)).cell? ⟨gd, 13, none⟩ = some (.slice A11 x.in_.length k11) := hp.c13
    have hws := words_sl w1
    have hB1 : Below gd w (w1.alloc (.cells #[.string ⟨#[111, 98, 115, 101, 114, 118, 101, 100]⟩, .string ⟨#[99, 101, 108, 108, 115]⟩, .string ⟨#[116, 101, 115, 116, 115]⟩, .string ⟨#[115, 116, 97, 110, 100, 115]⟩, .string ⟨#[112, 111, 105, 110, 116, 115]⟩, .string ⟨#[122, 111, 110, 101, 115]⟩, .string ⟨#[114, 101, 103, 105, 111, 110, 115]⟩, .string ⟨#[118, 101, 114, 105, 102, 105, 101, 100]⟩, .string ⟨#[115, 104, 111, 116, 115]⟩, .string ⟨#[103, 114, 111, 117, 112, 115]⟩, .string ⟨#[119, 97, 116, 99, 104, 101, 115]⟩, .string ⟨#[105, 110, 99, 105, 100, 101, 110, 116, 115]⟩] 9)) := hB.alloc hga _
    have hcs := cnts_sl (w1.alloc (.cells #[.string ⟨#[111, 98, 115, 101, 114, 118, 101, 100]⟩, .string ⟨#[99, 101, 108, 108, 115]⟩, .string ⟨#[116, 101, 115, 116, 115]⟩, .string ⟨#[115, 116, 97, 110, 100, 115]⟩, .string ⟨#[112, 111, 105, 110, 116, 115]⟩, .string ⟨#[122, 111, 110, 101, 115]⟩, .string ⟨#[114, 101, 103, 105, 111, 110, 115]⟩, .string ⟨#[118, 101, 114, 105, 102, 105, 101, 100]⟩, .string ⟨#[115, 104, 111, 116, 115]⟩, .string ⟨#[103, 114, 111, 117, 112, 115]⟩, .string ⟨#[119, 97, 116, 99, 104, 101, 115]⟩, .string ⟨#[105, 110, 99, 105, 100, 101, 110, 116, 115]⟩] 9)) x hco
    have hws2 := hws.below' ((Below.refl _ _).alloc (Nat.le_refl _) (.cells #[.int .i64 (x.ob.length : Int), .int .i64 (x.ma.length : Int), .int .i64 (x.te.length : Int), .int .i64 (x.st.length : Int), .int .i64 (x.pa.length : Int), .int .i64 (x.zo.length : Int), .int .i64 (x.re.length : Int), .int .i64 (x.ve.length : Int), .int .i64 (x.sh.length : Int), .int .i64 (x.gr.length : Int), .int .i64 (x.wa.length : Int), .int .i64 (x.in_.length : Int)] 3))
    have hB2 : Below gd w ((w1.alloc (.cells #[.string ⟨#[111, 98, 115, 101, 114, 118, 101, 100]⟩, .string ⟨#[99, 101, 108, 108, 115]⟩, .string ⟨#[116, 101, 115, 116, 115]⟩, .string ⟨#[115, 116, 97, 110, 100, 115]⟩, .string ⟨#[112, 111, 105, 110, 116, 115]⟩, .string ⟨#[122, 111, 110, 101, 115]⟩, .string ⟨#[114, 101, 103, 105, 111, 110, 115]⟩, .string ⟨#[118, 101, 114, 105, 102, 105, 101, 100]⟩, .string ⟨#[115, 104, 111, 116, 115]⟩, .string ⟨#[103, 114, 111, 117, 112, 115]⟩, .string ⟨#[119, 97, 116, 99, 104, 101, 115]⟩, .string ⟨#[105, 110, 99, 105, 100, 101, 110, 116, 115]⟩] 9)).alloc (.cells #[.int .i64 (x.ob.length : Int), .int .i64 (x.ma.length : Int), .int .i64 (x.te.length : Int), .int .i64 (x.st.length : Int), .int .i64 (x.pa.length : Int), .int .i64 (x.zo.length : Int), .int .i64 (x.re.length : Int), .int .i64 (x.ve.length : Int), .int .i64 (x.sh.length : Int), .int .i64 (x.gr.length : Int), .int .i64 (x.wa.length : Int), .int .i64 (x.in_.length : Int)] 3)) := hB1.alloc (by rw [World.size_alloc]; omega) _
    rw [World.size_alloc] at hcs
    have hszC : ((w1.alloc (.cells #[.string ⟨#[111, 98, 115, 101, 114, 118, 101, 100]⟩, .string ⟨#[99, 101, 108, 108, 115]⟩, .string ⟨#[116, 101, 115, 116, 115]⟩, .string ⟨#[115, 116, 97, 110, 100, 115]⟩, .string ⟨#[112, 111, 105, 110, 116, 115]⟩, .string ⟨#[122, 111, 110, 101, 115]⟩, .string ⟨#[114, 101, 103, 105, 111, 110, 115]⟩, .string ⟨#[118, 101, 114, 105, 102, 105, 101, 100]⟩, .string ⟨#[115, 104, 111, 116, 115]⟩, .string ⟨#[103, 114, 111, 117, 112, 115]⟩, .string ⟨#[119, 97, 116, 99, 104, 101, 115]⟩, .string ⟨#[105, 110, 99, 105, 100, 101, 110, 116, 115]⟩] 9)).alloc (.cells #[.int .i64 (x.ob.length : Int), .int .i64 (x.ma.length : Int), .int .i64 (x.te.length : Int), .int .i64 (x.st.length : Int), .int .i64 (x.pa.length : Int), .int .i64 (x.zo.length : Int), .int .i64 (x.re.length : Int), .int .i64 (x.ve.length : Int), .int .i64 (x.sh.length : Int), .int .i64 (x.gr.length : Int), .int .i64 (x.wa.length : Int), .int .i64 (x.in_.length : Int)] 3)).heap.size = w1.heap.size + 2 := by simp
    go_wp2
    refine at_world (fun W => ∃ W1 : World, Below gd w W1 ∧ Sl fStr.cod W1 (.slice (some ⟨w1.heap.size, 0, none⟩) 12 12) wordsD [w1.heap.size] ∧ Sl fInt.cod W1 (.slice (some ⟨w1.heap.size + 1, 0, none⟩) 12 12) (cntsD x) [w1.heap.size + 1] ∧ W1.heap.size = w1.heap.size + 2 ∧ W = W1.alloc (.cells #[] 9)) ⟨_, hB2, hws2, hcs, hszC, rfl⟩ ?_
    rintro W ⟨W1, hBW, hws3, hcs3, hsz3, rfl⟩
    clear hB1 hB2 hws hws2 hcs hszC hp c0 c3 c4 c5 c6 c7 c8 c9 c10 c11 c12 c13 hB
    generalize w1.heap.size = ga at *
    generalize hgB : W1.heap.size = gB at *
    have hown0 : Own fStr (W1.alloc (.cells #[] 9)) gB 9 (.slice (some ⟨gB, 0, none⟩) 0 0) (linesD x 0) := by rw [← hgB]; exact Own.lit0 fStr W1 _
    have hb0 : Below gB W1 (W1.alloc (.cells #[] 9)) := by rw [← hgB]; exact (Below.refl _ _).alloc (Nat.le_refl _) _
    have hsz4 : gB = ga + 2 := hsz3
    have hgBl : gB ≤ W1.heap.size := by omega
    clear hsz3 hgB
    go_loopw [6, 7] (fun v i wr => ∃ k : Nat, k ≤ 12 ∧ i = .int .i64 k ∧ Own fStr wr gB 9 v (linesD x k) ∧ Below gB W1 wr) (fun _ i _ => 12 - (intOf i).toNat)
    case atStart => exact ⟨0, by omega, rfl, (by have h := hown0; rw [show (⟨gB, 0, none⟩ : Addr) = ⟨ga + 2, 0, none⟩ from by rw [hsz4]] at h; exact h), hb0⟩
    case round =>
      obtain ⟨k, hk, rfl, ho, hbW0⟩ := hrel
      have hg1 : ga < gB := by omega
      have hg2 : ga + 1 < gB := by omega
      clear hsz4
      have hbW : gB ≤ wr.heap.size := Nat.le_trans hgBl hbW0.size
      by_cases hlt : k < 12
      · obtain ⟨b, off, hA, hm, hok, hc1, _⟩ := (hws3.below hbW0 (fun b hb => by simp at hb; omega)).cell1 rfl (show k < wordsD.length from hlt) rfl
        injection hA with hA
        injection hA with hA hA2 _
        subst hA hA2
        obtain ⟨b', off', hA', hm', hok', hc2, _⟩ := (hcs3.below hbW0 (fun b hb => by simp at hb; omega)).cell1 rfl (show k < (cntsD x).length from hlt) rfl
        injection hA' with hA'
        injection hA' with hA' hA2 _
        subst hA' hA2
        have hz := lineD_size hco hlt
        have hcn := cntD_ok hco hlt
        have e1 : wordsD[k]'(show k < wordsD.length from hlt) = wordsD.getD k ⟨#[]⟩ := (getD_of_lt (show k < wordsD.length from hlt)).symm
        have e2 : (cntsD x)[k]'(show k < (cntsD x).length from hlt) = (cntsD x).getD k 0 := (getD_of_lt (show k < (cntsD x).length from hlt)).symm
        rw [e1, Nat.zero_add] at hc1
        rw [e2, Nat.zero_add] at hc2
        clear e1 e2
        unfold lineD at hz
        have hz3 := wordsD_size hlt
        have hz4 : (decS ((cntsD x).getD k 0)).size ≤ 21 := by rw [decS_size]; exact itoa_len20 (by omega) (by omega)
        clear hz
        have HLN : Hid (lineD x k = wordsD.getD k ⟨#[]⟩ ++ ⟨#[32]⟩ ++ decS ((cntsD x).getD k 0)) := rfl
        generalize (cntsD x).getD k 0 = cn at *
        generalize wordsD.getD k ⟨#[]⟩ = wd at *
        have hz5 : ¬ 9223372036854775807 < wd.size + 1 := by omega
        have hz6 : ¬ 9223372036854775807 < wd.size + 1 + (decS cn).size := by omega
        have hz7 : (wd ++ ⟨#[32]⟩ : ByteArray).size = wd.size + 1 := by rw [ByteArray.size_append]; rfl
        go_wp2
        have gk1 : ∀ p : KeptW (gB) wr (fun N => N.cell? ⟨ga, k, none⟩ = some (.string wd) ∧ N.cell? ⟨ga + 1, k, none⟩ = some (.int .i64 cn)), p.v.cell? ⟨ga, k, none⟩ = some (.string wd) := fun p => p.x.1
        have gk2 : ∀ p : KeptW (gB) wr (fun N => N.cell? ⟨ga, k, none⟩ = some (.string wd) ∧ N.cell? ⟨ga + 1, k, none⟩ = some (.int .i64 cn)), p.v.cell? ⟨ga + 1, k, none⟩ = some (.int .i64 cn) := fun p => p.x.2
        have ghc1 := cell_regrown hc1
        have ghc2 := cell_regrown hc2
        haveI hKne : Nonempty (KeptW (gB) wr (fun N => N.cell? ⟨ga, k, none⟩ = some (.string wd) ∧ N.cell? ⟨ga + 1, k, none⟩ = some (.int .i64 cn))) := ⟨⟨_, Below.drew (Below.refl _ _), ⟨(((Below.drew (Below.refl _ _))).cell (p := ⟨ga, k, none⟩) (show ga < gB by omega)).trans hc1, (((Below.drew (Below.refl _ _))).cell (p := ⟨ga + 1, k, none⟩) (show ga + 1 < gB by omega)).trans hc2⟩⟩⟩
        refine wp_region_mix (C := fun w' => ∃ p : KeptW (gB) wr (fun N => N.cell? ⟨ga, k, none⟩ = some (.string wd) ∧ N.cell? ⟨ga + 1, k, none⟩ = some (.int .i64 cn)), w' = p.v) [true, true, true, true, true, true, true, true, true, true, false, true, false, false, true] (by kernel_rfl) (by kernel_rfl) (by kernel_rfl) (fun _ _ d _ _ h => by cases d <;> exact h) ⟨⟨_, Below.drew (Below.refl _ _), ⟨(((Below.drew (Below.refl _ _))).cell (p := ⟨ga, k, none⟩) (show ga < gB by omega)).trans hc1, (((Below.drew (Below.refl _ _))).cell (p := ⟨ga + 1, k, none⟩) (show ga + 1 < gB by omega)).trans hc2⟩⟩, rfl⟩ ?_
        have hS0 : Below (gB) wr wr.drew := Below.drew (Below.refl _ _)
        refine wpMix_pure (by kernel_rfl) (fun K hK => ?_); go_big_quiet_op; refine hK _ ?_; clear hK K
        refine wpMix_pure (by kernel_rfl) (fun K hK => ?_); go_big_quiet_op; refine hK _ ?_; clear hK K
        refine wpMix_pure (by kernel_rfl) (fun K hK => ?_); go_big_quiet_op; refine hK _ ?_; clear hK K
        refine wpMix_pure (by kernel_rfl) (fun K hK => ?_); go_big_quiet_op; refine hK _ ?_; clear hK K
        refine wpMix_pure (by kernel_rfl) (fun K hK => ?_); go_big_quiet_op; refine hK _ ?_; clear hK K
        refine wpMix_pure (by kernel_rfl) (fun K hK => ?_); go_big_quiet_op; refine hK _ ?_; clear hK K
        refine wpMix_pure (by kernel_rfl) (fun K hK => ?_); go_big_quiet_op; refine hK _ ?_; clear hK K
        refine wpMix_pure (by kernel_rfl) (fun K hK => ?_); go_big_quiet_op; refine hK _ ?_; clear hK K
        refine wpMix_pure (by kernel_rfl) (fun K hK => ?_); go_big_quiet_op; refine hK _ ?_; clear hK K
        refine wpMix_pure (by kernel_rfl) (fun K hK => ?_); go_big_quiet_op; refine hK _ ?_; clear hK K
        refine wpMix_act (by kernel_rfl) (fun K hK => ?_)
        go_big_op
        refine (l01Dec_any cn _ (by omega) (by omega)).mono ?_
        rintro e wr1 ⟨rfl, hbr1⟩
        have hbr1S : Below (gB) wr wr1 := hS0.trans (hbr1.mono (Nat.le_trans hbW hS0.size))
        refine hK _ _ ⟨⟨_, hbr1S, ⟨((hbr1S).cell (p := ⟨ga, k, none⟩) (show ga < gB by omega)).trans hc1, ((hbr1S).cell (p := ⟨ga + 1, k, none⟩) (show ga + 1 < gB by omega)).trans hc2⟩⟩, rfl⟩ ?_
        clear hK K
        refine wpMix_pure (by kernel_rfl) (fun K hK => ?_); go_big_quiet_op; refine hK _ ?_; clear hK K
        refine wpMix_act (by kernel_rfl) (fun K hK => ?_)
        go_big_op
        refine hK _ _ ⟨⟨_, (hbr1S.alloc (Nat.le_trans hbW hbr1S.size) _), ⟨(((hbr1S.alloc (Nat.le_trans hbW hbr1S.size) _)).cell (p := ⟨ga, k, none⟩) (show ga < gB by omega)).trans hc1, (((hbr1S.alloc (Nat.le_trans hbW hbr1S.size) _)).cell (p := ⟨ga + 1, k, none⟩) (show ga + 1 < gB by omega)).trans hc2⟩⟩, rfl⟩ ?_
        clear hK K
        refine mix_world (fun N => Below (gB) wr N ∧ N.ownsRow gB 9 1 u6 (linesD x k).length ((linesD x k).flatMap fStr.enc) ∧ N.cell? ⟨wr1.heap.size, 0, none⟩ = some (.string (wd ++ ⟨#[32]⟩ ++ decS cn))) ⟨hbr1S.alloc (Nat.le_trans hbW hbr1S.size) _, ⟨World.ownsRow.alloc ((ho.below (Below.drew (Below.refl _ _))).below hbr1) _, by simp⟩⟩ ?_
        rintro wr2 ⟨hbr2S, hbr2F⟩
        refine wpMix_act (by kernel_rfl) (fun K hK => ?_)
        obtain ⟨hown9, q0⟩ := hbr2F
        refine wp_append_at1 _ _ _ 38 rfl gB 9 i0 (.string ⟨#[]⟩) 1 16 Tryz.underlying38 hi hz0 hz1 hz2 rfl (by decide) u6 (linesD x k).length _ rfl hown9 [.string (wd ++ ⟨#[32]⟩ ++ decS cn)] rfl (by intro u hu; rw [List.mem_singleton] at hu; subst hu; rfl) wr1.heap.size rfl (by intro j u hj; match j, hj with | 0, hj => (injection hj with hj; subst hj; exact q0) | j + 1, hj => (simp at hj)) (by rw [linesD_len]; omega) (by decide) (Nat.le_trans hbW hbr2S.size) ?_
        intro v' u hown hbu hgr
        have hbuS : Below (gB) wr u := hbr2S.trans hbu
        try simp only [Act.put, List.setIfInBounds_toArray, List.set_cons_zero, List.set_cons_succ]
        refine hK _ _ ⟨⟨_, hbuS, ⟨((hbuS).cell (p := ⟨ga, k, none⟩) (show ga < gB by omega)).trans hc1, ((hbuS).cell (p := ⟨ga + 1, k, none⟩) (show ga + 1 < gB by omega)).trans hc2⟩⟩, rfl⟩ ?_
        clear hK K
        refine wpMix_pure (by kernel_rfl) (fun K hK => ?_); go_big_quiet_op; refine hK _ ?_; clear hK K
        refine wpMix_nil ?_
        have ho5 : Own fStr u gB 9 v' (linesD x (k + 1)) := by rw [linesD_step, HLN.out]; exact Own.push _ (by rw [linesD_len]) hown
        clear hown
        have hb9 := hbW0.trans hbuS
        go_wp2
        go_roundw
        case rel => exact ⟨k + 1, by omega, by go_num, ho5, hb9⟩
        case measure => simp [intOf]; omega
      · obtain rfl : k = 12 := by omega
        have ho5 : Own fStr wr gB 9 u6 (drpF x) := by rw [HF.out]; exact ho
        have hoks : ∀ y ∈ drpF x, fStr.ok y := by rw [HF.out]; exact linesD_ok hco (Nat.le_refl _)
        clear ho
        go_wp2
        go_ret2
        refine ⟨_, by rw [HC.out]; rfl, ?_⟩
        have hbz : Below w.heap.size w wr := by rw [HG.out]; exact hBW.trans (hbW0.mono (by omega))
        exact Own.newD ho5 (by rw [HG.out]; omega) hbz hoks
structure WdB (w : World) (wq : Nat) (wd : ByteArray) (cn : Int) : Prop where
  c0 : w.cell? ⟨wq, 0, none⟩ = some (.string wd)
  c1 : w.cell? ⟨wq, 1, none⟩ = some (.int .i64 cn)
theorem WdB.lt {w : World} {wq : Nat} {wd : ByteArray} {cn : Int} (h : WdB w wq wd cn) : wq < w.heap.size := block_lt_of_cell h.c0
theorem WdB.below' {w w' : World} {wq : Nat} {wd : ByteArray} {cn : Int} (h : WdB w wq wd cn) (hb : Below w.heap.size w w') : WdB w' wq wd cn :=
  ⟨(hb.cell (p := ⟨wq, 0, none⟩) h.lt).trans h.c0, (hb.cell (p := ⟨wq, 1, none⟩) h.lt).trans h.c1⟩
set_option maxRecDepth 100000 in
set_option maxHeartbeats 8000000 in
theorem implDeskReport_any (x : DDesk) (v : DVals) (F : Nat → List Nat) (w : World) (hd : DeskRd w v x F) (ht : Tab10 w) :
    Calls Tryz.prog 7 #[deskA v x] w fun e w' => NewR2 fStr.cod w (drpF x) (drpC x) e w' := by
  have hco := CntOk.of hd
  obtain ⟨i0, hi, hz0, hz1, hz2⟩ := info_parts infoStrDp
  obtain ⟨q0, q1, q2, q3, q4, q5, q6, q7, q8, q9, q10, q11⟩ := v
  obtain ⟨A0, k0, h0, _, _⟩ := hd.ob.form
  simp only at h0
  subst h0
  obtain ⟨A1, k1, h1, _, _⟩ := hd.ma.form
  simp only at h1
  subst h1
  obtain ⟨A2, k2, h2, _, _⟩ := hd.te.form
  simp only at h2
  subst h2
  obtain ⟨A3, k3, h3, _, _⟩ := hd.st.form
  simp only at h3
  subst h3
  obtain ⟨A4, k4, h4, _, _⟩ := hd.pa.form
  simp only at h4
  subst h4
  obtain ⟨A5, k5, h5, _, _⟩ := hd.zo.form
  simp only at h5
  subst h5
  obtain ⟨A6, k6, h6, _, _⟩ := hd.re.form
  simp only at h6
  subst h6
  obtain ⟨A7, k7, h7, _, _⟩ := hd.ve.form
  simp only at h7
  subst h7
  obtain ⟨A8, k8, h8, _, _⟩ := hd.sh.form
  simp only at h8
  subst h8
  obtain ⟨A9, k9, h9, _, _⟩ := hd.gr.form
  simp only at h9
  subst h9
  obtain ⟨A10, k10, h10, _, _⟩ := hd.wa.form
  simp only at h10
  subst h10
  obtain ⟨A11, k11, h11, _, _⟩ := hd.in_.form
  simp only at h11
  subst h11
  have hB : Below w.heap.size w (w.alloc (.cells #[.slice A0 x.ob.length k0, .int .i64 x.rows, .int .i64 x.columns, .slice A1 x.ma.length k1, .slice A2 x.te.length k2, .slice A3 x.st.length k3, .slice A4 x.pa.length k4, .slice A5 x.zo.length k5, .slice A6 x.re.length k6, .slice A7 x.ve.length k7, .slice A8 x.sh.length k8, .slice A9 x.gr.length k9, .slice A10 x.wa.length k10, .slice A11 x.in_.length k11] 53)) := (Below.refl _ _).alloc (Nat.le_refl _) _
  have hp := DBox.new w ⟨.slice A0 x.ob.length k0, .slice A1 x.ma.length k1, .slice A2 x.te.length k2, .slice A3 x.st.length k3, .slice A4 x.pa.length k4, .slice A5 x.zo.length k5, .slice A6 x.re.length k6, .slice A7 x.ve.length k7, .slice A8 x.sh.length k8, .slice A9 x.gr.length k9, .slice A10 x.wa.length k10, .slice A11 x.in_.length k11⟩ x 53
  have hd1 := hd.below' hB
  unfold deskA
  have b0 := hp.c0
  have b1 := hp.c1
  have b2 := hp.c2
  have b3 := hp.c3
  have b4 := hp.c4
  have b5 := hp.c5
  have b6 := hp.c6
  have b7 := hp.c7
  have b8 := hp.c8
  have b9 := hp.c9
  have b10 := hp.c10
  have b11 := hp.c11
  have b12 := hp.c12
  have b13 := hp.c13
  go_enter Tryz.func7, Tryz.ntmps7
  go_wp2_with fail
  refine (implValidDesk_any x ⟨.slice A0 x.ob.length k0, .slice A1 x.ma.length k1, .slice A2 x.te.length k2, .slice A3 x.st.length k3, .slice A4 x.pa.length k4, .slice A5 x.zo.length k5, .slice A6 x.re.length k6, .slice A7 x.ve.length k7, .slice A8 x.sh.length k8, .slice A9 x.gr.length k9, .slice A10 x.wa.length k10, .slice A11 x.in_.length k11⟩ F _ hd1).mono ?_
  rintro e w1 ⟨rfl, hbn⟩
  replace hp := hp.below' hbn
  replace hB := hB.trans (hbn.mono hB.size)
  clear hd1 hbn b0 b1 b2 b3 b4 b5 b6 b7 b8 b9 b10 b11 b12 b13
  cases h0 : deskB x
  · go_wp2
    go_ret2
    exact ⟨_, by rw [drpC, h0]; rfl, by rw [drpF, h0]; exact New.nil hB⟩
  · have HC := Lib.hid (show drpC x = 0 from by rw [drpC, h0]; rfl)
    have HF := Lib.hid (show drpF x = linesD x 12 from by rw [drpF, h0]; rfl)
    clear h0
    have c0 : w1.cell? ⟨w.heap.size, 0, none⟩ = some (.slice A0 x.ob.length k0) := hp.c0
    have c3 : w1.cell? ⟨w.heap.size, 3, none⟩ = some (.slice A1 x.ma.length k1) := hp.c3
    have c4 : w1.cell? ⟨w.heap.size, 4, none⟩ = some (.slice A2 x.te.length k2) := hp.c4
    have c5 : w1.cell? ⟨w.heap.size, 5, none⟩ = some (.slice A3 x.st.length k3) := hp.c5
    have c6 : w1.cell? ⟨w.heap.size, 6, none⟩ = some (.slice A4 x.pa.length k4) := hp.c6
    have c7 : w1.cell? ⟨w.heap.size, 7, none⟩ = some (.slice A5 x.zo.length k5) := hp.c7
    have c8 : w1.cell? ⟨w.heap.size, 8, none⟩ = some (.slice A6 x.re.length k6) := hp.c8
    have c9 : w1.cell? ⟨w.heap.size, 9, none⟩ = some (.slice A7 x.ve.length k7) := hp.c9
    have c10 : w1.cell? ⟨w.heap.size, 10, none⟩ = some (.slice A8 x.sh.length k8) := hp.c10
    have c11 : w1.cell? ⟨w.heap.size, 11, none⟩ = some (.slice A9 x.gr.length k9) := hp.c11
    have c12 : w1.cell? ⟨w.heap.size, 12, none⟩ = some (.slice A10 x.wa.length k10) := hp.c12
    have c13 : w1.cell? ⟨w.heap.size, 13, none⟩ = some (.slice A11 x.in_.length k11) := hp.c13
    have hws := wm_sl w1 89 x hco
    have hB1 : Below w.heap.size w (w1.alloc (.cells #[.string ⟨#[111, 98, 115, 101, 114, 118, 101, 100]⟩, .int .i64 (x.ob.length : Int), .string ⟨#[99, 101, 108, 108, 115]⟩, .int .i64 (x.ma.length : Int), .string ⟨#[116, 101, 115, 116, 115]⟩, .int .i64 (x.te.length : Int), .string ⟨#[115, 116, 97, 110, 100, 115]⟩, .int .i64 (x.st.length : Int), .string ⟨#[112, 111, 105, 110, 116, 115]⟩, .int .i64 (x.pa.length : Int), .string ⟨#[122, 111, 110, 101, 115]⟩, .int .i64 (x.zo.length : Int), .string ⟨#[114, 101, 103, 105, 111, 110, 115]⟩, .int .i64 (x.re.length : Int), .string ⟨#[118, 101, 114, 105, 102, 105, 101, 100]⟩, .int .i64 (x.ve.length : Int), .string ⟨#[115, 104, 111, 116, 115]⟩, .int .i64 (x.sh.length : Int), .string ⟨#[103, 114, 111, 117, 112, 115]⟩, .int .i64 (x.gr.length : Int), .string ⟨#[119, 97, 116, 99, 104, 101, 115]⟩, .int .i64 (x.wa.length : Int), .string ⟨#[105, 110, 99, 105, 100, 101, 110, 116, 115]⟩, .int .i64 (x.in_.length : Int)] 89)) := hB.alloc hB.size _
    have hszC : (w1.alloc (.cells #[.string ⟨#[111, 98, 115, 101, 114, 118, 101, 100]⟩, .int .i64 (x.ob.length : Int), .string ⟨#[99, 101, 108, 108, 115]⟩, .int .i64 (x.ma.length : Int), .string ⟨#[116, 101, 115, 116, 115]⟩, .int .i64 (x.te.length : Int), .string ⟨#[115, 116, 97, 110, 100, 115]⟩, .int .i64 (x.st.length : Int), .string ⟨#[112, 111, 105, 110, 116, 115]⟩, .int .i64 (x.pa.length : Int), .string ⟨#[122, 111, 110, 101, 115]⟩, .int .i64 (x.zo.length : Int), .string ⟨#[114, 101, 103, 105, 111, 110, 115]⟩, .int .i64 (x.re.length : Int), .string ⟨#[118, 101, 114, 105, 102, 105, 101, 100]⟩, .int .i64 (x.ve.length : Int), .string ⟨#[115, 104, 111, 116, 115]⟩, .int .i64 (x.sh.length : Int), .string ⟨#[103, 114, 111, 117, 112, 115]⟩, .int .i64 (x.gr.length : Int), .string ⟨#[119, 97, 116, 99, 104, 101, 115]⟩, .int .i64 (x.wa.length : Int), .string ⟨#[105, 110, 99, 105, 100, 101, 110, 116, 115]⟩, .int .i64 (x.in_.length : Int)] 89)).heap.size = w1.heap.size + 1 := by simp
    have hga : w.heap.size ≤ w1.heap.size := hB.size
    go_wp2
    refine at_world (fun W => Below w.heap.size w W ∧ Sl fWM.cod W (.slice (some ⟨w1.heap.size, 0, none⟩) 12 12) (wmD x) [w1.heap.size] ∧ W.heap.size = w1.heap.size + 1) ⟨hB1, hws, hszC⟩ ?_
    rintro W1 ⟨hBW, hws3, hsz3⟩
    clear hB1 hws hszC hp c0 c3 c4 c5 c6 c7 c8 c9 c10 c11 c12 c13 hB
    generalize w1.heap.size = ga at *
    generalize hgB : W1.heap.size = gB at *
    have hown0 : Own fStr W1 gB 9 (.slice none 0 0) (linesD x 0) := Own.nil fStr _ _ _
    have hgBl : gB ≤ W1.heap.size := by omega
    have hgw : w.heap.size ≤ gB := by omega
    have hg1 : ga < gB := by omega
    clear hsz3 hgB
    go_loopw [5, 63] (fun v i wr => ∃ k : Nat, k ≤ 12 ∧ i = .int .i64 k ∧ Own fStr wr gB 9 v (linesD x k) ∧ Below gB W1 wr) (fun _ i _ => 12 - (intOf i).toNat)
    case atStart => exact ⟨0, by omega, rfl, hown0, (Below.refl _ _).mono hgBl⟩
    case round =>
      obtain ⟨k, hk, rfl, ho, hbW0⟩ := hrel
      have hbW2 : gB ≤ wr.heap.size := Nat.le_trans hgBl hbW0.size
      by_cases hlt : k < 12
      · obtain ⟨b, off, hA, hm, hok, hcs, _⟩ := (hws3.below hbW0 (fun b hb => by simp at hb; omega)).at_ (show k < (wmD x).length from hlt)
        injection hA with hA
        injection hA with hA hA2 _
        subst hA hA2
        have hc1 := hcs 0 (by decide)
        have hc2 := hcs 1 (by decide)
        have e1 := (wmD_at (x := x) (show k < (wmD x).length from hlt)).1
        have e2 := (wmD_at (x := x) (show k < (wmD x).length from hlt)).2
        replace hc1 : wr.cell? ⟨ga, 0 + k * 2 + 0, none⟩ = some (.string ((wmD x)[k]'(show k < (wmD x).length from hlt)).word) := hc1
        replace hc2 : wr.cell? ⟨ga, 0 + k * 2 + 1, none⟩ = some (.int .i64 ((wmD x)[k]'(show k < (wmD x).length from hlt)).many) := hc2
        rw [e1, Nat.zero_add, Nat.add_zero] at hc1
        rw [e2, Nat.zero_add] at hc2
        clear e1 e2 hcs
        have hz := lineD_size hco hlt
        have hcn := cntD_ok hco hlt
        have hz3 := wordsD_size hlt
        have hz4 : (decS ((cntsD x).getD k 0)).size ≤ 21 := by rw [decS_size]; exact itoa_len20 (by omega) (by omega)
        clear hz
        have HLN : Hid (lineD x k = wordsD.getD k ⟨#[]⟩ ++ ⟨#[32]⟩ ++ decS ((cntsD x).getD k 0)) := rfl
        generalize (cntsD x).getD k 0 = cn at *
        generalize wordsD.getD k ⟨#[]⟩ = wd at *
        have hz5 : ¬ 9223372036854775807 < wd.size + 1 := by omega
        have hz6 : ¬ 9223372036854775807 < wd.size + 1 + (decS cn).size := by omega
        have hz7 : (wd ++ ⟨#[32]⟩ : ByteArray).size = wd.size + 1 := by rw [ByteArray.size_append]; rfl
        have hrow : u5.ownBlock ≠ some wr.heap.size := fun e => by have := (World.ownsRow.lt ho _ e).2; omega
        have hBz : Below w.heap.size w wr := hBW.trans (hbW0.mono hgw)
        go_wp2
        refine at_world (fun W => (Below w.heap.size w W ∧ Below gB W1 W) ∧ WdB W wr.heap.size wd cn ∧ Own fStr W gB 9 u5 (linesD x k)) ⟨⟨hBz.alloc hBz.size _, hbW0.alloc hbW2 _⟩, ⟨by simp, by simp⟩, World.ownsRow.alloc ho _⟩ ?_
        clear hc1 hc2 ho
        generalize wr.heap.size = wq at *
        rintro W ⟨⟨hBZ, hBV⟩, hpX, hoW⟩
        have hbW := Nat.le_trans hgBl hBV.size
        have hrowne : some wq = u5.ownBlock → False := fun e => hrow e.symm
        have gk0 : ∀ p : KeptW (gB) W (fun N => WdB N wq wd cn), p.v.cell? ⟨wq, 0, none⟩ = some (.string wd) := fun p => p.x.c0
        have gk1 : ∀ p : KeptW (gB) W (fun N => WdB N wq wd cn), p.v.cell? ⟨wq, 1, none⟩ = some (.int .i64 cn) := fun p => p.x.c1
        haveI hKne : Nonempty (KeptW (gB) W (fun N => WdB N wq wd cn)) := ⟨⟨_, Below.drew (Below.refl _ _), (hpX.below' (Below.drew (Below.refl _ _)))⟩⟩
        refine wp_region_mix (C := fun w' => ∃ p : KeptW (gB) W (fun N => WdB N wq wd cn), w' = p.v) [true, true, true, true, true, true, false, true, false, false, true] (by kernel_rfl) (by kernel_rfl) (by kernel_rfl) (fun _ _ d _ _ h => by cases d <;> exact h) ⟨⟨_, Below.drew (Below.refl _ _), (hpX.below' (Below.drew (Below.refl _ _)))⟩, rfl⟩ ?_
        have hS0 : Below (gB) W W.drew := Below.drew (Below.refl _ _)
        refine wpMix_pure (by kernel_rfl) (fun K hK => ?_); go_big_quiet_op; refine hK _ ?_; clear hK K
        refine wpMix_pure (by kernel_rfl) (fun K hK => ?_); go_big_quiet_op; refine hK _ ?_; clear hK K
        refine wpMix_pure (by kernel_rfl) (fun K hK => ?_); go_big_quiet_op; refine hK _ ?_; clear hK K
        refine wpMix_pure (by kernel_rfl) (fun K hK => ?_); go_big_quiet_op; refine hK _ ?_; clear hK K
        refine wpMix_pure (by kernel_rfl) (fun K hK => ?_); go_big_quiet_op; refine hK _ ?_; clear hK K
        refine wpMix_pure (by kernel_rfl) (fun K hK => ?_); go_big_quiet_op; refine hK _ ?_; clear hK K
        refine wpMix_act (by kernel_rfl) (fun K hK => ?_)
        go_big_op
        refine (Decimal_any cn _ (by omega) (by omega) (ht.below (hBZ.trans ((hS0).mono hgw)))).mono ?_
        rintro e wr1 ⟨rfl, hbr1⟩
        have hbr1S : Below (gB) W wr1 := hS0.trans (hbr1.mono (Nat.le_trans hbW hS0.size))
        refine hK _ _ ⟨⟨_, hbr1S, (((hpX.below' (Below.drew (Below.refl _ _)))).below' hbr1)⟩, rfl⟩ ?_
        clear hK K
        refine wpMix_pure (by kernel_rfl) (fun K hK => ?_); go_big_quiet_op; refine hK _ ?_; clear hK K
        refine wpMix_act (by kernel_rfl) (fun K hK => ?_)
        go_big_op
        refine hK _ _ ⟨⟨_, (hbr1S.alloc (Nat.le_trans hbW hbr1S.size) _), (((((hpX.below' (Below.drew (Below.refl _ _)))).below' hbr1)).below' ((Below.refl _ _).alloc (Nat.le_refl _) _))⟩, rfl⟩ ?_
        clear hK K
        refine mix_world (fun N => Below (gB) W N ∧ WdB N wq wd cn ∧ N.ownsRow gB 9 1 u5 (linesD x k).length ((linesD x k).flatMap fStr.enc) ∧ N.cell? ⟨wr1.heap.size, 0, none⟩ = some (.string (wd ++ ⟨#[32]⟩ ++ decS cn))) ⟨hbr1S.alloc (Nat.le_trans hbW hbr1S.size) _, ⟨((hpX.below' (Below.drew (Below.refl _ _))).below' hbr1).below' ((Below.refl _ _).alloc (Nat.le_refl _) _), ⟨World.ownsRow.alloc ((hoW.below (Below.drew (Below.refl _ _))).below hbr1) _, by simp⟩⟩⟩ ?_
        rintro wr2 ⟨hbr2S, hbr2F⟩
        refine wpMix_act (by kernel_rfl) (fun K hK => ?_)
        obtain ⟨hwb, hown9, q0⟩ := hbr2F
        refine wp_append_at1 _ _ _ 38 rfl gB 9 i0 (.string ⟨#[]⟩) 1 16 Tryz.underlying38 hi hz0 hz1 hz2 rfl (by decide) u5 (linesD x k).length _ rfl hown9 [.string (wd ++ ⟨#[32]⟩ ++ decS cn)] rfl (by intro u hu; rw [List.mem_singleton] at hu; subst hu; rfl) wr1.heap.size rfl (by intro j u hj; match j, hj with | 0, hj => (injection hj with hj; subst hj; exact q0) | j + 1, hj => (simp at hj)) (by rw [linesD_len]; omega) (by decide) (Nat.le_trans hbW hbr2S.size) ?_
        intro v' u hown hbu hgr
        have hpu : WdB u wq wd cn := ⟨(World.cell?_of_block (a := ⟨wq, 0, none⟩) (hgr.block wq hwb.lt (fun e => hrowne e))).trans hwb.c0, (World.cell?_of_block (a := ⟨wq, 1, none⟩) (hgr.block wq hwb.lt (fun e => hrowne e))).trans hwb.c1⟩
        have hbuS : Below (gB) W u := hbr2S.trans hbu
        try simp only [Act.put, List.setIfInBounds_toArray, List.set_cons_zero, List.set_cons_succ]
        refine hK _ _ ⟨⟨_, hbuS, hpu⟩, rfl⟩ ?_
        clear hK K
        refine wpMix_pure (by kernel_rfl) (fun K hK => ?_); go_big_quiet_op; refine hK _ ?_; clear hK K
        refine wpMix_nil ?_
        have ho5 : Own fStr u gB 9 v' (linesD x (k + 1)) := by rw [linesD_step, HLN.out]; exact Own.push _ (by rw [linesD_len]) hown
        clear hown
        have hb9 := hBV.trans hbuS
        go_wp2
        go_roundw
        case rel => exact ⟨k + 1, by omega, by go_num, ho5, hb9⟩
        case measure => simp [intOf]; omega
      · obtain rfl : k = 12 := by omega
        have ho5 : Own fStr wr gB 9 u5 (drpF x) := by rw [HF.out]; exact ho
        have hoks : ∀ y ∈ drpF x, fStr.ok y := by rw [HF.out]; exact linesD_ok hco (Nat.le_refl _)
        clear ho
        go_wp2
        go_ret2
        refine ⟨_, by rw [HC.out]; rfl, ?_⟩
        exact Own.newD ho5 hgw (hBW.trans (hbW0.mono hgw)) hoks
end Go.Proofs.YtldigalncjhkeaaGreatDoor

namespace Go.Proofs.YtldigalncjhkeaaGreatDoor
open Go.RowKit
set_option linter.unusedVariables false

theorem drpF_len (x : DDesk) : (drpF x).length ≤ 100000000000 := by
  unfold drpF; split
  · rw [linesD_len]; omega
  · simp
theorem lensR_le : ∀ xs : List DRegion, xs.length + (lensR xs).sum ≤ totRegionS xs := by
  intro xs
  unfold totRegionS lensR
  induction xs with
  | nil => simp
  | cons r xs ih =>
    have h : r.near.length ≤ totRegion r := by unfold totRegion totStringS; omega
    simp only [List.map_cons, List.sum_cons, List.length_cons]
    omega
theorem desk_lens {x : DDesk} (ht : totDesk x ≤ 1048576) : x.ob.length ≤ 1000000000 ∧ x.ma.length ≤ 1000000000 ∧ x.te.length ≤ 1000000000 ∧ x.st.length ≤ 1000000000 ∧ x.pa.length ≤ 1000000000 ∧ x.zo.length ≤ 1000000000 ∧ (x.re.length ≤ 1000000000 ∧ (lensR x.re).sum ≤ 1000000000) ∧ x.ve.length ≤ 1000000000 ∧ x.sh.length ≤ 1000000000 ∧ x.gr.length ≤ 1000000000 ∧ x.wa.length ≤ 1000000000 ∧ x.in_.length ≤ 1000000000 := by
  have e := lensR_le x.re
  unfold totDesk totObservedS totInt64S totTestS totStandS totPathPointS totVerifiedS totShotS totGroupS totWatchS totIncidentS at ht
  refine ⟨?_, ?_, ?_, ?_, ?_, ?_, ⟨?_, ?_⟩, ?_, ?_, ?_, ?_, ?_⟩ <;> omega
set_option maxRecDepth 100000 in
set_option maxHeartbeats 16000000 in
theorem walkDeskReport (x : DDesk) (va : DVals) (Fa : Nat → List Nat) (w : World) (ha : DeskRd w va x Fa) (ht : Tab10 w) :
    Calls Tryz.prog 3 #[deskA va x] w fun e w' => YesR w e w' := by
  have hia := ha.ltF
  have hB : Below w.heap.size w (w.alloc (.cells #[va.ob, .int .i64 x.rows, .int .i64 x.columns, va.ma, va.te, va.st, va.pa, va.zo, va.re, va.ve, va.sh, va.gr, va.wa, va.in_] 36)) := (Below.refl _ _).alloc (Nat.le_refl _) _
  have pa := DBox.new w va x 36
  replace ha := ha.below' hB
  unfold deskA
  go_enter Tryz.func3, Tryz.ntmps3
  have ca0 := pa.c0
  have ca1 := pa.c1
  have ca2 := pa.c2
  have ca3 := pa.c3
  have ca4 := pa.c4
  have ca5 := pa.c5
  have ca6 := pa.c6
  have ca7 := pa.c7
  have ca8 := pa.c8
  have ca9 := pa.c9
  have ca10 := pa.c10
  have ca11 := pa.c11
  have ca12 := pa.c12
  have ca13 := pa.c13
  go_wp2_with fail
  generalize w.alloc (.cells #[va.ob, .int .i64 x.rows, .int .i64 x.columns, va.ma, va.te, va.st, va.pa, va.zo, va.re, va.ve, va.sh, va.gr, va.wa, va.in_] 36) = w0 at *
  refine (szDesk_any x va _ 1048576 _ ha (by omega) (by omega)).mono ?_
  rintro e w1 ⟨r0, rfl, hr0_, hbn⟩
  replace ha := ha.below' hbn
  replace pa := pa.below' hbn
  replace hB := hB.trans (hbn.mono hB.size)
  clear hbn
  clear ca0 ca1 ca2 ca3 ca4 ca5 ca6 ca7 ca8 ca9 ca10 ca11 ca12 ca13
  by_cases hneg : r0 < 0
  · go_wp2
    go_ret
    exact ⟨rfl, hB⟩
  have hr0 : 0 ≤ r0 ∧ r0 + (totDesk x : Nat) = 1048576 := by
    rcases hr0_ with h | h
    · omega
    · exact h
  clear hr0_ hneg
  have ht0 : totDesk x ≤ 1048576 := by omega
  have hr0b : r0 ≤ 1048576 := by omega
  have hr0a : 0 ≤ r0 := hr0.1
  clear hr0
  have hlens := desk_lens ht0
  have hfl := drpF_len x
  have ca0 := pa.c0
  have ca1 := pa.c1
  have ca2 := pa.c2
  have ca3 := pa.c3
  have ca4 := pa.c4
  have ca5 := pa.c5
  have ca6 := pa.c6
  have ca7 := pa.c7
  have ca8 := pa.c8
  have ca9 := pa.c9
  have ca10 := pa.c10
  have ca11 := pa.c11
  have ca12 := pa.c12
  have ca13 := pa.c13
  go_wp2_with fail
  refine (toDesk_any x va _ _ ha ht0).mono ?_
  rintro e w4 ⟨v4, F4, he, ⟨hr4, _, _, _, hbn⟩⟩
  unfold deskA at he
  subst he
  replace ha := ha.below' hbn
  replace pa := pa.below' hbn
  replace hB := hB.trans (hbn.mono hB.size)
  clear hbn
  clear ca0 ca1 ca2 ca3 ca4 ca5 ca6 ca7 ca8 ca9 ca10 ca11 ca12 ca13
  have hsh := hr4.shape
  obtain ⟨q0, q1, q2, q3, q4, q5, q6, q7, q8, q9, q10, q11⟩ := v4
  obtain ⟨⟨a4_0, n4_0, k4_0, h0⟩, ⟨a4_1, n4_1, k4_1, h1⟩, ⟨a4_2, n4_2, k4_2, h2⟩, ⟨a4_3, n4_3, k4_3, h3⟩, ⟨a4_4, n4_4, k4_4, h4⟩, ⟨a4_5, n4_5, k4_5, h5⟩, ⟨a4_6, n4_6, k4_6, h6⟩, ⟨a4_7, n4_7, k4_7, h7⟩, ⟨a4_8, n4_8, k4_8, h8⟩, ⟨a4_9, n4_9, k4_9, h9⟩, ⟨a4_10, n4_10, k4_10, h10⟩, ⟨a4_11, n4_11, k4_11, h11⟩⟩ := hsh
  simp only at h0 h1 h2 h3 h4 h5 h6 h7 h8 h9 h10 h11
  subst h0 h1 h2 h3 h4 h5 h6 h7 h8 h9 h10 h11
  go_wp2_with fail
  have hs4 := hB.size
  refine (specDeskReport_any x _ F4 _ hr4).mono ?_
  rintro e w5 ⟨yw, rfl, ⟨⟨fw, hw, low, ndw⟩, hbn⟩⟩
  have hiw := hw.lt
  replace ha := ha.below' hbn
  replace pa := pa.below' hbn
  replace hB := hB.trans (hbn.mono hB.size)
  clear hbn
  clear hr4
  have ca0 := pa.c0
  have ca1 := pa.c1
  have ca2 := pa.c2
  have ca3 := pa.c3
  have ca4 := pa.c4
  have ca5 := pa.c5
  have ca6 := pa.c6
  have ca7 := pa.c7
  have ca8 := pa.c8
  have ca9 := pa.c9
  have ca10 := pa.c10
  have ca11 := pa.c11
  have ca12 := pa.c12
  have ca13 := pa.c13
  go_wp2_with fail
  have hs5 := hB.size
  have hp5 := pa.lt
  refine (toDesk_any x va _ _ ha ht0).mono ?_
  rintro e w6 ⟨v6, F6, he, ⟨hr6, lo6, ap6, nd6, hbn⟩⟩
  unfold deskA at he
  subst he
  have hi6 := hr6.ltF
  have hs56 := hbn.size
  replace ha := ha.below' hbn
  replace pa := pa.below' hbn
  replace hw := hw.below' hbn
  replace hB := hB.trans (hbn.mono hB.size)
  clear hbn
  clear ca0 ca1 ca2 ca3 ca4 ca5 ca6 ca7 ca8 ca9 ca10 ca11 ca12 ca13
  have hsh := hr6.shape
  obtain ⟨q0, q1, q2, q3, q4, q5, q6, q7, q8, q9, q10, q11⟩ := v6
  obtain ⟨⟨a6_0, n6_0, k6_0, h0⟩, ⟨a6_1, n6_1, k6_1, h1⟩, ⟨a6_2, n6_2, k6_2, h2⟩, ⟨a6_3, n6_3, k6_3, h3⟩, ⟨a6_4, n6_4, k6_4, h4⟩, ⟨a6_5, n6_5, k6_5, h5⟩, ⟨a6_6, n6_6, k6_6, h6⟩, ⟨a6_7, n6_7, k6_7, h7⟩, ⟨a6_8, n6_8, k6_8, h8⟩, ⟨a6_9, n6_9, k6_9, h9⟩, ⟨a6_10, n6_10, k6_10, h10⟩, ⟨a6_11, n6_11, k6_11, h11⟩⟩ := hsh
  simp only at h0 h1 h2 h3 h4 h5 h6 h7 h8 h9 h10 h11
  subst h0 h1 h2 h3 h4 h5 h6 h7 h8 h9 h10 h11
  have p6 := DBox.new w6 ⟨.slice a6_0 n6_0 k6_0, .slice a6_1 n6_1 k6_1, .slice a6_2 n6_2 k6_2, .slice a6_3 n6_3 k6_3, .slice a6_4 n6_4 k6_4, .slice a6_5 n6_5 k6_5, .slice a6_6 n6_6 k6_6, .slice a6_7 n6_7 k6_7, .slice a6_8 n6_8 k6_8, .slice a6_9 n6_9 k6_9, .slice a6_10 n6_10 k6_10, .slice a6_11 n6_11 k6_11⟩ x 53
  have hbn := (Below.refl w6.heap.size w6).alloc (Nat.le_refl _) (.cells #[.slice a6_0 n6_0 k6_0, .int .i64 x.rows, .int .i64 x.columns, .slice a6_1 n6_1 k6_1, .slice a6_2 n6_2 k6_2, .slice a6_3 n6_3 k6_3, .slice a6_4 n6_4 k6_4, .slice a6_5 n6_5 k6_5, .slice a6_6 n6_6 k6_6, .slice a6_7 n6_7 k6_7, .slice a6_8 n6_8 k6_8, .slice a6_9 n6_9 k6_9, .slice a6_10 n6_10 k6_10, .slice a6_11 n6_11 k6_11] 53)
  have hs6 := hB.size
  replace ha := ha.below' hbn
  replace pa := pa.below' hbn
  replace hw := hw.below' hbn
  replace hr6 := hr6.below' hbn
  replace hB := hB.trans (hbn.mono hB.size)
  clear hbn
  have c60 := p6.c0
  have c61 := p6.c1
  have c62 := p6.c2
  have c63 := p6.c3
  have c64 := p6.c4
  have c65 := p6.c5
  have c66 := p6.c6
  have c67 := p6.c7
  have c68 := p6.c8
  have c69 := p6.c9
  have c610 := p6.c10
  have c611 := p6.c11
  have c612 := p6.c12
  have c613 := p6.c13
  go_wp2_with fail
  generalize hw7 : w6.alloc (.cells #[.slice a6_0 n6_0 k6_0, .int .i64 x.rows, .int .i64 x.columns, .slice a6_1 n6_1 k6_1, .slice a6_2 n6_2 k6_2, .slice a6_3 n6_3 k6_3, .slice a6_4 n6_4 k6_4, .slice a6_5 n6_5 k6_5, .slice a6_6 n6_6 k6_6, .slice a6_7 n6_7 k6_7, .slice a6_8 n6_8 k6_8, .slice a6_9 n6_9 k6_9, .slice a6_10 n6_10 k6_10, .slice a6_11 n6_11 k6_11] 53) = w7 at *
  have hs7 : w6.heap.size < w7.heap.size := by rw [← hw7]; simp
  clear hw7
  generalize w6.heap.size = g6 at *
  have hs77 := hB.size
  refine (implDeskReport_any x _ F6 _ hr6 (ht.below hB)).mono ?_
  rintro e w8 ⟨yg, rfl, ⟨⟨fg, hg, log_, ndg⟩, hbn⟩⟩
  have hig := hg.lt
  have hs78 := hbn.size
  replace ha := ha.below' hbn
  replace pa := pa.below' hbn
  replace hw := hw.below' hbn
  replace hr6 := hr6.below' hbn
  replace p6 := p6.below' hbn
  replace hB := hB.trans (hbn.mono hB.size)
  clear hbn
  clear c60 c61 c62 c63 c64 c65 c66 c67 c68 c69 c610 c611 c612 c613
  go_wp2_with fail
  refine (eqStringS_any _ _ _ _ _ _ hg hw).mono ?_
  rintro e w9 ⟨rfl, hbn⟩
  have hs9 := hbn.size
  replace ha := ha.below' hbn
  replace pa := pa.below' hbn
  replace hw := hw.below' hbn
  replace hr6 := hr6.below' hbn
  replace p6 := p6.below' hbn
  replace hg := hg.below' hbn
  replace hB := hB.trans (hbn.mono hB.size)
  clear hbn
  have e8 : (drpC x != drpC x) = false := by simp
  have c60 := p6.c0
  have c61 := p6.c1
  have c62 := p6.c2
  have c63 := p6.c3
  have c64 := p6.c4
  have c65 := p6.c5
  have c66 := p6.c6
  have c67 := p6.c7
  have c68 := p6.c8
  have c69 := p6.c9
  have c610 := p6.c10
  have c611 := p6.c11
  have c612 := p6.c12
  have c613 := p6.c13
  have ca0 := pa.c0
  have ca1 := pa.c1
  have ca2 := pa.c2
  have ca3 := pa.c3
  have ca4 := pa.c4
  have ca5 := pa.c5
  have ca6 := pa.c6
  have ca7 := pa.c7
  have ca8 := pa.c8
  have ca9 := pa.c9
  have ca10 := pa.c10
  have ca11 := pa.c11
  have ca12 := pa.c12
  have ca13 := pa.c13
  go_wp2
  have gc60 := cell_regrown c60
  have gc61 := cell_regrown c61
  have gc62 := cell_regrown c62
  have gc63 := cell_regrown c63
  have gc64 := cell_regrown c64
  have gc65 := cell_regrown c65
  have gc66 := cell_regrown c66
  have gc67 := cell_regrown c67
  have gc68 := cell_regrown c68
  have gc69 := cell_regrown c69
  have gc610 := cell_regrown c610
  have gc611 := cell_regrown c611
  have gc612 := cell_regrown c612
  have gc613 := cell_regrown c613
  have gca0 := cell_regrown ca0
  have gca1 := cell_regrown ca1
  have gca2 := cell_regrown ca2
  have gca3 := cell_regrown ca3
  have gca4 := cell_regrown ca4
  have gca5 := cell_regrown ca5
  have gca6 := cell_regrown ca6
  have gca7 := cell_regrown ca7
  have gca8 := cell_regrown ca8
  have gca9 := cell_regrown ca9
  have gca10 := cell_regrown ca10
  have gca11 := cell_regrown ca11
  have gca12 := cell_regrown ca12
  have gca13 := cell_regrown ca13
  refine wp_region_mix (C := fun w' => ∃ p : Regrown, w' = Go.Sort.grow (redrawn w9 p.d) p.os) [true, true, false, false, true] (by kernel_rfl) (by kernel_rfl) (by kernel_rfl) (fun _ _ d _ _ h => by cases d <;> exact h) (regrown_of_below (Below.drew (Below.refl _ _))) ?_
  have hS0 : Below (w9.heap.size) w9 w9.drew := Below.drew (Below.refl _ _)
  refine wpMix_pure (by kernel_rfl) (fun K hK => ?_); go_big_quiet_op; refine hK _ ?_; clear hK K
  refine wpMix_pure (by kernel_rfl) (fun K hK => ?_); go_big_quiet_op; refine hK _ ?_; clear hK K
  refine wpMix_act (by kernel_rfl) (fun K hK => ?_)
  go_big_op
  refine (toDesk_any x va _ w9.drew (ha.below' hS0) ht0).mono ?_
  rintro e wr1 ⟨v9, F9, rfl, ⟨hr9, _, _, _, hbr1⟩⟩
  have hbr1S : Below (w9.heap.size) w9 wr1 := hS0.trans (hbr1.mono hS0.size)
  refine hK _ _ (regrown_of_below hbr1S) ?_
  clear hK K
  refine wpMix_act (by kernel_rfl) (fun K hK => ?_)
  go_big_op
  refine (eqDesk_any x _ v9 F6 F9 wr1 (hr6.below' hbr1S) hr9).mono ?_
  rintro e wr2 ⟨rfl, hbr2⟩
  have hbr2S : Below (w9.heap.size) w9 wr2 := hbr1S.trans (hbr2.mono hbr1S.size)
  refine hK _ _ (regrown_of_below hbr2S) ?_
  clear hK K
  refine wpMix_pure (by kernel_rfl) (fun K hK => ?_); go_big_quiet_op; refine hK _ ?_; clear hK K
  refine wpMix_nil ?_
  replace ha := ha.below' hbr2S
  replace pa := pa.below' hbr2S
  replace hw := hw.below' hbr2S
  replace hr6 := hr6.below' hbr2S
  replace p6 := p6.below' hbr2S
  replace hg := hg.below' hbr2S
  have hs10 := hbr2S.size
  replace hB := hB.trans (hbr2S.mono hB.size)
  clear gc60 gca0 c60 ca0 gc61 gca1 c61 ca1 gc62 gca2 c62 ca2 gc63 gca3 c63 ca3 gc64 gca4 c64 ca4 gc65 gca5 c65 ca5 gc66 gca6 c66 ca6 gc67 gca7 c67 ca7 gc68 gca8 c68 ca8 gc69 gca9 c69 ca9 gc610 gca10 c610 ca10 gc611 gca11 c611 ca11 gc612 gca12 c612 ca12 gc613 gca13 c613 ca13 hbr1 hbr2 hbr1S hbr2S hS0 hr9
  generalize wr2 = w10 at *
  have c60 := p6.c0
  have c61 := p6.c1
  have c62 := p6.c2
  have c63 := p6.c3
  have c64 := p6.c4
  have c65 := p6.c5
  have c66 := p6.c6
  have c67 := p6.c7
  have c68 := p6.c8
  have c69 := p6.c9
  have c610 := p6.c10
  have c611 := p6.c11
  have c612 := p6.c12
  have c613 := p6.c13
  go_wp2_with fail
  have hs11 := hB.size
  refine (markDesk_any x ⟨.slice a6_0 n6_0 k6_0, .slice a6_1 n6_1 k6_1, .slice a6_2 n6_2 k6_2, .slice a6_3 n6_3 k6_3, .slice a6_4 n6_4 k6_4, .slice a6_5 n6_5 k6_5, .slice a6_6 n6_6 k6_6, .slice a6_7 n6_7 k6_7, .slice a6_8 n6_8 k6_8, .slice a6_9 n6_9 k6_9, .slice a6_10 n6_10 k6_10, .slice a6_11 n6_11 k6_11⟩ F6 1 _ hr6 ap6 nd6 (by omega) (by omega) hlens).mono ?_
  rintro e w12 ⟨y, K, rfl, ⟨hmk⟩, hy1, hy2, hr6', ho⟩
  have hin6 : ∀ b ∈ (List.range 12).flatMap F6, w5.heap.size ≤ b ∧ b < g6 := fun b hb => by
    obtain ⟨i, hi, hbi⟩ := List.mem_flatMap.1 hb
    exact ⟨lo6 i (by simpa using hi) b hbi, hi6 i (by simpa using hi) b hbi⟩
  replace ha := ha.onlyF ho (fun i hi b h1 h2 => by have q1 := hia i hi b h1; have q2 := hin6 b h2; omega)
  replace pa := pa.only ho (fun h2 => by have q2 := hin6 _ h2; omega)
  replace hw := hw.only ho (fun b h1 h2 => by have q1 := hiw b h1; have q2 := hin6 b h2; omega)
  replace hg := hg.only ho (fun b h1 h2 => by have q1 := log_ b h1; have q2 := hin6 b h2; omega)
  have hK : 0 ≤ K := by have := hmk.last; omega
  replace hB := hB.trans (ho.below (B := w.heap.size) hs11 (fun b h2 => by have q2 := hin6 b h2; omega))
  clear ho hr6 hr6' p6 c60 c61 c62 c63 c64 c65 c66 c67 c68 c69 c610 c611 c612 c613
  go_wp2_with fail
  refine (eqStringS_any _ _ _ _ _ _ hg hw).mono ?_
  rintro e w9 ⟨rfl, hbn⟩
  have hs9 := hbn.size
  replace ha := ha.below' hbn
  replace pa := pa.below' hbn
  replace hw := hw.below' hbn
  replace hg := hg.below' hbn
  replace hB := hB.trans (hbn.mono hB.size)
  clear hbn
  go_wp2_with fail
  have hs12 := hB.size
  refine (markStringS_any _ _ _ _ _ hg (by omega) (by omega)).mono ?_
  rintro e w13 ⟨rfl, hmk2, hon⟩
  replace ha := ha.onlyF hon (fun i hi b h1 h2 => by have q1 := hia i hi b h1; have q2 := log_ b h2; omega)
  replace pa := pa.only hon (fun h2 => by have q2 := log_ _ h2; omega)
  replace hw := hw.only hon (fun b h1 h2 => by have q1 := hiw b h1; have q2 := log_ b h2; omega)
  replace hg := hmk2
  clear hmk2
  replace hB := hB.trans (hon.below (B := w.heap.size) hs12 (fun b h2 => by have q2 := log_ b h2; omega))
  clear hon
  go_wp2_with fail
  refine (heldStringS_any _ _ _ _ _ hg (by omega) (by omega)).mono ?_
  rintro e w14 ⟨rfl, hbn⟩
  replace ha := ha.below' hbn
  replace pa := pa.below' hbn
  replace hw := hw.below' hbn
  replace hg := hg.below' hbn
  replace hB := hB.trans (hbn.mono hB.size)
  clear hbn
  have ca0 := pa.c0
  have ca1 := pa.c1
  have ca2 := pa.c2
  have ca3 := pa.c3
  have ca4 := pa.c4
  have ca5 := pa.c5
  have ca6 := pa.c6
  have ca7 := pa.c7
  have ca8 := pa.c8
  have ca9 := pa.c9
  have ca10 := pa.c10
  have ca11 := pa.c11
  have ca12 := pa.c12
  have ca13 := pa.c13
  go_wp2_with fail
  refine (toDesk_any x va _ _ ha ht0).mono ?_
  rintro e w15 ⟨v15, F15, he, ⟨hr15, _, _, _, hbn⟩⟩
  unfold deskA at he
  subst he
  replace ha := ha.below' hbn
  replace pa := pa.below' hbn
  replace hw := hw.below' hbn
  replace hg := hg.below' hbn
  replace hB := hB.trans (hbn.mono hB.size)
  clear hbn
  clear ca0 ca1 ca2 ca3 ca4 ca5 ca6 ca7 ca8 ca9 ca10 ca11 ca12 ca13
  have hsh := hr15.shape
  obtain ⟨q0, q1, q2, q3, q4, q5, q6, q7, q8, q9, q10, q11⟩ := v15
  obtain ⟨⟨a15_0, n15_0, k15_0, h0⟩, ⟨a15_1, n15_1, k15_1, h1⟩, ⟨a15_2, n15_2, k15_2, h2⟩, ⟨a15_3, n15_3, k15_3, h3⟩, ⟨a15_4, n15_4, k15_4, h4⟩, ⟨a15_5, n15_5, k15_5, h5⟩, ⟨a15_6, n15_6, k15_6, h6⟩, ⟨a15_7, n15_7, k15_7, h7⟩, ⟨a15_8, n15_8, k15_8, h8⟩, ⟨a15_9, n15_9, k15_9, h9⟩, ⟨a15_10, n15_10, k15_10, h10⟩, ⟨a15_11, n15_11, k15_11, h11⟩⟩ := hsh
  simp only at h0 h1 h2 h3 h4 h5 h6 h7 h8 h9 h10 h11
  subst h0 h1 h2 h3 h4 h5 h6 h7 h8 h9 h10 h11
  go_wp2_with fail
  refine (implDeskReport_any x _ F15 _ hr15 (ht.below hB)).mono ?_
  rintro e w16 ⟨yh, rfl, ⟨⟨fh, hh, _, _⟩, hbn⟩⟩
  replace ha := ha.below' hbn
  replace pa := pa.below' hbn
  replace hw := hw.below' hbn
  replace hg := hg.below' hbn
  replace hB := hB.trans (hbn.mono hB.size)
  clear hbn
  clear hr15
  go_wp2_with fail
  refine (eqStringS_any _ _ _ _ _ _ hh hw).mono ?_
  rintro e w9 ⟨rfl, hbn⟩
  have hs9 := hbn.size
  replace ha := ha.below' hbn
  replace pa := pa.below' hbn
  replace hw := hw.below' hbn
  replace hg := hg.below' hbn
  replace hh := hh.below' hbn
  replace hB := hB.trans (hbn.mono hB.size)
  clear hbn
  go_wp2_with fail
  refine (heldStringS_any _ _ _ _ _ hg (by omega) (by omega)).mono ?_
  rintro e w14 ⟨rfl, hbn⟩
  replace ha := ha.below' hbn
  replace pa := pa.below' hbn
  replace hw := hw.below' hbn
  replace hg := hg.below' hbn
  replace hh := hh.below' hbn
  replace hB := hB.trans (hbn.mono hB.size)
  clear hbn
  go_wp2_with fail
  go_ret
  exact ⟨rfl, hB⟩
end Go.Proofs.YtldigalncjhkeaaGreatDoor

namespace Go.Proofs.YtldigalncjhkeaaGreatDoor
open Go.RowKit Go.WideShapes Go.ChangeShapes Go.ChangeAt

theorem Tryz.own : ownKnob Tryz.prog.godebug = none := by kernel_rfl
theorem Tryz.laidOut : laidOutB Tryz.prog = true := by kernel_rfl

section
variable {H : Type} {enc : TypeId × Value → H} {P : Program}
theorem post_of_below {f : Func} {s : ChangeSpec} {apart fresh handsOn again : Bool} {W W' : World} {args : Array Value} {v : Value} {ds gs : List (DataW H)} {before pa pv : List MemPlace}
    (hW : DataW.Whole enc P f.params.toList s.vars apart W args.toList ds gs before)
    (hres : ∀ (b : Nat) (sp : Nat → Bool) (hd : Bool), DataW.TrodAll enc P W' b sp hd f.resultTypes.toList (v.resultList f.resultTypes.size) (s.fn H (ds ++ gs)).results [])
    (hargs : ∀ sp : Nat → Bool, (∀ p ∈ before, sp p.block = true) → DataW.TrodAll enc P W' 0 sp true f.params.toList args.toList (s.fn H (ds ++ gs)).args pa)
    (hvars : ∀ sp : Nat → Bool, (∀ p ∈ before, sp p.block = true) → DataW.TrodVars enc P W' sp s.vars (s.fn H (ds ++ gs)).vars pv)
    (hps : before = pa ++ pv) (hb : Below W.heap.size W W')
    (hok : ∀ (j : Nat) (t : TypeId) (r : Value), f.resultTypes[j]? = some t → (v.resultList f.resultTypes.size)[j]? = some r → Value.okWide P W' .any 0 t r) :
    s.post enc P f apart fresh handsOn again W args v W' := by
  have hlt : ∀ p ∈ before, p.block < W.heap.size := fun p hp => hW.lt p hp
  have hold : ∀ p ∈ before, (fun b => decide (b < W.heap.size)) p.block = true := fun p hp => by simpa using hlt p hp
  refine ⟨ds, gs, before, [], pa, pv, hW, hres _ _ _, hargs _ hold, hvars _ hold, World.keptBut_mono (fun p hp => ⟨hp, ?_⟩) (hb.frame (· ∈ before)), fun _ => ?_⟩
  · rw [hps, List.mem_append] at hp
    exact Or.inr hp
  · obtain ⟨_, _, _, _, _, hz, hn⟩ := hW
    refine ⟨hok, _, _, ([] ++ pa) ++ pv, ⟨[] ++ pa, pv, trodAll_append (hargs _ (fun _ _ => rfl)) (hres _ _ _), hvars _ (fun _ _ => rfl), rfl, ?_, ?_⟩, ?_⟩
    · intro b off hp
      have hin : MemPlace.cell b off ∈ before := by rw [hps]; simpa using hp
      rw [hb.frozen (hlt _ hin)]
      exact hz b off hin
    · intro ha
      have := hn ha
      rw [hps] at this
      simpa using this
    · intro p hp _
      rw [hps]
      simpa using hp
end

theorem trodAll_below {H : Type} {enc : TypeId × Value → H} {P : Program} (hl : laidOutB P = true) {W W' : World} (hb : Below W.heap.size W W') {sp : Nat → Bool} :
    ∀ (ts : List TypeId) (vs : List Value) (ds : List (DataW H)) (ps : List MemPlace), (∀ t ∈ ts, P.readableRec t = true ∧ t < P.types.size) → DataW.TrodAll enc P W 0 (fun _ => true) true ts vs ds ps → (∀ x ∈ ps, x.block < W.heap.size) → (∀ x ∈ ps, sp x.block = true) → DataW.TrodAll enc P W' 0 sp true ts vs ds ps
  | [], [], [], ps, _, h, _, _ => h
  | t :: ts, v :: vs, d :: ds, ps, hr, h, hlt, hsp => by
    obtain ⟨p, q, h1, h2, rfl⟩ := h
    obtain ⟨r1, r2⟩ := hr t (by simp)
    exact ⟨p, q, WideElems.Trod_stays hl r1 r2 h1 (fun x hx => hb.same (hlt x (by simp [hx]))) (fun x hx => hsp x (by simp [hx])), trodAll_below hl hb ts vs ds q (fun t ht => hr t (by simp [ht])) h2 (fun x hx => hlt x (by simp [hx])) (fun x hx => hsp x (by simp [hx])), rfl⟩
  | [], _ :: _, _, _, _, h, _, _ => by cases h
  | [], [], _ :: _, _, _, h, _, _ => by cases h
  | _ :: _, [], _, _, _, h, _, _ => by cases h
  | _ :: _, _ :: _, [], _, _, h, _, _ => by cases h

theorem trodAll_len {H : Type} {enc : TypeId × Value → H} {P : Program} {W : World} {b : Nat} {sp : Nat → Bool} {hd : Bool} : ∀ (ts : List TypeId) (vs : List Value) (ds : List (DataW H)) (ps : List MemPlace), DataW.TrodAll enc P W b sp hd ts vs ds ps → ds.length = ts.length
  | [], [], [], _, _ => rfl
  | _ :: ts, _ :: vs, _ :: ds, _, h => by obtain ⟨p, q, h1, h2, rfl⟩ := h; simp [trodAll_len ts vs ds q h2]
  | [], _ :: _, _, _, h => by cases h
  | [], [], _ :: _, _, h => by cases h
  | _ :: _, [], _, _, h => by cases h
  | _ :: _, _ :: _, [], _, h => by cases h

set_option maxRecDepth 100000 in
theorem law_lifted {F : FuncId} {fn : Func} {s : ChangeSpec} (os : Os) (started : os.Started) (H : Type) (enc : TypeId × Value → H)
    (hfn : Tryz.checked.prog.funcs[F]? = some fn) (noInit : Tryz.checked.prog.inits.idxOf? F = none)
    (witness : ∃ (w : World) (tape : Tape) (i : Input), w.os = os ∧ (w.forCall tape i).Shaped Tryz.checked.prog ∧ i.vars = [] ∧ Input.okWide Tryz.checked.prog (w.forCall tape i) .any w.heap.size F i ∧
      s.pre6 enc Tryz.checked.prog fn [] false (w.forCall tape i).memory i.args ∧ ({} : Assume).holds Tryz.checked.prog (lone (Frame.enter Tryz.checked.prog F i.args .normal) [] (w.forCall tape i)))
    (hs : s.vars = []) (hres : fn.resultTypes = #[4]) (hread : ∀ t ∈ fn.params.toList, Tryz.prog.readableRec t = true ∧ t < Tryz.prog.types.size)
    (hspec : ∀ ds : List (DataW H), ds.length = fn.params.toList.length → s.fn H ds = { results := [.lit (.bool true)], args := ds })
    (walk : ∀ (W : World) (args : Array Value) (ds : List (DataW H)) (p : List MemPlace), (∀ (j : Nat) t v, fn.params[j]? = some t → args[j]? = some v → ∃ base, Value.okWide Tryz.prog W .any base t v) →
      DataW.TrodAll enc Tryz.prog W 0 (fun _ => true) true fn.params.toList args.toList ds p → W.noneFrozen p → Calls Tryz.prog F args W fun e W' => e = .returned (.bool true) ∧ Below W.heap.size W W') :
    ReturnsInHanded {} Tryz.checked os F .any (s.pre6 enc Tryz.checked.prog fn [] false) (s.post enc Tryz.checked.prog fn false true false false) := by
  refine returnsInHanded_of_change (C := Tryz.checked) Tryz.own started noInit hfn witness ?_
  intro W base args ds gs before hval hW hcnd _
  have hW' := hW
  obtain ⟨p, q, hA, hV, hpq, hfz, hnd⟩ := hW
  rw [hs] at hV
  obtain ⟨rfl, rfl⟩ := trodVars_none hV
  rw [List.append_nil] at hpq
  subst hpq
  refine (walk W args ds _ (fun j t v h1 h2 => ⟨base, hval j t v h1 h2⟩) hA hfz).mono fun e W' ⟨he, hb⟩ => ?_
  subst he
  have hsp : s.fn H (ds ++ []) = { results := [.lit (.bool true)], args := ds } := by
    rw [List.append_nil]; exact hspec ds (trodAll_len _ _ _ _ hA)
  have hlt := fun x hx => hW'.lt x hx
  refine ⟨_, rfl, post_of_below (pa := before) (pv := []) hW' (fun b sp hd => ?_) (fun sp h => ?_) (fun sp h => ?_) (by simp) hb ?_⟩
  · rw [hsp, hres]; exact trodAll_mk1 (shut_bool Tryz.underlying4 _)
  · rw [hsp]; exact trodAll_below Tryz.laidOut hb _ _ _ _ hread hA hlt h
  · rw [hsp, hs]; rfl
  · rw [hres]; exact fun j t r h1 h2 => ok_one (f := fn) hres rfl (okWide_bool_mk Tryz.underlying4 _) j t r (by rw [hres]; exact h1) (by rw [hres]; exact h2)

end Go.Proofs.YtldigalncjhkeaaGreatDoor

namespace Go.Proofs.YtldigalncjhkeaaGreatDoor
open Go.RowKit Go.WideShapes Go.ChangeShapes Go.ChangeAt

set_option maxRecDepth 100000 in
theorem law_liftedS {F : FuncId} {fn : Func} {s : ChangeSpec} (os : Os) (started : os.Started) (H : Type) (enc : TypeId × Value → H)
    (hfn : Tryz.checked.prog.funcs[F]? = some fn) (noInit : Tryz.checked.prog.inits.idxOf? F = none)
    (witness : ∃ (w : World) (tape : Tape) (i : Input), w.os = os ∧ (w.forCall tape i).Shaped Tryz.checked.prog ∧ i.vars = [] ∧ Input.okWide Tryz.checked.prog (w.forCall tape i) .any w.heap.size F i ∧
      s.pre6 enc Tryz.checked.prog fn [] false (w.forCall tape i).memory i.args ∧ ({} : Assume).holds Tryz.checked.prog (lone (Frame.enter Tryz.checked.prog F i.args .normal) [] (w.forCall tape i)))
    (hs : s.vars = []) (hres : fn.resultTypes = #[4]) (hread : ∀ t ∈ fn.params.toList, Tryz.prog.readableRec t = true ∧ t < Tryz.prog.types.size)
    (hspec : ∀ ds : List (DataW H), ds.length = fn.params.toList.length → s.fn H ds = { results := [.lit (.bool true)], args := ds })
    (walk : ∀ (W : World) (args : Array Value) (ds : List (DataW H)) (p : List MemPlace), W.ShapedOpen Tryz.prog → (∀ (j : Nat) t v, fn.params[j]? = some t → args[j]? = some v → ∃ base, Value.okWide Tryz.prog W .any base t v) →
      DataW.TrodAll enc Tryz.prog W 0 (fun _ => true) true fn.params.toList args.toList ds p → W.noneFrozen p → Calls Tryz.prog F args W fun e W' => e = .returned (.bool true) ∧ Below W.heap.size W W') :
    ReturnsInHanded {} Tryz.checked os F .any (s.pre6 enc Tryz.checked.prog fn [] false) (s.post enc Tryz.checked.prog fn false true false false) := by
  refine returnsInHanded_of_change_shaped (C := Tryz.checked) Tryz.own started noInit hfn witness ?_
  intro W base args ds gs before hval hW hcnd _ hsh _
  have hW' := hW
  obtain ⟨p, q, hA, hV, hpq, hfz, hnd⟩ := hW
  rw [hs] at hV
  obtain ⟨rfl, rfl⟩ := trodVars_none hV
  rw [List.append_nil] at hpq
  subst hpq
  refine (walk W args ds _ hsh (fun j t v h1 h2 => ⟨base, hval j t v h1 h2⟩) hA hfz).mono fun e W' ⟨he, hb⟩ => ?_
  subst he
  have hsp : s.fn H (ds ++ []) = { results := [.lit (.bool true)], args := ds } := by
    rw [List.append_nil]; exact hspec ds (trodAll_len _ _ _ _ hA)
  have hlt := fun x hx => hW'.lt x hx
  refine ⟨_, rfl, post_of_below (pa := before) (pv := []) hW' (fun b sp hd => ?_) (fun sp h => ?_) (fun sp h => ?_) (by simp) hb ?_⟩
  · rw [hsp, hres]; exact trodAll_mk1 (shut_bool Tryz.underlying4 _)
  · rw [hsp]; exact trodAll_below Tryz.laidOut hb _ _ _ _ hread hA hlt h
  · rw [hsp, hs]; rfl
  · rw [hres]; exact fun j t r h1 h2 => ok_one (f := fn) hres rfl (okWide_bool_mk Tryz.underlying4 _) j t r (by rw [hres]; exact h1) (by rw [hres]; exact h2)

theorem cell_below {w w' : World} {a : Addr} {v : Value} (h : Below w.heap.size w w') (c : w.cell? a = some v) : w'.cell? a = some v := (h.cell (block_lt_of_cell c)).trans c
end Go.Proofs.YtldigalncjhkeaaGreatDoor

namespace Go.Proofs.YtldigalncjhkeaaGreatDoor
open Go.RowKit Go.WideShapes Go.ChangeShapes Go.ChangeAt

set_option maxRecDepth 100000 in
theorem law_liftedL {F : FuncId} {fn : Func} {s : ChangeSpec} (laid : List (String × DataW Unit)) (os : Os) (started : os.Started) (H : Type) (enc : TypeId × Value → H)
    (hfn : Tryz.checked.prog.funcs[F]? = some fn) (noInit : Tryz.checked.prog.inits.idxOf? F = none)
    (witness : ∃ (w : World) (tape : Tape) (i : Input), w.os = os ∧ (w.forCall tape i).Shaped Tryz.checked.prog ∧ i.vars = [] ∧ Input.okWide Tryz.checked.prog (w.forCall tape i) .any w.heap.size F i ∧
      ((s.pre enc Tryz.checked.prog fn [] false (w.forCall tape i).memory i.args ∧ laidMetH Tryz.checked.prog laid (w.forCall tape i).memory) ∧ sizedMet enc Tryz.checked.prog fn (OpenSpec.ofChange s) false (w.forCall tape i).memory i.args) ∧ ({} : Assume).holds Tryz.checked.prog (lone (Frame.enter Tryz.checked.prog F i.args .normal) [] (w.forCall tape i)))
    (hs : s.vars = []) (hres : fn.resultTypes = #[4]) (hread : ∀ t ∈ fn.params.toList, Tryz.prog.readableRec t = true ∧ t < Tryz.prog.types.size)
    (hspec : ∀ ds : List (DataW H), ds.length = fn.params.toList.length → s.fn H ds = { results := [.lit (.bool true)], args := ds })
    (walk : ∀ (W : World) (args : Array Value) (ds : List (DataW H)) (p : List MemPlace), W.ShapedOpen Tryz.prog → laidMetH Tryz.prog laid W → (∀ (j : Nat) t v, fn.params[j]? = some t → args[j]? = some v → ∃ base, Value.okWide Tryz.prog W .any base t v) →
      DataW.TrodAll enc Tryz.prog W 0 (fun _ => true) true fn.params.toList args.toList ds p → W.noneFrozen p → Calls Tryz.prog F args W fun e W' => e = .returned (.bool true) ∧ Below W.heap.size W W') :
    ReturnsInHanded {} Tryz.checked os F .any (fun w args => (s.pre enc Tryz.checked.prog fn [] false w args ∧ laidMetH Tryz.checked.prog laid w) ∧ sizedMet enc Tryz.checked.prog fn (OpenSpec.ofChange s) false w args) (s.post enc Tryz.checked.prog fn false true false false) := by
  refine returnsInHanded_of_calls (C := Tryz.checked) Tryz.own started noInit witness ?_
  intro w tape i _ hsh _ hok hpre hholds
  obtain ⟨_, _, _, fn', hfn', _, _, _, _, hval⟩ := hok
  have e : fn' = fn := Option.some.inj (hfn'.symm.trans hfn)
  subst e
  obtain ⟨⟨⟨ds, gs, before, hw, hc⟩, hx⟩, hz⟩ := hpre
  have hW := DataW.Whole.of_heap (w' := w.forCall tape i) (by rfl) hw
  have hX : laidMetH Tryz.prog laid (w.forCall tape i) := laidMetH.of_heap (by rfl) hx
  generalize w.forCall tape i = W at *
  have hW' := hW
  obtain ⟨p, q, hA, hV, hpq, hfz, hnd⟩ := hW
  rw [hs] at hV
  obtain ⟨rfl, rfl⟩ := trodVars_none hV
  rw [List.append_nil] at hpq
  subst hpq
  refine (walk W i.args ds _ hsh hX (fun j t v h1 h2 => ⟨w.heap.size, hval j t v h1 h2⟩) hA hfz).mono fun e W' ⟨he, hb⟩ => ?_
  subst he
  have hsp : s.fn H (ds ++ []) = { results := [.lit (.bool true)], args := ds } := by
    rw [List.append_nil]; exact hspec ds (trodAll_len _ _ _ _ hA)
  have hlt := fun x hx => hW'.lt x hx
  refine ChangeSpec.post_blind (W := W) ?_
  refine post_of_below (pa := before) (pv := []) hW' (fun b sp hd => ?_) (fun sp h => ?_) (fun sp h => ?_) (by simp) hb ?_
  · rw [hsp, hres]; exact trodAll_mk1 (shut_bool Tryz.underlying4 _)
  · rw [hsp]; exact trodAll_below Tryz.laidOut hb _ _ _ _ hread hA hlt h
  · rw [hsp, hs]; rfl
  · rw [hres]; exact fun j t r h1 h2 => ok_one (f := fn') hres rfl (okWide_bool_mk Tryz.underlying4 _) j t r (by rw [hres]; exact h1) (by rw [hres]; exact h2)
end Go.Proofs.YtldigalncjhkeaaGreatDoor

namespace Go.Proofs.YtldigalncjhkeaaGreatDoor
noncomputable def doorWorld (os : Os) : World := World.doorLaid Tryz.prog 24 os
end Go.Proofs.YtldigalncjhkeaaGreatDoor

namespace Go.Proofs.YtldigalncjhkeaaGreatDoor
open Go.RowKit Go.WideShapes Go.ChangeShapes Go.ChangeAt Go.Deep

/-- Whatever the form's reader reads at type t reads by E. -/
def Opens {α : Type} (t : TypeId) (E : Cod α) : Prop :=
  ∀ {H : Type} {enc : TypeId × Value → H} {w : World} {n : Nat} {cs : List Value} {x : DataW H × List MemPlace},
    DataW.trod enc Tryz.prog w 0 (fun _ => true) true n t cs = some x → w.noneFrozen x.2 → ∃ y fp, E.rd w cs y fp

theorem opens_int {t : TypeId} (ht : Tryz.prog.underlying t = some (.int .i64)) : Opens t fInt.cod := by
  intro H enc w n cs x h _
  obtain ⟨k, rfl, rfl, wk⟩ := DataW.trod_int ht h
  refine ⟨k, [], rfl, ?_, rfl⟩
  exact bounds_i64 wk
theorem opens_str {t : TypeId} (ht : Tryz.prog.underlying t = some .string) : Opens t fStr.cod := by
  intro H enc w n cs x h _
  obtain ⟨s, rfl, rfl, hs⟩ := DataW.trod_string ht h
  exact ⟨s, [], rfl, by unfold maxLen at hs; exact hs, rfl⟩
theorem opens_bool {t : TypeId} (ht : Tryz.prog.underlying t = some .bool) : Opens t fBool.cod := by
  intro H enc w n cs x h _
  obtain ⟨s, rfl, rfl⟩ := DataW.trod_bool ht h
  exact ⟨s, [], rfl, trivial, rfl⟩

theorem add_none (b off x y : Nat) : ((⟨b, off, none⟩ : Addr).add x).add y = ⟨b, off + x + y, none⟩ := by
  unfold Addr.add
  by_cases hx : x = 0 <;> by_cases hy : y = 0 <;> simp [hx, hy]

theorem opens_slice {α : Type} {E : Cod α} {t e : TypeId} (ht : Tryz.prog.underlying t = some (.slice e)) (hn : Tryz.prog.cellsOf e = E.n) (he : Opens e E) : Opens t E.slice := by
  intro H enc w n cs x h hfz
  rcases open_slice ht h with ⟨rfl, rfl⟩ | ⟨a, len, cap, m, n', D, Pl, rfl, hb, hl, hm, hmm, hx, hi⟩
  · exact ⟨[], [], _, rfl, none, 0, rfl, by simp, by simp [maxLen], .inl ⟨rfl, rfl⟩⟩
  · simp only [if_true] at hmm
    subst hmm
    rcases Nat.eq_zero_or_pos len with h0 | h0
    · subst h0
      exact ⟨[], [], _, rfl, some a, m, rfl, by simp, hm, .inl ⟨rfl, rfl⟩⟩
    · rw [hn] at hi
      have hspot : a = ⟨a.block, a.off, none⟩ := by
        obtain ⟨cs', hc, _⟩ := hi 0 (by omega)
        obtain ⟨_, hcl, hat⟩ := World.cells?_some hc
        have h1 := hat 0 E.pos
        have hps := E.pos
        rw [List.getElem?_eq_getElem (by omega)] at h1
        have h2 : w.cell? a = some cs'[0] := by simpa [Addr.add] using h1
        have := World.cell?_spot h2
        cases a; simp_all
      have hel : ∀ i : Fin len, ∃ p : α × List Nat × List Value, (∀ j, j < E.n → w.cell? ⟨a.block, a.off + i.1 * E.n + j, none⟩ = p.2.2[j]?) ∧ (∀ j, j < E.n → w.frozen? ⟨a.block, a.off + i.1 * E.n + j, none⟩ = false) ∧ E.rd w p.2.2 p.1 p.2.1 := by
        intro ⟨i, hil⟩
        obtain ⟨cs', hc, htr⟩ := hi i (by omega)
        obtain ⟨_, hcl, hat⟩ := World.cells?_some hc
        have hsub : ∀ pl ∈ Pl i, pl ∈ x.2 := by
          intro pl hpl
          rw [hx]
          exact List.mem_append_right _ (List.mem_flatMap.2 ⟨i, by simp; omega, hpl⟩)
        obtain ⟨y, fp, hy⟩ := he htr (fun b off hmem => hfz b off (hsub _ hmem))
        refine ⟨⟨y, fp, cs'⟩, fun j hj => ?_, fun j hj => ?_, hy⟩
        · have := hat j hj
          rw [hspot, add_none] at this
          exact this
        · refine hfz _ _ ?_
          rw [hx]
          refine List.mem_append_left _ ?_
          unfold MemPlace.row
          refine List.mem_map.2 ⟨i * E.n + j, ?_, by rw [Nat.add_assoc]⟩
          rw [List.mem_range, hn]
          have : (i + 1) * E.n ≤ m * E.n := Nat.mul_le_mul_right _ (by omega)
          rw [Nat.succ_mul] at this
          omega
      obtain ⟨f, hf⟩ := Classical.axiomOfChoice hel
      have hblk : a.block < w.heap.size := by
        obtain ⟨h1, _, h3⟩ := hf ⟨0, h0⟩
        have h1 := h1 0 E.pos
        have h4 := E.len h3
        have hps := E.pos
        rw [List.getElem?_eq_getElem (by omega)] at h1
        exact block_lt_of_cell (a := ⟨a.block, _, none⟩) h1
      refine ⟨List.ofFn fun i => (f i).1, a.block :: (List.range len).flatMap fun i => if h : i < len then (f ⟨i, h⟩).2.1 else [], _, rfl, some a, m, by simp, by simpa using hl, hm,
        .inr ⟨a.block, a.off, _, by rw [← hspot], hblk, by rw [List.length_ofFn], fun i hil => ?_⟩⟩
      rw [List.length_ofFn] at hil
      obtain ⟨h1, h2, h3⟩ := hf ⟨i, hil⟩
      refine ⟨(f ⟨i, hil⟩).2.2, h1, h2, ?_⟩
      simpa [hil] using h3

/-- A struct of fields of one cell each. -/
theorem opens_fields {t : TypeId} {fs : Array Field} (ht : Tryz.prog.underlying t = some (.struct fs)) (hone : oneCellFields Tryz.prog fs = true) (hC : Tryz.prog.cellsOf t = fs.size)
    {H : Type} {enc : TypeId × Value → H} {w : World} {n : Nat} {cs : List Value} {x : DataW H × List MemPlace} (h : DataW.trod enc Tryz.prog w 0 (fun _ => true) true n t cs = some x) (hfz : w.noneFrozen x.2) :
    cs.length = fs.size ∧ ∀ (j : Nat) (f : Field), fs[j]? = some f → ∃ (v : Value) (m : Nat) (y : DataW H × List MemPlace), cs[j]? = some v ∧ DataW.trod enc Tryz.prog w 0 (fun _ => true) true m f.type [v] = some y ∧ w.noneFrozen y.2 := by
  obtain ⟨xs, n', rfl, hx, hl, hxl, hf⟩ := DataW.trod_struct ht h
  refine ⟨hl.trans hC, fun j f hj => ?_⟩
  have hjl : j < fs.size := (Array.getElem?_eq_some_iff.1 hj).1
  obtain ⟨ho, hk⟩ := hone_of hone j f hj
  have h1 := hf j f hj
  rw [ho, hk] at h1
  have hcl : j < cs.length := by rw [hl, hC]; exact hjl
  have e1 : (cs.drop j).take 1 = [cs[j]] := by
    rw [List.drop_eq_getElem_cons hcl]; rfl
  rw [e1, List.getElem?_eq_getElem (by omega)] at h1
  refine ⟨cs[j], n', xs[j], List.getElem?_eq_getElem hcl, h1, fun b off hm => hfz b off ?_⟩
  rw [hx]
  exact List.mem_flatMap.2 ⟨xs[j], List.getElem_mem _, hm⟩

/-- An argument that came in: its value reads. -/
theorem Opens.arg {α : Type} {t : TypeId} {E : Cod α} (ho : Opens t E) {H : Type} {enc : TypeId × Value → H} {w : World} {v : Value} {d : DataW H} {ps : List MemPlace}
    (h : DataW.Trod enc Tryz.prog w 0 (fun _ => true) true t v d ps) (hfz : w.noneFrozen ps) : ∃ y fp, E.rd w v.cells.toList y fp := by
  obtain ⟨n, hn⟩ := h
  exact ho hn hfz
theorem Opens.sl {α : Type} {t : TypeId} {E : Cod α} (ho : Opens t E.slice) {H : Type} {enc : TypeId × Value → H} {w : World} {v : Value} {d : DataW H} {ps : List MemPlace}
    (h : DataW.Trod enc Tryz.prog w 0 (fun _ => true) true t v d ps) (hfz : w.noneFrozen ps) {A : Option Addr} {len cap : Nat} (hv : v = .slice A len cap) : ∃ y fp, Sl E w v y fp := by
  obtain ⟨y, fp, u, hu, hs⟩ := ho.arg h hfz
  subst hv
  simp [Value.cells] at hu
  subst hu
  exact ⟨y, fp, hs⟩

end Go.Proofs.YtldigalncjhkeaaGreatDoor

namespace Go.Proofs.YtldigalncjhkeaaGreatDoor
open Go.RowKit
theorem opensObserved : Opens 150 fObserved.cod := by
  intro H enc w m cs x h hfz
  obtain ⟨hl, hf⟩ := opens_fields Tryz.underlying150 (by kernel_rfl) (by kernel_rfl) h hfz
  obtain ⟨v0, m0, y0, c0, t0, z0⟩ := hf 0 _ rfl
  obtain ⟨a0, _, e0, ok0, _⟩ := opens_int Tryz.underlying2 t0 z0
  obtain rfl : v0 = _ := by injection e0
  obtain ⟨v1, m1, y1, c1, t1, z1⟩ := hf 1 _ rfl
  obtain ⟨a1, _, e1, ok1, _⟩ := opens_int Tryz.underlying2 t1 z1
  obtain rfl : v1 = _ := by injection e1
  obtain ⟨v2, m2, y2, c2, t2, z2⟩ := hf 2 _ rfl
  obtain ⟨a2, _, e2, ok2, _⟩ := opens_int Tryz.underlying2 t2 z2
  obtain rfl : v2 = _ := by injection e2
  obtain ⟨v3, m3, y3, c3, t3, z3⟩ := hf 3 _ rfl
  obtain ⟨a3, _, e3, ok3, _⟩ := opens_int Tryz.underlying2 t3 z3
  obtain rfl : v3 = _ := by injection e3
  have hl' : cs.length = 4 := hl
  match cs, hl' with
  | [u0, u1, u2, u3], _ =>
    obtain rfl : u0 = _ := by simpa using c0
    obtain rfl : u1 = _ := by simpa using c1
    obtain rfl : u2 = _ := by simpa using c2
    obtain rfl : u3 = _ := by simpa using c3
    exact ⟨⟨a0, a1, a2, a3⟩, [], rfl, ⟨ok0, ok1, ok2, ok3⟩, rfl⟩
end Go.Proofs.YtldigalncjhkeaaGreatDoor

namespace Go.Proofs.YtldigalncjhkeaaGreatDoor
open Go.RowKit
theorem opensTest : Opens 154 fTest.cod := by
  intro H enc w m cs x h hfz
  obtain ⟨hl, hf⟩ := opens_fields Tryz.underlying154 (by kernel_rfl) (by kernel_rfl) h hfz
  obtain ⟨v0, m0, y0, c0, t0, z0⟩ := hf 0 _ rfl
  obtain ⟨a0, _, e0, ok0, _⟩ := opens_int Tryz.underlying2 t0 z0
  obtain rfl : v0 = _ := by injection e0
  obtain ⟨v1, m1, y1, c1, t1, z1⟩ := hf 1 _ rfl
  obtain ⟨a1, _, e1, ok1, _⟩ := opens_int Tryz.underlying2 t1 z1
  obtain rfl : v1 = _ := by injection e1
  obtain ⟨v2, m2, y2, c2, t2, z2⟩ := hf 2 _ rfl
  obtain ⟨a2, _, e2, ok2, _⟩ := opens_int Tryz.underlying2 t2 z2
  obtain rfl : v2 = _ := by injection e2
  obtain ⟨v3, m3, y3, c3, t3, z3⟩ := hf 3 _ rfl
  obtain ⟨a3, _, e3, ok3, _⟩ := opens_int Tryz.underlying2 t3 z3
  obtain rfl : v3 = _ := by injection e3
  obtain ⟨v4, m4, y4, c4, t4, z4⟩ := hf 4 _ rfl
  obtain ⟨a4, _, e4, ok4, _⟩ := opens_int Tryz.underlying2 t4 z4
  obtain rfl : v4 = _ := by injection e4
  have hl' : cs.length = 5 := hl
  match cs, hl' with
  | [u0, u1, u2, u3, u4], _ =>
    obtain rfl : u0 = _ := by simpa using c0
    obtain rfl : u1 = _ := by simpa using c1
    obtain rfl : u2 = _ := by simpa using c2
    obtain rfl : u3 = _ := by simpa using c3
    obtain rfl : u4 = _ := by simpa using c4
    exact ⟨⟨a0, a1, a2, a3, a4⟩, [], rfl, ⟨ok0, ok1, ok2, ok3, ok4⟩, rfl⟩
end Go.Proofs.YtldigalncjhkeaaGreatDoor

namespace Go.Proofs.YtldigalncjhkeaaGreatDoor
open Go.RowKit
theorem opensStand : Opens 117 fStand.cod := by
  intro H enc w m cs x h hfz
  obtain ⟨hl, hf⟩ := opens_fields Tryz.underlying117 (by kernel_rfl) (by kernel_rfl) h hfz
  obtain ⟨v0, m0, y0, c0, t0, z0⟩ := hf 0 _ rfl
  obtain ⟨a0, _, e0, ok0, _⟩ := opens_str Tryz.underlying9 t0 z0
  obtain rfl : v0 = _ := by injection e0
  obtain ⟨v1, m1, y1, c1, t1, z1⟩ := hf 1 _ rfl
  obtain ⟨a1, _, e1, ok1, _⟩ := opens_int Tryz.underlying2 t1 z1
  obtain rfl : v1 = _ := by injection e1
  obtain ⟨v2, m2, y2, c2, t2, z2⟩ := hf 2 _ rfl
  obtain ⟨a2, _, e2, ok2, _⟩ := opens_int Tryz.underlying2 t2 z2
  obtain rfl : v2 = _ := by injection e2
  obtain ⟨v3, m3, y3, c3, t3, z3⟩ := hf 3 _ rfl
  obtain ⟨a3, _, e3, ok3, _⟩ := opens_int Tryz.underlying2 t3 z3
  obtain rfl : v3 = _ := by injection e3
  obtain ⟨v4, m4, y4, c4, t4, z4⟩ := hf 4 _ rfl
  obtain ⟨a4, _, e4, ok4, _⟩ := opens_int Tryz.underlying2 t4 z4
  obtain rfl : v4 = _ := by injection e4
  have hl' : cs.length = 5 := hl
  match cs, hl' with
  | [u0, u1, u2, u3, u4], _ =>
    obtain rfl : u0 = _ := by simpa using c0
    obtain rfl : u1 = _ := by simpa using c1
    obtain rfl : u2 = _ := by simpa using c2
    obtain rfl : u3 = _ := by simpa using c3
    obtain rfl : u4 = _ := by simpa using c4
    exact ⟨⟨a0, a1, a2, a3, a4⟩, [], rfl, ⟨ok0, ok1, ok2, ok3, ok4⟩, rfl⟩
end Go.Proofs.YtldigalncjhkeaaGreatDoor

namespace Go.Proofs.YtldigalncjhkeaaGreatDoor
open Go.RowKit
theorem opensPathPoint : Opens 160 fPathPoint.cod := by
  intro H enc w m cs x h hfz
  obtain ⟨hl, hf⟩ := opens_fields Tryz.underlying160 (by kernel_rfl) (by kernel_rfl) h hfz
  obtain ⟨v0, m0, y0, c0, t0, z0⟩ := hf 0 _ rfl
  obtain ⟨a0, _, e0, ok0, _⟩ := opens_int Tryz.underlying2 t0 z0
  obtain rfl : v0 = _ := by injection e0
  obtain ⟨v1, m1, y1, c1, t1, z1⟩ := hf 1 _ rfl
  obtain ⟨a1, _, e1, ok1, _⟩ := opens_int Tryz.underlying2 t1 z1
  obtain rfl : v1 = _ := by injection e1
  have hl' : cs.length = 2 := hl
  match cs, hl' with
  | [u0, u1], _ =>
    obtain rfl : u0 = _ := by simpa using c0
    obtain rfl : u1 = _ := by simpa using c1
    exact ⟨⟨a0, a1⟩, [], rfl, ⟨ok0, ok1⟩, rfl⟩
end Go.Proofs.YtldigalncjhkeaaGreatDoor

namespace Go.Proofs.YtldigalncjhkeaaGreatDoor
open Go.RowKit
theorem opensVerified : Opens 166 fVerified.cod := by
  intro H enc w m cs x h hfz
  obtain ⟨hl, hf⟩ := opens_fields Tryz.underlying166 (by kernel_rfl) (by kernel_rfl) h hfz
  obtain ⟨v0, m0, y0, c0, t0, z0⟩ := hf 0 _ rfl
  obtain ⟨a0, _, e0, ok0, _⟩ := opens_int Tryz.underlying2 t0 z0
  obtain rfl : v0 = _ := by injection e0
  obtain ⟨v1, m1, y1, c1, t1, z1⟩ := hf 1 _ rfl
  obtain ⟨a1, _, e1, ok1, _⟩ := opens_int Tryz.underlying2 t1 z1
  obtain rfl : v1 = _ := by injection e1
  obtain ⟨v2, m2, y2, c2, t2, z2⟩ := hf 2 _ rfl
  obtain ⟨a2, _, e2, ok2, _⟩ := opens_int Tryz.underlying2 t2 z2
  obtain rfl : v2 = _ := by injection e2
  have hl' : cs.length = 3 := hl
  match cs, hl' with
  | [u0, u1, u2], _ =>
    obtain rfl : u0 = _ := by simpa using c0
    obtain rfl : u1 = _ := by simpa using c1
    obtain rfl : u2 = _ := by simpa using c2
    exact ⟨⟨a0, a1, a2⟩, [], rfl, ⟨ok0, ok1, ok2⟩, rfl⟩
end Go.Proofs.YtldigalncjhkeaaGreatDoor

namespace Go.Proofs.YtldigalncjhkeaaGreatDoor
open Go.RowKit
theorem opensShot : Opens 123 fShot.cod := by
  intro H enc w m cs x h hfz
  obtain ⟨hl, hf⟩ := opens_fields Tryz.underlying123 (by kernel_rfl) (by kernel_rfl) h hfz
  obtain ⟨v0, m0, y0, c0, t0, z0⟩ := hf 0 _ rfl
  obtain ⟨a0, _, e0, ok0, _⟩ := opens_str Tryz.underlying9 t0 z0
  obtain rfl : v0 = _ := by injection e0
  obtain ⟨v1, m1, y1, c1, t1, z1⟩ := hf 1 _ rfl
  obtain ⟨a1, _, e1, ok1, _⟩ := opens_int Tryz.underlying2 t1 z1
  obtain rfl : v1 = _ := by injection e1
  obtain ⟨v2, m2, y2, c2, t2, z2⟩ := hf 2 _ rfl
  obtain ⟨a2, _, e2, ok2, _⟩ := opens_int Tryz.underlying2 t2 z2
  obtain rfl : v2 = _ := by injection e2
  obtain ⟨v3, m3, y3, c3, t3, z3⟩ := hf 3 _ rfl
  obtain ⟨a3, _, e3, ok3, _⟩ := opens_int Tryz.underlying2 t3 z3
  obtain rfl : v3 = _ := by injection e3
  obtain ⟨v4, m4, y4, c4, t4, z4⟩ := hf 4 _ rfl
  obtain ⟨a4, _, e4, ok4, _⟩ := opens_int Tryz.underlying2 t4 z4
  obtain rfl : v4 = _ := by injection e4
  have hl' : cs.length = 5 := hl
  match cs, hl' with
  | [u0, u1, u2, u3, u4], _ =>
    obtain rfl : u0 = _ := by simpa using c0
    obtain rfl : u1 = _ := by simpa using c1
    obtain rfl : u2 = _ := by simpa using c2
    obtain rfl : u3 = _ := by simpa using c3
    obtain rfl : u4 = _ := by simpa using c4
    exact ⟨⟨a0, a1, a2, a3, a4⟩, [], rfl, ⟨ok0, ok1, ok2, ok3, ok4⟩, rfl⟩
end Go.Proofs.YtldigalncjhkeaaGreatDoor

namespace Go.Proofs.YtldigalncjhkeaaGreatDoor
open Go.RowKit
theorem opensGroup : Opens 126 fGroup.cod := by
  intro H enc w m cs x h hfz
  obtain ⟨hl, hf⟩ := opens_fields Tryz.underlying126 (by kernel_rfl) (by kernel_rfl) h hfz
  obtain ⟨v0, m0, y0, c0, t0, z0⟩ := hf 0 _ rfl
  obtain ⟨a0, _, e0, ok0, _⟩ := opens_str Tryz.underlying9 t0 z0
  obtain rfl : v0 = _ := by injection e0
  obtain ⟨v1, m1, y1, c1, t1, z1⟩ := hf 1 _ rfl
  obtain ⟨a1, _, e1, ok1, _⟩ := opens_int Tryz.underlying2 t1 z1
  obtain rfl : v1 = _ := by injection e1
  obtain ⟨v2, m2, y2, c2, t2, z2⟩ := hf 2 _ rfl
  obtain ⟨a2, _, e2, ok2, _⟩ := opens_int Tryz.underlying2 t2 z2
  obtain rfl : v2 = _ := by injection e2
  obtain ⟨v3, m3, y3, c3, t3, z3⟩ := hf 3 _ rfl
  obtain ⟨a3, _, e3, ok3, _⟩ := opens_int Tryz.underlying2 t3 z3
  obtain rfl : v3 = _ := by injection e3
  obtain ⟨v4, m4, y4, c4, t4, z4⟩ := hf 4 _ rfl
  obtain ⟨a4, _, e4, ok4, _⟩ := opens_int Tryz.underlying2 t4 z4
  obtain rfl : v4 = _ := by injection e4
  obtain ⟨v5, m5, y5, c5, t5, z5⟩ := hf 5 _ rfl
  obtain ⟨a5, _, e5, ok5, _⟩ := opens_int Tryz.underlying2 t5 z5
  obtain rfl : v5 = _ := by injection e5
  obtain ⟨v6, m6, y6, c6, t6, z6⟩ := hf 6 _ rfl
  obtain ⟨a6, _, e6, ok6, _⟩ := opens_int Tryz.underlying2 t6 z6
  obtain rfl : v6 = _ := by injection e6
  have hl' : cs.length = 7 := hl
  match cs, hl' with
  | [u0, u1, u2, u3, u4, u5, u6], _ =>
    obtain rfl : u0 = _ := by simpa using c0
    obtain rfl : u1 = _ := by simpa using c1
    obtain rfl : u2 = _ := by simpa using c2
    obtain rfl : u3 = _ := by simpa using c3
    obtain rfl : u4 = _ := by simpa using c4
    obtain rfl : u5 = _ := by simpa using c5
    obtain rfl : u6 = _ := by simpa using c6
    exact ⟨⟨a0, a1, a2, a3, a4, a5, a6⟩, [], rfl, ⟨ok0, ok1, ok2, ok3, ok4, ok5, ok6⟩, rfl⟩
end Go.Proofs.YtldigalncjhkeaaGreatDoor

namespace Go.Proofs.YtldigalncjhkeaaGreatDoor
open Go.RowKit
theorem opensWatch : Opens 129 fWatch.cod := by
  intro H enc w m cs x h hfz
  obtain ⟨hl, hf⟩ := opens_fields Tryz.underlying129 (by kernel_rfl) (by kernel_rfl) h hfz
  obtain ⟨v0, m0, y0, c0, t0, z0⟩ := hf 0 _ rfl
  obtain ⟨a0, _, e0, ok0, _⟩ := opens_str Tryz.underlying9 t0 z0
  obtain rfl : v0 = _ := by injection e0
  obtain ⟨v1, m1, y1, c1, t1, z1⟩ := hf 1 _ rfl
  obtain ⟨a1, _, e1, ok1, _⟩ := opens_int Tryz.underlying2 t1 z1
  obtain rfl : v1 = _ := by injection e1
  obtain ⟨v2, m2, y2, c2, t2, z2⟩ := hf 2 _ rfl
  obtain ⟨a2, _, e2, ok2, _⟩ := opens_int Tryz.underlying2 t2 z2
  obtain rfl : v2 = _ := by injection e2
  obtain ⟨v3, m3, y3, c3, t3, z3⟩ := hf 3 _ rfl
  obtain ⟨a3, _, e3, ok3, _⟩ := opens_bool Tryz.underlying4 t3 z3
  obtain rfl : v3 = _ := by injection e3
  have hl' : cs.length = 4 := hl
  match cs, hl' with
  | [u0, u1, u2, u3], _ =>
    obtain rfl : u0 = _ := by simpa using c0
    obtain rfl : u1 = _ := by simpa using c1
    obtain rfl : u2 = _ := by simpa using c2
    obtain rfl : u3 = _ := by simpa using c3
    exact ⟨⟨a0, a1, a2, a3⟩, [], rfl, ⟨ok0, ok1, ok2, ok3⟩, rfl⟩
end Go.Proofs.YtldigalncjhkeaaGreatDoor

namespace Go.Proofs.YtldigalncjhkeaaGreatDoor
open Go.RowKit
theorem opensIncident : Opens 132 fIncident.cod := by
  intro H enc w m cs x h hfz
  obtain ⟨hl, hf⟩ := opens_fields Tryz.underlying132 (by kernel_rfl) (by kernel_rfl) h hfz
  obtain ⟨v0, m0, y0, c0, t0, z0⟩ := hf 0 _ rfl
  obtain ⟨a0, _, e0, ok0, _⟩ := opens_int Tryz.underlying2 t0 z0
  obtain rfl : v0 = _ := by injection e0
  obtain ⟨v1, m1, y1, c1, t1, z1⟩ := hf 1 _ rfl
  obtain ⟨a1, _, e1, ok1, _⟩ := opens_str Tryz.underlying9 t1 z1
  obtain rfl : v1 = _ := by injection e1
  obtain ⟨v2, m2, y2, c2, t2, z2⟩ := hf 2 _ rfl
  obtain ⟨a2, _, e2, ok2, _⟩ := opens_str Tryz.underlying9 t2 z2
  obtain rfl : v2 = _ := by injection e2
  obtain ⟨v3, m3, y3, c3, t3, z3⟩ := hf 3 _ rfl
  obtain ⟨a3, _, e3, ok3, _⟩ := opens_int Tryz.underlying2 t3 z3
  obtain rfl : v3 = _ := by injection e3
  obtain ⟨v4, m4, y4, c4, t4, z4⟩ := hf 4 _ rfl
  obtain ⟨a4, _, e4, ok4, _⟩ := opens_int Tryz.underlying2 t4 z4
  obtain rfl : v4 = _ := by injection e4
  obtain ⟨v5, m5, y5, c5, t5, z5⟩ := hf 5 _ rfl
  obtain ⟨a5, _, e5, ok5, _⟩ := opens_int Tryz.underlying2 t5 z5
  obtain rfl : v5 = _ := by injection e5
  have hl' : cs.length = 6 := hl
  match cs, hl' with
  | [u0, u1, u2, u3, u4, u5], _ =>
    obtain rfl : u0 = _ := by simpa using c0
    obtain rfl : u1 = _ := by simpa using c1
    obtain rfl : u2 = _ := by simpa using c2
    obtain rfl : u3 = _ := by simpa using c3
    obtain rfl : u4 = _ := by simpa using c4
    obtain rfl : u5 = _ := by simpa using c5
    exact ⟨⟨a0, a1, a2, a3, a4, a5⟩, [], rfl, ⟨ok0, ok1, ok2, ok3, ok4, ok5⟩, rfl⟩
end Go.Proofs.YtldigalncjhkeaaGreatDoor

namespace Go.Proofs.YtldigalncjhkeaaGreatDoor
open Go.RowKit Go.WideShapes Go.ChangeShapes Go.ChangeAt Go.Deep
set_option linter.unusedVariables false

theorem opensRegion : Opens 120 cRegion := by
  intro H enc w m cs x h hfz
  obtain ⟨hl, hf⟩ := opens_fields Tryz.underlying120 (by kernel_rfl) (by kernel_rfl) h hfz
  obtain ⟨v0, m0, y0, c0, t0, z0⟩ := hf 0 _ rfl
  obtain ⟨a0, _, e0, ok0, _⟩ := opens_str Tryz.underlying9 t0 z0
  obtain rfl : v0 = _ := by injection e0
  obtain ⟨v1, m1, y1, c1, t1, z1⟩ := hf 1 _ rfl
  obtain ⟨a1, _, e1, ok1, _⟩ := opens_int Tryz.underlying2 t1 z1
  obtain rfl : v1 = _ := by injection e1
  obtain ⟨v2, m2, y2, c2, t2, z2⟩ := hf 2 _ rfl
  obtain ⟨a2, fp2, e2⟩ := opens_slice Tryz.underlying38 (by kernel_rfl) (opens_str Tryz.underlying9) t2 z2
  have hl' : cs.length = 3 := hl
  match cs, hl' with
  | [u0, u1, u2], _ =>
    obtain rfl : u0 = _ := by simpa using c0
    obtain rfl : u1 = _ := by simpa using c1
    obtain rfl : u2 = _ := by simpa using c2
    exact ⟨⟨a0, a1, a2⟩, fp2, _, rfl, ok0, ok1, e2⟩
theorem opens_parts {t : TypeId} {fs : Array Field} (ht : Tryz.prog.underlying t = some (.struct fs))
    {H : Type} {enc : TypeId × Value → H} {w : World} {n : Nat} {cs : List Value} {x : DataW H × List MemPlace} (h : DataW.trod enc Tryz.prog w 0 (fun _ => true) true n t cs = some x) (hfz : w.noneFrozen x.2) :
    cs.length = Tryz.prog.cellsOf t ∧ ∀ (j : Nat) (f : Field), fs[j]? = some f → ∃ (m : Nat) (y : DataW H × List MemPlace), DataW.trod enc Tryz.prog w 0 (fun _ => true) true m f.type ((cs.drop f.offset).take (Tryz.prog.cellsOf f.type)) = some y ∧ w.noneFrozen y.2 := by
  obtain ⟨xs, n', rfl, hx, hl, hxl, hf⟩ := DataW.trod_struct ht h
  refine ⟨hl, fun j f hj => ?_⟩
  have hjl : j < fs.size := (Array.getElem?_eq_some_iff.1 hj).1
  have h1 := hf j f hj
  rw [List.getElem?_eq_getElem (by omega)] at h1
  refine ⟨n', xs[j], h1, fun b off hm => hfz b off ?_⟩
  rw [hx]
  exact List.mem_flatMap.2 ⟨xs[j], List.getElem_mem _, hm⟩
def fps (L : List (List Nat)) (i : Nat) : List Nat := L.getD i []
set_option maxRecDepth 100000 in
set_option maxHeartbeats 2000000 in
theorem opensDesk {H : Type} {enc : TypeId × Value → H} {w : World} {n : Nat} {cs : List Value} {x : DataW H × List MemPlace} (h : DataW.trod enc Tryz.prog w 0 (fun _ => true) true n 36 cs = some x) (hfz : w.noneFrozen x.2) :
    ∃ (v : DVals) (d : DDesk) (F : Nat → List Nat), cs = [v.ob, .int .i64 d.rows, .int .i64 d.columns, v.ma, v.te, v.st, v.pa, v.zo, v.re, v.ve, v.sh, v.gr, v.wa, v.in_] ∧ DeskRd w v d F := by
  obtain ⟨hl, hf⟩ := opens_parts Tryz.underlying36 h hfz
  have hl' : cs.length = 14 := by rw [hl]; kernel_rfl
  match cs, hl' with
  | [u0, u1, u2, u3, u4, u5, u6, u7, u8, u9, u10, u11, u12, u13], _ =>
    obtain ⟨m0, y0, t0, z0⟩ := hf 0 _ rfl
    have k0 : Tryz.prog.cellsOf 22 = 1 := by kernel_rfl
    replace t0 : DataW.trod enc Tryz.prog w 0 (fun _ => true) true m0 22 [u0] = some y0 := by
      change DataW.trod enc Tryz.prog w 0 (fun _ => true) true m0 22 (List.take (Tryz.prog.cellsOf 22) (List.drop 0 [u0, u1, u2, u3, u4, u5, u6, u7, u8, u9, u10, u11, u12, u13])) = some y0 at t0
      rw [k0] at t0; exact t0
    obtain ⟨a0, f0, v0, e0_, sl0⟩ := opens_slice Tryz.underlying22 (by kernel_rfl) opensObserved t0 z0
    obtain rfl : u0 = v0 := by injection e0_
    obtain ⟨m1, y1, t1, z1⟩ := hf 1 _ rfl
    have k1 : Tryz.prog.cellsOf 25 = 3 := by kernel_rfl
    replace t1 : DataW.trod enc Tryz.prog w 0 (fun _ => true) true m1 25 [u1, u2, u3] = some y1 := by
      change DataW.trod enc Tryz.prog w 0 (fun _ => true) true m1 25 (List.take (Tryz.prog.cellsOf 25) (List.drop 1 [u0, u1, u2, u3, u4, u5, u6, u7, u8, u9, u10, u11, u12, u13])) = some y1 at t1
      rw [k1] at t1; exact t1
    obtain ⟨_, hg⟩ := opens_fields Tryz.underlying25 (by kernel_rfl) (by kernel_rfl) t1 z1
    obtain ⟨p0, q0, r0, c0, s0, w0⟩ := hg 0 _ rfl
    obtain ⟨b0, _, e0, ok0, _⟩ := opens_int Tryz.underlying2 s0 w0
    obtain rfl : p0 = _ := by injection e0
    obtain rfl : u1 = _ := by simpa using c0
    obtain ⟨p1, q1, r1, c1, s1, w1⟩ := hg 1 _ rfl
    obtain ⟨b1, _, e1, ok1, _⟩ := opens_int Tryz.underlying2 s1 w1
    obtain rfl : p1 = _ := by injection e1
    obtain rfl : u2 = _ := by simpa using c1
    obtain ⟨p2, q2, r2, c2, s2, w2⟩ := hg 2 _ rfl
    obtain rfl : u3 = _ := by simpa using c2
    obtain ⟨b2, g2, p2', e2, sl1⟩ := opens_slice Tryz.underlying23 (by kernel_rfl) (opens_int Tryz.underlying2) s2 w2
    obtain rfl : u3 = p2' := by injection e2
    obtain ⟨m2, y2, t2, z2⟩ := hf 2 _ rfl
    have k2 : Tryz.prog.cellsOf 26 = 1 := by kernel_rfl
    replace t2 : DataW.trod enc Tryz.prog w 0 (fun _ => true) true m2 26 [u4] = some y2 := by
      change DataW.trod enc Tryz.prog w 0 (fun _ => true) true m2 26 (List.take (Tryz.prog.cellsOf 26) (List.drop 4 [u0, .int .i64 b0, .int .i64 b1, u3, u4, u5, u6, u7, u8, u9, u10, u11, u12, u13])) = some y2 at t2
      rw [k2] at t2; exact t2
    obtain ⟨a2, f2, v2, e2_, sl2⟩ := opens_slice Tryz.underlying26 (by kernel_rfl) opensTest t2 z2
    obtain rfl : u4 = v2 := by injection e2_
    obtain ⟨m3, y3, t3, z3⟩ := hf 3 _ rfl
    have k3 : Tryz.prog.cellsOf 27 = 1 := by kernel_rfl
    replace t3 : DataW.trod enc Tryz.prog w 0 (fun _ => true) true m3 27 [u5] = some y3 := by
      change DataW.trod enc Tryz.prog w 0 (fun _ => true) true m3 27 (List.take (Tryz.prog.cellsOf 27) (List.drop 5 [u0, .int .i64 b0, .int .i64 b1, u3, u4, u5, u6, u7, u8, u9, u10, u11, u12, u13])) = some y3 at t3
      rw [k3] at t3; exact t3
    obtain ⟨a3, f3, v3, e3_, sl3⟩ := opens_slice Tryz.underlying27 (by kernel_rfl) opensStand t3 z3
    obtain rfl : u5 = v3 := by injection e3_
    obtain ⟨m4, y4, t4, z4⟩ := hf 4 _ rfl
    have k4 : Tryz.prog.cellsOf 28 = 1 := by kernel_rfl
    replace t4 : DataW.trod enc Tryz.prog w 0 (fun _ => true) true m4 28 [u6] = some y4 := by
      change DataW.trod enc Tryz.prog w 0 (fun _ => true) true m4 28 (List.take (Tryz.prog.cellsOf 28) (List.drop 6 [u0, .int .i64 b0, .int .i64 b1, u3, u4, u5, u6, u7, u8, u9, u10, u11, u12, u13])) = some y4 at t4
      rw [k4] at t4; exact t4
    obtain ⟨a4, f4, v4, e4_, sl4⟩ := opens_slice Tryz.underlying28 (by kernel_rfl) opensPathPoint t4 z4
    obtain rfl : u6 = v4 := by injection e4_
    obtain ⟨m5, y5, t5, z5⟩ := hf 5 _ rfl
    have k5 : Tryz.prog.cellsOf 23 = 1 := by kernel_rfl
    replace t5 : DataW.trod enc Tryz.prog w 0 (fun _ => true) true m5 23 [u7] = some y5 := by
      change DataW.trod enc Tryz.prog w 0 (fun _ => true) true m5 23 (List.take (Tryz.prog.cellsOf 23) (List.drop 7 [u0, .int .i64 b0, .int .i64 b1, u3, u4, u5, u6, u7, u8, u9, u10, u11, u12, u13])) = some y5 at t5
      rw [k5] at t5; exact t5
    obtain ⟨a5, f5, v5, e5_, sl5⟩ := opens_slice Tryz.underlying23 (by kernel_rfl) (opens_int Tryz.underlying2) t5 z5
    obtain rfl : u7 = v5 := by injection e5_
    obtain ⟨m6, y6, t6, z6⟩ := hf 6 _ rfl
    have k6 : Tryz.prog.cellsOf 29 = 1 := by kernel_rfl
    replace t6 : DataW.trod enc Tryz.prog w 0 (fun _ => true) true m6 29 [u8] = some y6 := by
      change DataW.trod enc Tryz.prog w 0 (fun _ => true) true m6 29 (List.take (Tryz.prog.cellsOf 29) (List.drop 8 [u0, .int .i64 b0, .int .i64 b1, u3, u4, u5, u6, u7, u8, u9, u10, u11, u12, u13])) = some y6 at t6
      rw [k6] at t6; exact t6
    obtain ⟨a6, f6, v6, e6_, sl6⟩ := opens_slice Tryz.underlying29 (by kernel_rfl) opensRegion t6 z6
    obtain rfl : u8 = v6 := by injection e6_
    obtain ⟨m7, y7, t7, z7⟩ := hf 7 _ rfl
    have k7 : Tryz.prog.cellsOf 30 = 1 := by kernel_rfl
    replace t7 : DataW.trod enc Tryz.prog w 0 (fun _ => true) true m7 30 [u9] = some y7 := by
      change DataW.trod enc Tryz.prog w 0 (fun _ => true) true m7 30 (List.take (Tryz.prog.cellsOf 30) (List.drop 9 [u0, .int .i64 b0, .int .i64 b1, u3, u4, u5, u6, u7, u8, u9, u10, u11, u12, u13])) = some y7 at t7
      rw [k7] at t7; exact t7
    obtain ⟨a7, f7, v7, e7_, sl7⟩ := opens_slice Tryz.underlying30 (by kernel_rfl) opensVerified t7 z7
    obtain rfl : u9 = v7 := by injection e7_
    obtain ⟨m8, y8, t8, z8⟩ := hf 8 _ rfl
    have k8 : Tryz.prog.cellsOf 31 = 1 := by kernel_rfl
    replace t8 : DataW.trod enc Tryz.prog w 0 (fun _ => true) true m8 31 [u10] = some y8 := by
      change DataW.trod enc Tryz.prog w 0 (fun _ => true) true m8 31 (List.take (Tryz.prog.cellsOf 31) (List.drop 10 [u0, .int .i64 b0, .int .i64 b1, u3, u4, u5, u6, u7, u8, u9, u10, u11, u12, u13])) = some y8 at t8
      rw [k8] at t8; exact t8
    obtain ⟨a8, f8, v8, e8_, sl8⟩ := opens_slice Tryz.underlying31 (by kernel_rfl) opensShot t8 z8
    obtain rfl : u10 = v8 := by injection e8_
    obtain ⟨m9, y9, t9, z9⟩ := hf 9 _ rfl
    have k9 : Tryz.prog.cellsOf 32 = 1 := by kernel_rfl
    replace t9 : DataW.trod enc Tryz.prog w 0 (fun _ => true) true m9 32 [u11] = some y9 := by
      change DataW.trod enc Tryz.prog w 0 (fun _ => true) true m9 32 (List.take (Tryz.prog.cellsOf 32) (List.drop 11 [u0, .int .i64 b0, .int .i64 b1, u3, u4, u5, u6, u7, u8, u9, u10, u11, u12, u13])) = some y9 at t9
      rw [k9] at t9; exact t9
    obtain ⟨a9, f9, v9, e9_, sl9⟩ := opens_slice Tryz.underlying32 (by kernel_rfl) opensGroup t9 z9
    obtain rfl : u11 = v9 := by injection e9_
    obtain ⟨m10, y10, t10, z10⟩ := hf 10 _ rfl
    have k10 : Tryz.prog.cellsOf 33 = 1 := by kernel_rfl
    replace t10 : DataW.trod enc Tryz.prog w 0 (fun _ => true) true m10 33 [u12] = some y10 := by
      change DataW.trod enc Tryz.prog w 0 (fun _ => true) true m10 33 (List.take (Tryz.prog.cellsOf 33) (List.drop 12 [u0, .int .i64 b0, .int .i64 b1, u3, u4, u5, u6, u7, u8, u9, u10, u11, u12, u13])) = some y10 at t10
      rw [k10] at t10; exact t10
    obtain ⟨a10, f10, v10, e10_, sl10⟩ := opens_slice Tryz.underlying33 (by kernel_rfl) opensWatch t10 z10
    obtain rfl : u12 = v10 := by injection e10_
    obtain ⟨m11, y11, t11, z11⟩ := hf 11 _ rfl
    have k11 : Tryz.prog.cellsOf 34 = 1 := by kernel_rfl
    replace t11 : DataW.trod enc Tryz.prog w 0 (fun _ => true) true m11 34 [u13] = some y11 := by
      change DataW.trod enc Tryz.prog w 0 (fun _ => true) true m11 34 (List.take (Tryz.prog.cellsOf 34) (List.drop 13 [u0, .int .i64 b0, .int .i64 b1, u3, u4, u5, u6, u7, u8, u9, u10, u11, u12, u13])) = some y11 at t11
      rw [k11] at t11; exact t11
    obtain ⟨a11, f11, v11, e11_, sl11⟩ := opens_slice Tryz.underlying34 (by kernel_rfl) opensIncident t11 z11
    obtain rfl : u13 = v11 := by injection e11_
    exact ⟨⟨u0, u3, u4, u5, u6, u7, u8, u9, u10, u11, u12, u13⟩, ⟨b0, b1, a0, b2, a2, a3, a4, a5, a6, a7, a8, a9, a10, a11⟩, fps [f0, g2, f2, f3, f4, f5, f6, f7, f8, f9, f10, f11], rfl, ⟨sl0, sl1, sl2, sl3, sl4, sl5, sl6, sl7, sl8, sl9, sl10, sl11⟩⟩
end Go.Proofs.YtldigalncjhkeaaGreatDoor
