
/- Asset: the data, its cells; the given helpers over it. Written by wip/gen/treg.py. -/
import Derived.Test.YtpebibegdeioeaaTInt64
import Derived.Test.YtpebibegdeioeaaNest
import Derived.Test.YtpebibegdeioeaaSeg
namespace Go.Proofs.Ytpebibegdeioeaa
open Go.RowKit
set_option linter.unusedVariables false

structure DAsset where
  id : ByteArray
  worth : Int
  cells : List Int
  deriving DecidableEq
def as0 : DAsset := ⟨⟨#[]⟩, 0, []⟩
def cAsset : Cod DAsset where
  n := 3
  rd := fun w cs x fp => ∃ v, cs = [.string x.id, v, .int .i64 x.worth] ∧ fStr.ok x.id ∧ fInt.ok x.worth ∧ fInt.cod.slice.rd w [v] x.cells fp
  pos := by omega
  len := by rintro w cs x fp ⟨v, rfl, _⟩; rfl
  lt := by rintro w cs x fp ⟨v, _, _, _, h⟩; exact fInt.cod.slice.lt h
  keep := by rintro w w' cs x fp ⟨v, rfl, h1, h2, h⟩ hk; exact ⟨v, rfl, h1, h2, fInt.cod.slice.keep h hk⟩
/-- The rows of a slice of regions, laid open. -/
structure ARows (w : World) (b off n : Nat) (V : Nat → Value) (cur : Nat → DAsset) (F : Nat → List Nat) : Prop where
  c0 : ∀ i, i < n → w.cell? ⟨b, off + i * 3, none⟩ = some (.string (cur i).id)
  c1 : ∀ i, i < n → w.cell? ⟨b, off + i * 3 + 2, none⟩ = some (.int .i64 (cur i).worth)
  c2 : ∀ i, i < n → w.cell? ⟨b, off + i * 3 + 1, none⟩ = some (V i)
  z : ∀ i, i < n → ∀ j, j < 3 → w.frozen? ⟨b, off + i * 3 + j, none⟩ = false
  ok : ∀ i, i < n → fStr.ok (cur i).id ∧ fInt.ok (cur i).worth
  rd : ∀ i, i < n → Sl fInt.cod w (V i) (cur i).cells (F i)
section
variable {w w' : World} {b off n cap len : Nat} {A : Option Addr} {V : Nat → Value} {cur : Nat → DAsset} {F : Nat → List Nat} {xs : List DAsset} {fp : List Nat}
theorem Sl.asts (h : Sl cAsset w (.slice A len cap) xs fp) (h0 : 0 < xs.length) :
    ∃ b off V F, A = some ⟨b, off, none⟩ ∧ b < w.heap.size ∧ fp = b :: (List.range xs.length).flatMap F ∧ ARows w b off xs.length V (fun i => xs.getD i as0) F := by
  obtain ⟨A', cap', hv, hl, hc, hr⟩ := h
  injection hv with hA hn hcap
  subst hA
  rcases hr with ⟨h1, _⟩ | ⟨b, off, F, hA, hb, hfp, hi⟩
  · subst h1; simp at h0
  · have hex : ∀ i, ∃ u, ∀ h : i < xs.length, w.cell? ⟨b, off + i * 3, none⟩ = some (.string xs[i].id) ∧ w.cell? ⟨b, off + i * 3 + 2, none⟩ = some (.int .i64 xs[i].worth) ∧ w.cell? ⟨b, off + i * 3 + 1, none⟩ = some u ∧ (∀ j, j < 3 → w.frozen? ⟨b, off + i * 3 + j, none⟩ = false) ∧ (fStr.ok xs[i].id ∧ fInt.ok xs[i].worth) ∧ Sl fInt.cod w u xs[i].cells (F i) := fun i => by
      by_cases hlt : i < xs.length
      · obtain ⟨cs, h1, h2, v, rfl, h3, h4, u, hu, h5⟩ := hi i hlt
        injection hu with hu _
        subst hu
        exact ⟨v, fun _ => ⟨h1 0 (by decide), h1 2 (by decide), h1 1 (by decide), fun j hj => h2 j hj, ⟨h3, h4⟩, h5⟩⟩
      · exact ⟨undef, fun h => absurd h hlt⟩
    have hg : ∀ i (h : i < xs.length), xs.getD i as0 = xs[i] := fun i h => by simp [List.getD_eq_getElem?_getD, h]
    refine ⟨b, off, fun i => Classical.choose (hex i), F, hA, hb, hfp, ⟨fun i h => ?_, fun i h => ?_, fun i h => ?_, fun i h => ?_, fun i h => ?_, fun i h => ?_⟩⟩
    · have := (Classical.choose_spec (hex i) h).1; rw [hg i h]; exact this
    · have := (Classical.choose_spec (hex i) h).2.1; rw [hg i h]; exact this
    · exact (Classical.choose_spec (hex i) h).2.2.1
    · exact (Classical.choose_spec (hex i) h).2.2.2.1
    · have := (Classical.choose_spec (hex i) h).2.2.2.2.1; rw [hg i h]; exact this
    · have := (Classical.choose_spec (hex i) h).2.2.2.2.2; rw [hg i h]; exact this
theorem ARows.sl (h : ARows w b off n V cur F) (hb : b < w.heap.size) (hn : xs.length = n) (hx : ∀ i (hi : i < xs.length), xs[i] = cur i) (hc : n ≤ cap) (hm : cap ≤ maxLen) :
    Sl cAsset w (.slice (some ⟨b, off, none⟩) n cap) xs (b :: (List.range n).flatMap F) := by
  subst hn
  refine ⟨_, cap, rfl, hc, hm, .inr ⟨b, off, F, rfl, hb, rfl, fun i hi => ⟨[.string (cur i).id, V i, .int .i64 (cur i).worth], fun j hj => ?_, fun j hj => h.z i hi j hj, ?_⟩⟩⟩
  · match j, hj with
    | 0, _ => exact h.c0 i hi
    | 1, _ => exact h.c2 i hi
    | 2, _ => exact h.c1 i hi
  · rw [hx i hi]
    exact ⟨V i, rfl, (h.ok i hi).1, (h.ok i hi).2, V i, rfl, h.rd i hi⟩
theorem ARows.below (h : ARows w b off n V cur F) (hb : b < w.heap.size) (hw : Below w.heap.size w w') : ARows w' b off n V cur F :=
  ⟨fun i hi => (hw.cell (p := ⟨b, _, none⟩) hb).trans (h.c0 i hi), fun i hi => (hw.cell (p := ⟨b, _, none⟩) hb).trans (h.c1 i hi), fun i hi => (hw.cell (p := ⟨b, _, none⟩) hb).trans (h.c2 i hi), fun i hi j hj => (hw.frozen (p := ⟨b, _, none⟩) hb).trans (h.z i hi j hj), h.ok, fun i hi => (h.rd i hi).below' hw⟩
theorem ARows.congr {cur' : Nat → DAsset} (h : ARows w b off n V cur F) (hc : ∀ i, i < n → cur i = cur' i) : ARows w b off n V cur' F :=
  ⟨fun i hi => by rw [← hc i hi]; exact h.c0 i hi, fun i hi => by rw [← hc i hi]; exact h.c1 i hi, h.c2, h.z, fun i hi => by rw [← hc i hi]; exact h.ok i hi, fun i hi => by rw [← hc i hi]; exact h.rd i hi⟩
theorem ARows.setId {k : Nat} (h : ARows w b off n V cur F) (hbF : ∀ i, i < n → b ∉ F i) (hk : k < n) (s : ByteArray) (hs : fStr.ok s) :
    ARows (w.setCell ⟨b, off + k * 3, none⟩ (.string s)) b off n V (fun i => if i = k then ⟨s, (cur i).worth, (cur i).cells⟩ else cur i) F := by
  have hne : ∀ p, p ≠ off + k * 3 → (w.setCell ⟨b, off + k * 3, none⟩ (.string s)).cell? ⟨b, p, none⟩ = w.cell? ⟨b, p, none⟩ := fun p hp => World.cell?_setCell_other _ _ _ _ (fun e => by injection e with _ e _; exact hp e.symm)
  refine ⟨fun i hi => ?_, fun i hi => ?_, fun i hi => ?_, fun i hi j hj => (frozen?_setCell _ _ _ _).trans (h.z i hi j hj), fun i hi => ?_, fun i hi => ?_⟩
  · by_cases e : i = k
    · subst e; rw [if_pos rfl]; exact World.cell?_setCell_same w _ _ (h.c0 i hi)
    · rw [if_neg e, hne _ (by omega)]; exact h.c0 i hi
  · rw [hne _ (by omega)]
    by_cases e : i = k
    · rw [if_pos e]; exact h.c1 i hi
    · rw [if_neg e]; exact h.c1 i hi
  · rw [hne _ (by omega)]; exact h.c2 i hi
  · by_cases e : i = k
    · rw [if_pos e]; exact ⟨hs, (h.ok i hi).2⟩
    · rw [if_neg e]; exact h.ok i hi
  · have ho : Only [b] w (w.setCell ⟨b, off + k * 3, none⟩ (.string s)) := (Only.refl _ _).set _ _
    have hr := (h.rd i hi).only ho (fun c hc hc2 => by rw [List.mem_singleton] at hc2; subst hc2; exact hbF i hi hc)
    by_cases e : i = k
    · rw [if_pos e]; exact hr
    · rw [if_neg e]; exact hr
theorem ARows.setLevel {k : Nat} (h : ARows w b off n V cur F) (hbF : ∀ i, i < n → b ∉ F i) (hk : k < n) (s : Int) (hs : fInt.ok s) :
    ARows (w.setCell ⟨b, off + k * 3 + 2, none⟩ (.int .i64 s)) b off n V (fun i => if i = k then ⟨(cur i).id, s, (cur i).cells⟩ else cur i) F := by
  have hne : ∀ p, p ≠ off + k * 3 + 2 → (w.setCell ⟨b, off + k * 3 + 2, none⟩ (.int .i64 s)).cell? ⟨b, p, none⟩ = w.cell? ⟨b, p, none⟩ := fun p hp => World.cell?_setCell_other _ _ _ _ (fun e => by injection e with _ e _; exact hp e.symm)
  refine ⟨fun i hi => ?_, fun i hi => ?_, fun i hi => ?_, fun i hi j hj => (frozen?_setCell _ _ _ _).trans (h.z i hi j hj), fun i hi => ?_, fun i hi => ?_⟩
  · rw [hne _ (by omega)]
    by_cases e : i = k
    · rw [if_pos e]; exact h.c0 i hi
    · rw [if_neg e]; exact h.c0 i hi
  · by_cases e : i = k
    · subst e; rw [if_pos rfl]; exact World.cell?_setCell_same w _ _ (h.c1 i hi)
    · rw [if_neg e, hne _ (by omega)]; exact h.c1 i hi
  · rw [hne _ (by omega)]; exact h.c2 i hi
  · by_cases e : i = k
    · rw [if_pos e]; exact ⟨(h.ok i hi).1, hs⟩
    · rw [if_neg e]; exact h.ok i hi
  · have ho : Only [b] w (w.setCell ⟨b, off + k * 3 + 2, none⟩ (.int .i64 s)) := (Only.refl _ _).set _ _
    have hr := (h.rd i hi).only ho (fun c hc hc2 => by rw [List.mem_singleton] at hc2; subst hc2; exact hbF i hi hc)
    by_cases e : i = k
    · rw [if_pos e]; exact hr
    · rw [if_neg e]; exact hr
theorem ARows.setNear {k : Nat} {ys : List Int} (h : ARows w b off n V cur F) (hb : b < w.heap.size) (hbF : b ∉ F k) (hap : ∀ i, i < n → i ≠ k → ∀ c ∈ F i, c ∉ F k) (hk : k < n) (hs : Sl fInt.cod w' (V k) ys (F k)) (ho : Only (F k) w w') :
    ARows w' b off n V (fun i => if i = k then ⟨(cur i).id, (cur i).worth, ys⟩ else cur i) F := by
  have hbk := ho.block b hb hbF
  have hc : ∀ p, w'.cell? ⟨b, p, none⟩ = w.cell? ⟨b, p, none⟩ := fun p => World.cell?_of_block (a := ⟨b, p, none⟩) hbk
  have hz : ∀ p, w'.frozen? ⟨b, p, none⟩ = w.frozen? ⟨b, p, none⟩ := fun p => World.frozen?_of_block (a := ⟨b, p, none⟩) hbk
  refine ⟨fun i hi => ?_, fun i hi => ?_, fun i hi => (hc _).trans (h.c2 i hi), fun i hi j hj => (hz _).trans (h.z i hi j hj), fun i hi => ?_, fun i hi => ?_⟩
  · rw [hc]; by_cases e : i = k
    · rw [if_pos e]; exact h.c0 i hi
    · rw [if_neg e]; exact h.c0 i hi
  · rw [hc]; by_cases e : i = k
    · rw [if_pos e]; exact h.c1 i hi
    · rw [if_neg e]; exact h.c1 i hi
  · by_cases e : i = k
    · rw [if_pos e]; exact h.ok i hi
    · rw [if_neg e]; exact h.ok i hi
  · by_cases e : i = k
    · subst e; rw [if_pos rfl]; exact hs
    · rw [if_neg e]; exact (h.rd i hi).only ho (hap i hi e)
/-- One region of a slice. -/
theorem Sl.ast {k : Nat} (h : Sl cAsset w (.slice A len cap) xs fp) (hk : k < xs.length) :
    ∃ b off vk fk, A = some ⟨b, off, none⟩ ∧ w.cell? ⟨b, off + k * 3, none⟩ = some (.string xs[k].id) ∧ w.cell? ⟨b, off + k * 3 + 2, none⟩ = some (.int .i64 xs[k].worth) ∧ w.cell? ⟨b, off + k * 3 + 1, none⟩ = some vk ∧ Sl fInt.cod w vk xs[k].cells fk ∧ b ∈ fp ∧ (∀ c ∈ fk, c ∈ fp) ∧ fStr.ok xs[k].id ∧ fInt.ok xs[k].worth := by
  obtain ⟨b, off, V, F, hA, hb, hfp, hr⟩ := h.asts (by omega)
  have e : xs.getD k as0 = xs[k] := by simp [List.getD_eq_getElem?_getD, hk]
  have h0 := hr.c0 k hk
  have h1 := hr.c1 k hk
  have h3 := hr.rd k hk
  have h4 := hr.ok k hk
  rw [e] at h0 h1 h3 h4
  exact ⟨b, off, V k, F k, hA, h0, h1, hr.c2 k hk, h3, by rw [hfp]; simp, fun c hc => by rw [hfp]; exact List.mem_cons_of_mem _ (List.mem_flatMap.2 ⟨k, by simpa using hk, hc⟩), h4.1, h4.2⟩
end
def totAsset (x : DAsset) : Nat := x.id.size + totInt64S x.cells
def totAssetS (xs : List DAsset) : Nat := xs.length + (xs.map totAsset).sum
theorem totAssetS_mem {xs : List DAsset} {r : DAsset} (h : r ∈ xs) : totAsset r ≤ totAssetS xs := by
  unfold totAssetS
  have : totAsset r ≤ (xs.map totAsset).sum := by
    obtain ⟨i, hi, rfl⟩ := List.getElem_of_mem h
    have h1 := sum_take_step_ totAsset xs i hi
    have h2 : ((xs.take (i + 1)).map totAsset).sum ≤ (xs.map totAsset).sum := by
      have h3 := congrArg (fun l => (l.map totAsset).sum) (List.take_append_drop (i + 1) xs)
      simp only [List.map_append, List.sum_append] at h3
      omega
    omega
  omega
set_option maxRecDepth 100000 in
set_option maxHeartbeats 2000000 in
theorem szAsset_any (x : DAsset) (v : Value) (fp : List Nat) (left : Int) (w : World) (hx : Sl fInt.cod w v x.cells fp) (hok : fStr.ok x.id) (h0 : 0 ≤ left) (h1 : left ≤ 1048576) :
    Calls Try.prog 34 #[.agg #[.string x.id, v, .int .i64 x.worth], .int .i64 left] w fun e w' => SzR left (totAsset x) w e w' := by
  obtain ⟨A, cap, rfl, hlen, hcap⟩ := hx.form
  have hsz : x.id.size ≤ 9223372036854775807 := hok
  have hB : Below w.heap.size w (w.alloc (.cells #[.string x.id, .slice A x.cells.length cap, .int .i64 x.worth] 74)) := (Below.refl _ _).alloc (Nat.le_refl _) _
  have hx2 := hx.below' hB
  by_cases hl : left - (x.id.size : Int) < 0
  · go_enter Try.func34, Try.ntmps34
    go_wp2
    go_ret
    exact .no hB
  · go_enter Try.func34, Try.ntmps34
    go_wp2_with fail
    refine (szInt64S_any _ _ _ _ _ hx2 (by omega) (by omega)).mono ?_
    rintro e w2 ⟨q, rfl, hq, hb2⟩
    have hbb := hB.trans (hb2.mono hB.size)
    by_cases hneg : q < 0
    · go_wp2
      go_ret
      exact .no hbb
    · have hq2 : 0 ≤ q ∧ q + (totInt64S x.cells : Nat) = left - (x.id.size : Int) := by
        rcases hq with h | h
        · omega
        · exact h
      have HQ := Lib.hid hq2.2
      clear hq hq2
      go_wp2
      go_ret
      exact .yes (by omega) (by have := HQ.out; unfold totAsset; omega) hbb
set_option maxRecDepth 100000 in
set_option maxHeartbeats 2000000 in
theorem szAssetS_any (v : Value) (xs : List DAsset) (fp : List Nat) (left : Int) (w : World) (hx : Sl cAsset w v xs fp) (h0 : 0 ≤ left) (h1 : left ≤ 1048576) :
    Calls Try.prog 12 #[v, .int .i64 left] w fun e w' => SzR left (totAssetS xs) w e w' := by
  obtain ⟨A, cap, rfl, hlen, hcap⟩ := hx.form
  by_cases hl : left - (xs.length : Int) < 0
  · go_enter Try.func12, Try.ntmps12
    go_wp2
    go_ret
    exact .no (Below.refl _ _)
  · go_enter Try.func12, Try.ntmps12
    go_wp2
    go_loopw [1, 5] (fun l i wr => ∃ k : Nat, k ≤ xs.length ∧ i = .int .i64 k ∧ Below w.heap.size w wr ∧ ∃ r : Int, l = .int .i64 r ∧ 0 ≤ r ∧ r + (xs.length + ((xs.take k).map totAsset).sum : Nat) = left) (fun _ i _ => xs.length - (intOf i).toNat)
    case atStart => exact ⟨0, Nat.zero_le _, rfl, Below.refl _ _, _, rfl, by omega, by simp⟩
    case round =>
      obtain ⟨k, hk, rfl, hb, r, rfl, hr0, hr⟩ := hrel
      have HR := Lib.hid hr
      clear hr
      have hr1 : r ≤ 1048576 := by have := HR.out; omega
      by_cases hlt : k < xs.length
      · obtain ⟨b, off, vk, fk, rfl, hc0, hc1, hc2, hs0, _, _, hok, _⟩ := (hx.below' hb).ast hlt
        obtain ⟨A1, cap1, rfl, _, _⟩ := hs0.form
        go_wp2_with fail
        refine (szAsset_any xs[k] _ _ r _ hs0 hok hr0 hr1).mono ?_
        rintro e w2 ⟨q, rfl, hq, hb2⟩
        have hbb := hb.trans (hb2.mono hb.size)
        by_cases hneg : q < 0
        · go_wp2
          go_ret
          exact .no hbb
        · have hq2 : 0 ≤ q ∧ q + (totAsset xs[k] : Nat) = r := by
            rcases hq with h | h
            · omega
            · exact h
          have HQ := Lib.hid hq2.2
          clear hq hq2 hc0 hc1 hc2
          go_wp2
          go_roundw
          case rel => exact ⟨k + 1, by omega, by go_num, hbb, _, rfl, by omega, by have := HR.out; have := HQ.out; have hst := sum_take_step_ totAsset xs k hlt; omega⟩
          case measure => simp [intOf]; omega
      · go_wp2
        go_ret
        exact .yes hr0 (by have := HR.out; rw [List.take_of_length_le (by omega)] at this; unfold totAssetS; exact this) hb
set_option maxRecDepth 100000 in
set_option maxHeartbeats 2000000 in
theorem eqAsset_any (x : DAsset) (v v' : Value) (fp fp' : List Nat) (w : World) (hx : Sl fInt.cod w v x.cells fp) (hy : Sl fInt.cod w v' x.cells fp') :
    Calls Try.prog 55 #[.agg #[.string x.id, v, .int .i64 x.worth], .agg #[.string x.id, v', .int .i64 x.worth]] w fun e w' => YesR w e w' := by
  obtain ⟨A, cap, rfl, hlen, hcap⟩ := hx.form
  obtain ⟨A', cap', rfl, hlen', hcap'⟩ := hy.form
  have hB : Below w.heap.size w ((w.alloc (.cells #[.string x.id, .slice A x.cells.length cap, .int .i64 x.worth] 86)).alloc (.cells #[.string x.id, .slice A' x.cells.length cap', .int .i64 x.worth] 86)) := ((Below.refl _ _).alloc (Nat.le_refl _) _).alloc (by simp) _
  have hx2 := hx.below' hB
  have hy2 := hy.below' hB
  have ca2 : ((w.alloc (.cells #[.string x.id, .slice A x.cells.length cap, .int .i64 x.worth] 86)).alloc (.cells #[.string x.id, .slice A' x.cells.length cap', .int .i64 x.worth] 86)).cell? ⟨w.heap.size, 2, none⟩ = some (.int .i64 x.worth) := by simp
  have cb2 : ((w.alloc (.cells #[.string x.id, .slice A x.cells.length cap, .int .i64 x.worth] 86)).alloc (.cells #[.string x.id, .slice A' x.cells.length cap', .int .i64 x.worth] 86)).cell? ⟨w.heap.size + 1, 2, none⟩ = some (.int .i64 x.worth) := by simp
  have hsz : ((w.alloc (.cells #[.string x.id, .slice A x.cells.length cap, .int .i64 x.worth] 86)).alloc (.cells #[.string x.id, .slice A' x.cells.length cap', .int .i64 x.worth] 86)).heap.size = w.heap.size + 1 + 1 := by simp
  go_enter Try.func55, Try.ntmps55
  go_wp2_with fail
  generalize ((w.alloc (.cells #[.string x.id, .slice A x.cells.length cap, .int .i64 x.worth] 86)).alloc (.cells #[.string x.id, .slice A' x.cells.length cap', .int .i64 x.worth] 86)) = W at *
  refine (eqInt64S_any _ _ _ _ _ _ hx2 hy2).mono ?_
  rintro e w1 ⟨rfl, hb⟩
  have hBB := hB.trans (hb.mono hB.size)
  replace ca2 := (hb.cell (p := ⟨w.heap.size, 2, none⟩) (by show w.heap.size < _; omega)).trans ca2
  replace cb2 := (hb.cell (p := ⟨w.heap.size + 1, 2, none⟩) (by show w.heap.size + 1 < _; omega)).trans cb2
  clear hx2 hy2 hB hb hsz
  go_wp2
  go_ret
  exact ⟨rfl, hBB⟩
set_option maxRecDepth 100000 in
set_option maxHeartbeats 4000000 in
theorem eqAssetS_any (v v' : Value) (xs : List DAsset) (fp fp' : List Nat) (w : World) (hx : Sl cAsset w v xs fp) (hy : Sl cAsset w v' xs fp') :
    Calls Try.prog 31 #[v, v'] w fun e w' => YesR w e w' := by
  obtain ⟨A, cap, rfl, hlen, hcap⟩ := hx.form
  obtain ⟨A', cap', rfl, hlen', hcap'⟩ := hy.form
  go_enter Try.func31, Try.ntmps31
  go_wp2
  go_loopw [5] (fun i wr => ∃ k : Nat, k ≤ xs.length ∧ i = .int .i64 k ∧ Below w.heap.size w wr) (fun i _ => xs.length - (intOf i).toNat)
  case atStart => exact ⟨0, Nat.zero_le _, rfl, Below.refl _ _⟩
  case round =>
    obtain ⟨k, hk, rfl, hb⟩ := hrel
    by_cases hlt : k < xs.length
    · obtain ⟨b, off, vk, fk, rfl, hc0, hc1, hc2, hs0, _⟩ := (hx.below' hb).ast hlt
      obtain ⟨b', off', vk', fk', rfl, hd0, hd1, hd2, hs1, _⟩ := (hy.below' hb).ast hlt
      obtain ⟨A1, cap1, rfl, _, _⟩ := hs0.form
      obtain ⟨A2, cap2, rfl, _, _⟩ := hs1.form
      go_wp2
      have ghc0 := cell_regrown hc0
      have ghc1 := cell_regrown hc1
      have ghc2 := cell_regrown hc2
      have ghd0 := cell_regrown hd0
      have ghd1 := cell_regrown hd1
      have ghd2 := cell_regrown hd2
      refine wp_region_mix (C := fun w' => ∃ p : Regrown, w' = Go.Sort.grow (redrawn wr p.d) p.os) [true, true, true, true, true, true, true, true, false, true] (by kernel_rfl) (by kernel_rfl) (by kernel_rfl) (fun _ _ d _ _ h => by cases d <;> exact h) (regrown_of_below (Below.drew (Below.refl _ _))) ?_
      have hS0 : Below (wr.heap.size) wr wr.drew := Below.drew (Below.refl _ _)
      refine wpMix_pure (by kernel_rfl) (fun K hK => ?_)
      go_big_quiet_op
      refine hK _ ?_; clear hK K
      refine wpMix_pure (by kernel_rfl) (fun K hK => ?_)
      go_big_quiet_op
      refine hK _ ?_; clear hK K
      refine wpMix_pure (by kernel_rfl) (fun K hK => ?_)
      go_big_quiet_op
      refine hK _ ?_; clear hK K
      refine wpMix_pure (by kernel_rfl) (fun K hK => ?_)
      go_big_quiet_op
      refine hK _ ?_; clear hK K
      refine wpMix_pure (by kernel_rfl) (fun K hK => ?_)
      go_big_quiet_op
      refine hK _ ?_; clear hK K
      refine wpMix_pure (by kernel_rfl) (fun K hK => ?_)
      go_big_quiet_op
      refine hK _ ?_; clear hK K
      refine wpMix_pure (by kernel_rfl) (fun K hK => ?_)
      go_big_quiet_op
      refine hK _ ?_; clear hK K
      refine wpMix_pure (by kernel_rfl) (fun K hK => ?_)
      go_big_quiet_op
      refine hK _ ?_; clear hK K
      refine wpMix_act (by kernel_rfl) (fun K hK => ?_)
      go_big_op
      refine (eqAsset_any xs[k] _ _ _ _ _ (hs0.below' hS0) (hs1.below' hS0)).mono ?_
      rintro e wr1 ⟨rfl, hbr1⟩
      have hbr1S : Below (wr.heap.size) wr wr1 := hS0.trans (hbr1.mono hS0.size)
      refine hK _ _ (regrown_of_below hbr1S) ?_
      clear hK K
      refine wpMix_pure (by kernel_rfl) (fun K hK => ?_)
      go_big_quiet_op
      refine hK _ ?_; clear hK K
      refine wpMix_nil ?_
      have hbb := hb.trans (hbr1S.mono hb.size)
      go_wp2
      go_roundw
      case rel => exact ⟨k + 1, by omega, by go_num, hbb⟩
      case measure => simp [intOf]; omega
    · go_wp2
      go_ret
      exact ⟨rfl, hb⟩

theorem Only.setIn {fp : List Nat} {w w' : World} {g : Nat} (h : Only fp w w') (hg : g ∈ fp) (o : Nat) (u : Value) : Only fp w (w'.setCell ⟨g, o, none⟩ u) :=
  ⟨h.os, h.tape, h.output, by simpa [World.setCell] using h.size, fun i hi hn => (Below.heap_setCell w' ⟨g, o, none⟩ u i (fun e => hn (by rw [e]; exact hg))).trans (h.block i hi hn)⟩
theorem three_mid (w : World) (o1 o3 : Obj) (cs : Array Value) (T : TypeId) (j : Nat) : (((w.alloc o1).alloc (.cells cs T)).alloc o3).cell? ⟨w.heap.size + 1, j, none⟩ = cs[j]? ∧ (((w.alloc o1).alloc (.cells cs T)).alloc o3).frozen? ⟨w.heap.size + 1, j, none⟩ = false := by
  have hb := (Below.refl ((w.alloc o1).alloc (.cells cs T)).heap.size ((w.alloc o1).alloc (.cells cs T))).alloc (Nat.le_refl _) o3
  have hlt : w.heap.size + 1 < ((w.alloc o1).alloc (.cells cs T)).heap.size := by rw [World.size_alloc, World.size_alloc]; omega
  have h2 : ((w.alloc o1).alloc (.cells cs T)).cell? ⟨(w.alloc o1).heap.size, j, none⟩ = cs[j]? := by rw [World.cell?_alloc_at _ _ _ _ rfl]
  have h3 : ((w.alloc o1).alloc (.cells cs T)).frozen? ⟨(w.alloc o1).heap.size, j, none⟩ = false := by rw [World.frozen?_alloc_at _ _ _ _ rfl]
  rw [World.size_alloc] at h2 h3
  exact ⟨(hb.cell (p := ⟨w.heap.size + 1, j, none⟩) hlt).trans h2, (hb.frozen (p := ⟨w.heap.size + 1, j, none⟩) hlt).trans h3⟩
theorem three_low (w : World) (o2 o3 : Obj) (cs : Array Value) (T : TypeId) (j : Nat) : (((w.alloc (.cells cs T)).alloc o2).alloc o3).cell? ⟨w.heap.size, j, none⟩ = cs[j]? := by
  have hb := ((Below.refl (w.alloc (.cells cs T)).heap.size (w.alloc (.cells cs T))).alloc (Nat.le_refl _) o2).alloc (by simp) o3
  have hlt : w.heap.size < (w.alloc (.cells cs T)).heap.size := by rw [World.size_alloc]; omega
  have h2 : (w.alloc (.cells cs T)).cell? ⟨w.heap.size, j, none⟩ = cs[j]? := by rw [World.cell?_alloc_at _ _ _ _ rfl]
  exact (hb.cell (p := ⟨w.heap.size, j, none⟩) hlt).trans h2
theorem three_top (w : World) (o1 o2 : Obj) (cs : Array Value) (T : TypeId) (j : Nat) : (((w.alloc o1).alloc o2).alloc (.cells cs T)).cell? ⟨w.heap.size + 1 + 1, j, none⟩ = cs[j]? ∧ (((w.alloc o1).alloc o2).alloc (.cells cs T)).frozen? ⟨w.heap.size + 1 + 1, j, none⟩ = false := by
  have h2 : (((w.alloc o1).alloc o2).alloc (.cells cs T)).cell? ⟨((w.alloc o1).alloc o2).heap.size, j, none⟩ = cs[j]? := by rw [World.cell?_alloc_at _ _ _ _ rfl]
  have h3 : (((w.alloc o1).alloc o2).alloc (.cells cs T)).frozen? ⟨((w.alloc o1).alloc o2).heap.size, j, none⟩ = false := by rw [World.frozen?_alloc_at _ _ _ _ rfl]
  rw [World.size_alloc, World.size_alloc] at h2 h3
  exact ⟨h2, h3⟩
theorem hit_cellG {w : World} {p : Addr} {x : Value} (h : (w.cell? p).isSome = true) : (w.setCell p x).cell? p = some x := by
  obtain ⟨v, hv⟩ := Option.isSome_iff_exists.1 h
  exact World.cell?_setCell_same w p x hv
set_option maxRecDepth 100000 in
set_option maxHeartbeats 4000000 in
theorem toAsset_any (x : DAsset) (v : Value) (fp : List Nat) (w : World) (hx : Sl fInt.cod w v x.cells fp) (hl : x.cells.length ≤ 1048576) :
    Calls Try.prog 42 #[.agg #[.string x.id, v, .int .i64 x.worth]] w fun e w' => ∃ A c, e = .returned (.agg #[.string x.id, .slice A x.cells.length c, .int .i64 x.worth]) ∧ New fInt.cod w (.slice A x.cells.length c) x.cells w' := by
  obtain ⟨A, cap, rfl, hlen, hcap⟩ := hx.form
  have hB : Below w.heap.size w (((w.alloc (.cells #[.string x.id, .slice A x.cells.length cap, .int .i64 x.worth] 74)).alloc (.cells #[.string ⟨#[]⟩, .slice none 0 0, .int .i64 0] 86)).alloc (.cells #[.string x.id, .slice none 0 0, .int .i64 0] 86)) := (((Below.refl _ _).alloc (Nat.le_refl _) _).alloc (by simp) _).alloc (by simp; omega) _
  have hx2 := hx.below' hB
  have d0 : (((w.alloc (.cells #[.string x.id, .slice A x.cells.length cap, .int .i64 x.worth] 74)).alloc (.cells #[.string ⟨#[]⟩, .slice none 0 0, .int .i64 0] 86)).alloc (.cells #[.string x.id, .slice none 0 0, .int .i64 0] 86)).cell? ⟨w.heap.size + 1, 0, none⟩ = some (.string ⟨#[]⟩) := (three_mid _ _ _ _ _ _).1
  have d1 : (((w.alloc (.cells #[.string x.id, .slice A x.cells.length cap, .int .i64 x.worth] 74)).alloc (.cells #[.string ⟨#[]⟩, .slice none 0 0, .int .i64 0] 86)).alloc (.cells #[.string x.id, .slice none 0 0, .int .i64 0] 86)).cell? ⟨w.heap.size + 1, 1, none⟩ = some (.slice none 0 0) := (three_mid _ _ _ _ _ _).1
  have d2 : (((w.alloc (.cells #[.string x.id, .slice A x.cells.length cap, .int .i64 x.worth] 74)).alloc (.cells #[.string ⟨#[]⟩, .slice none 0 0, .int .i64 0] 86)).alloc (.cells #[.string x.id, .slice none 0 0, .int .i64 0] 86)).cell? ⟨w.heap.size + 1, 2, none⟩ = some (.int .i64 0) := (three_mid _ _ _ _ _ _).1
  have q2 : (((w.alloc (.cells #[.string x.id, .slice A x.cells.length cap, .int .i64 x.worth] 74)).alloc (.cells #[.string ⟨#[]⟩, .slice none 0 0, .int .i64 0] 86)).alloc (.cells #[.string x.id, .slice none 0 0, .int .i64 0] 86)).cell? ⟨w.heap.size, 2, none⟩ = some (.int .i64 x.worth) := three_low _ _ _ _ _ _
  have e0 : (((w.alloc (.cells #[.string x.id, .slice A x.cells.length cap, .int .i64 x.worth] 74)).alloc (.cells #[.string ⟨#[]⟩, .slice none 0 0, .int .i64 0] 86)).alloc (.cells #[.string x.id, .slice none 0 0, .int .i64 0] 86)).cell? ⟨w.heap.size + 1 + 1, 0, none⟩ = some (.string x.id) := (three_top _ _ _ _ _ _).1
  have e1 : (((w.alloc (.cells #[.string x.id, .slice A x.cells.length cap, .int .i64 x.worth] 74)).alloc (.cells #[.string ⟨#[]⟩, .slice none 0 0, .int .i64 0] 86)).alloc (.cells #[.string x.id, .slice none 0 0, .int .i64 0] 86)).cell? ⟨w.heap.size + 1 + 1, 1, none⟩ = some (.slice none 0 0) := (three_top _ _ _ _ _ _).1
  have e2 : (((w.alloc (.cells #[.string x.id, .slice A x.cells.length cap, .int .i64 x.worth] 74)).alloc (.cells #[.string ⟨#[]⟩, .slice none 0 0, .int .i64 0] 86)).alloc (.cells #[.string x.id, .slice none 0 0, .int .i64 0] 86)).cell? ⟨w.heap.size + 1 + 1, 2, none⟩ = some (.int .i64 0) := (three_top _ _ _ _ _ _).1
  have zz1 : ∀ j, (((w.alloc (.cells #[.string x.id, .slice A x.cells.length cap, .int .i64 x.worth] 74)).alloc (.cells #[.string ⟨#[]⟩, .slice none 0 0, .int .i64 0] 86)).alloc (.cells #[.string x.id, .slice none 0 0, .int .i64 0] 86)).frozen? ⟨w.heap.size + 1, j, none⟩ = false := fun j => (three_mid _ _ _ _ _ _).2
  have zz2 : ∀ j, (((w.alloc (.cells #[.string x.id, .slice A x.cells.length cap, .int .i64 x.worth] 74)).alloc (.cells #[.string ⟨#[]⟩, .slice none 0 0, .int .i64 0] 86)).alloc (.cells #[.string x.id, .slice none 0 0, .int .i64 0] 86)).frozen? ⟨w.heap.size + 1 + 1, j, none⟩ = false := fun j => (three_top _ _ _ _ _ _).2
  have hsz : (((w.alloc (.cells #[.string x.id, .slice A x.cells.length cap, .int .i64 x.worth] 74)).alloc (.cells #[.string ⟨#[]⟩, .slice none 0 0, .int .i64 0] 86)).alloc (.cells #[.string x.id, .slice none 0 0, .int .i64 0] 86)).heap.size = w.heap.size + 1 + 1 + 1 := by simp
  go_enter Try.func42, Try.ntmps42
  go_wp2_with fail
  generalize (((w.alloc (.cells #[.string x.id, .slice A x.cells.length cap, .int .i64 x.worth] 74)).alloc (.cells #[.string ⟨#[]⟩, .slice none 0 0, .int .i64 0] 86)).alloc (.cells #[.string x.id, .slice none 0 0, .int .i64 0] 86)) = W at *
  refine (toInt64S_any _ _ _ _ hx2 hl).mono ?_
  rintro e w2 ⟨y, rfl, ⟨⟨fy, hsy, hlo, hnd⟩, hb⟩⟩
  obtain ⟨Ay, cy, rfl, _, _⟩ := hsy.form
  replace q2 := (hb.cell (p := ⟨w.heap.size, 2, none⟩) (by show w.heap.size < _; omega)).trans q2
  replace d0 := (hb.cell (p := ⟨w.heap.size + 1, 0, none⟩) (by show w.heap.size + 1 < _; omega)).trans d0
  replace d1 := (hb.cell (p := ⟨w.heap.size + 1, 1, none⟩) (by show w.heap.size + 1 < _; omega)).trans d1
  replace d2 := (hb.cell (p := ⟨w.heap.size + 1, 2, none⟩) (by show w.heap.size + 1 < _; omega)).trans d2
  replace e0 := (hb.cell (p := ⟨w.heap.size + 1 + 1, 0, none⟩) (by show w.heap.size + 1 + 1 < _; omega)).trans e0
  replace e1 := (hb.cell (p := ⟨w.heap.size + 1 + 1, 1, none⟩) (by show w.heap.size + 1 + 1 < _; omega)).trans e1
  replace e2 := (hb.cell (p := ⟨w.heap.size + 1 + 1, 2, none⟩) (by show w.heap.size + 1 + 1 < _; omega)).trans e2
  have z0 := (hb.frozen (p := ⟨w.heap.size + 1, 0, none⟩) (by show w.heap.size + 1 < _; omega)).trans (zz1 0)
  have z1 := (hb.frozen (p := ⟨w.heap.size + 1, 1, none⟩) (by show w.heap.size + 1 < _; omega)).trans (zz1 1)
  have z2 := (hb.frozen (p := ⟨w.heap.size + 1, 2, none⟩) (by show w.heap.size + 1 < _; omega)).trans (zz1 2)
  have y1 := (hb.frozen (p := ⟨w.heap.size + 1 + 1, 1, none⟩) (by show w.heap.size + 1 + 1 < _; omega)).trans (zz2 1)
  have y2 := (hb.frozen (p := ⟨w.heap.size + 1 + 1, 2, none⟩) (by show w.heap.size + 1 + 1 < _; omega)).trans (zz2 2)
  have hbb := hB.trans (hb.mono hB.size)
  have hlo2 : ∀ b ∈ fy, w.heap.size + 3 ≤ b := fun b hbm => by have := hlo b hbm; omega
  have hbs := hbb.size
  clear zz1 zz2 hb hlo hx2
  go_wp2
  refine bodyPost_ret (v := .agg #[.string x.id, .slice Ay x.cells.length cy, .int .i64 x.worth]) (by simp [results, hit_cellG, d0, d1, d2, e0, e1, e2, Try.results42, go_sem]) rfl ⟨Ay, cy, rfl, ⟨⟨fy, hsy.only (fp' := [w.heap.size + 1, w.heap.size + 1 + 1]) ?_ ?_, fun b hbm => by have := hlo2 b hbm; omega, hnd⟩, ?_⟩⟩
  · repeat (refine Only.setIn ?_ (by simp) _ _)
    exact Only.refl _ _
  · intro b h1 h2
    have := hlo2 b h1
    simp at h2
    omega
  · exact (((((hbb.setCell (show w.heap.size ≤ w.heap.size + 1 + 1 by omega) _).setCell (show w.heap.size ≤ w.heap.size + 1 + 1 by omega) _).setCell (show w.heap.size ≤ w.heap.size + 1 by omega) _).setCell (show w.heap.size ≤ w.heap.size + 1 by omega) _).setCell (show w.heap.size ≤ w.heap.size + 1 by omega) _)

/-- A row of regions that the call fills one by one. -/
def ASt (w : World) (g : Nat) (T : TypeId) (xs : List DAsset) (k : Nat) : Prop :=
  ∃ (V : Nat → Value) (F : Nat → List Nat), Fill w g g T 3 xs.length ((List.range k).flatMap fun i => [.string (xs.getD i as0).id, V i, .int .i64 (xs.getD i as0).worth]) ∧ ARows w g 0 k V (fun i => xs.getD i as0) F ∧ ((List.range k).flatMap F).Nodup ∧ (∀ c ∈ (List.range k).flatMap F, g < c ∧ c < w.heap.size)
theorem ASt.start (w : World) (T : TypeId) (z : Array Value) (xs : List DAsset) (hn : xs.length ≤ 9223372036854775807) : ASt (w.alloc (.cells (madeCells z (xs.length * 3)) T)) w.heap.size T xs 0 :=
  ⟨fun _ => undef, fun _ => [], by simpa using Fill.start w T 3 xs.length z hn, ⟨fun _ h => absurd h (Nat.not_lt_zero _), fun _ h => absurd h (Nat.not_lt_zero _), fun _ h => absurd h (Nat.not_lt_zero _), fun _ h => absurd h (Nat.not_lt_zero _), fun _ h => absurd h (Nat.not_lt_zero _), fun _ h => absurd h (Nat.not_lt_zero _)⟩, by simp, by simp⟩
section
variable {w w' : World} {g : Nat} {T : TypeId} {xs : List DAsset} {k : Nat}
theorem ASt.lt (h : ASt w g T xs k) : g < w.heap.size := by
  obtain ⟨V, F, h1, _⟩ := h
  exact h1.lt
theorem ASt.below (h : ASt w g T xs k) (hb : Below w.heap.size w w') : ASt w' g T xs k := by
  obtain ⟨V, F, h1, h2, h4, h5⟩ := h
  exact ⟨V, F, h1.below hb h1.lt, h2.below h1.lt hb, h4, fun c hc => ⟨(h5 c hc).1, Nat.lt_of_lt_of_le (h5 c hc).2 hb.size⟩⟩
theorem ASt.cell (h : ASt w g T xs k) {j : Nat} (hj : j < xs.length * 3) : ∃ u, w.cell? ⟨g, j, none⟩ = some u := by
  obtain ⟨V, F, h1, _⟩ := h
  exact h1.cell hj
theorem ASt.frozen (h : ASt w g T xs k) (j : Nat) : w.frozen? ⟨g, j, none⟩ = false := by
  obtain ⟨V, F, h1, _⟩ := h
  exact h1.frozen j
theorem ASt.next (h : ASt w g T xs k) (hk : k < xs.length) {y : Value} (hok : fStr.ok xs[k].id ∧ fInt.ok xs[k].worth) (hn : New fInt.cod w y xs[k].cells w') :
    ASt (((w'.setCell ⟨g, k * 3, none⟩ (.string xs[k].id)).setCell ⟨g, k * 3 + 1, none⟩ y).setCell ⟨g, k * 3 + 2, none⟩ (.int .i64 xs[k].worth)) g T xs (k + 1) := by
  have hg := h.lt
  obtain ⟨V, F, h1, h2, h4, h5⟩ := h
  obtain ⟨⟨f, hs, hlo, hnd⟩, hb⟩ := hn
  generalize hW : ((w'.setCell ⟨g, k * 3, none⟩ (.string xs[k].id)).setCell ⟨g, k * 3 + 1, none⟩ y).setCell ⟨g, k * 3 + 2, none⟩ (.int .i64 xs[k].worth) = W
  have ho : Only [g] w' W := by rw [← hW]; exact (((Only.refl _ _).set _ _).set _ _).set _ _
  have hgd : xs.getD k as0 = xs[k] := by simp [List.getD_eq_getElem?_getD, hk]
  have hne : ∀ c, g < c → c ∉ [g] := fun c hc hm => by rw [List.mem_singleton] at hm; omega
  have em : (List.range (k + 1)).flatMap (fun i => [Value.string (xs.getD i as0).id, (fun i => if i = k then y else V i) i, Value.int .i64 (xs.getD i as0).worth]) = (List.range k).flatMap (fun i => [Value.string (xs.getD i as0).id, V i, Value.int .i64 (xs.getD i as0).worth]) ++ [.string xs[k].id] ++ [y] ++ [.int .i64 xs[k].worth] := by
    rw [List.range_succ, List.flatMap_append, List.flatMap_cons, List.flatMap_nil, List.append_nil]
    have e0 : (List.range k).flatMap (fun i => [Value.string (xs.getD i as0).id, (fun i => if i = k then y else V i) i, Value.int .i64 (xs.getD i as0).worth]) = (List.range k).flatMap (fun i => [Value.string (xs.getD i as0).id, V i, Value.int .i64 (xs.getD i as0).worth]) := by
      rw [List.flatMap_def, List.flatMap_def]
      congr 1
      exact List.map_congr_left (fun i hi => by
        have : i ≠ k := by have : i < k := by simpa using hi
                           omega
        simp only [if_neg this])
    rw [e0, hgd]
    simp
  have ef : (List.range (k + 1)).flatMap (fun i => if i = k then f else F i) = (List.range k).flatMap F ++ f := by
    rw [List.range_succ, List.flatMap_append, List.flatMap_cons, List.flatMap_nil, if_pos rfl, List.append_nil]
    congr 1
    rw [List.flatMap_def, List.flatMap_def]
    congr 1
    exact List.map_congr_left (fun i hi => if_neg (by have : i < k := by simpa using hi
                                                      omega))
  have hf2 : Fill w' g g T 3 xs.length ((List.range k).flatMap fun i => [.string (xs.getD i as0).id, V i, .int .i64 (xs.getD i as0).worth]) := h1.below hb hg
  have hl : ((List.range k).flatMap fun i => [Value.string (xs.getD i as0).id, V i, Value.int .i64 (xs.getD i as0).worth]).length = k * 3 := by
    rw [flat_len _ 3 _ (fun _ _ => rfl)]; simp
  have hgw : g < w'.heap.size := Nat.lt_of_lt_of_le hg hb.size
  have h2' := h2.below hg hb
  have hk3 : k * 3 + 3 ≤ xs.length * 3 := by omega
  have p1 := hf2.put_at (p := k * 3) hl.symm (by omega) (.string xs[k].id)
  have p2 := p1.put_at (p := k * 3 + 1) (by rw [List.length_append, hl]; rfl) (by omega) y
  have p3 := p2.put_at (p := k * 3 + 2) (by rw [List.length_append, List.length_append, hl]; rfl) (by omega) (.int .i64 xs[k].worth)
  rw [hW] at p3
  have hcell : ∀ j, j ≠ k * 3 → j ≠ k * 3 + 1 → j ≠ k * 3 + 2 → W.cell? ⟨g, j, none⟩ = w'.cell? ⟨g, j, none⟩ := fun j a1 a2 a3 => by
    rw [← hW, World.cell?_setCell_other _ _ _ _ (fun e => by injection e with _ e _; exact a3 e.symm), World.cell?_setCell_other _ _ _ _ (fun e => by injection e with _ e _; exact a2 e.symm), World.cell?_setCell_other _ _ _ _ (fun e => by injection e with _ e _; exact a1 e.symm)]
  obtain ⟨zs, hz⟩ := p3
  have q : ∀ j, j < 3 → W.cell? ⟨g, k * 3 + j, none⟩ = [Value.string xs[k].id, y, Value.int .i64 xs[k].worth][j]? := fun j hj => by
    rw [hz.cellAt _ (by omega), List.append_assoc, List.append_assoc, List.append_assoc, List.getElem?_append_right (by rw [hl]; omega), hl, show k * 3 + j - k * 3 = j by omega]
    match j, hj with
    | 0, _ => rfl
    | 1, _ => rfl
    | 2, _ => rfl
  refine ⟨fun i => if i = k then y else V i, fun i => if i = k then f else F i, ?_, ⟨fun i hi => ?_, fun i hi => ?_, fun i hi => ?_, fun i hi j hj => hz.frozenAt _, fun i hi => ?_, fun i hi => ?_⟩, ?_, ?_⟩
  · rw [em]; exact ⟨zs, hz⟩
  · rw [Nat.zero_add]
    by_cases e : i = k
    · subst e; rw [hgd]; exact q 0 (by omega)
    · rw [hcell _ (by omega) (by omega) (by omega)]
      have := h2'.c0 i (by omega); rw [Nat.zero_add] at this; exact this
  · rw [Nat.zero_add]
    by_cases e : i = k
    · subst e; rw [hgd]; exact q 2 (by omega)
    · rw [hcell _ (by omega) (by omega) (by omega)]
      have := h2'.c1 i (by omega); rw [Nat.zero_add] at this; exact this
  · rw [Nat.zero_add]
    by_cases e : i = k
    · subst e; rw [if_pos rfl]; exact q 1 (by omega)
    · rw [hcell _ (by omega) (by omega) (by omega), if_neg e]
      have := h2'.c2 i (by omega); rw [Nat.zero_add] at this; exact this
  · by_cases e : i = k
    · subst e; rw [hgd]; exact hok
    · exact h2.ok i (by omega)
  · by_cases e : i = k
    · subst e; rw [if_pos rfl, if_pos rfl, hgd]
      exact hs.only ho (fun b hb' => hne b (by have := hlo b hb'; omega))
    · rw [if_neg e, if_neg e]
      exact (h2'.rd i (by omega)).only ho (fun b hb' => hne b (h5 b (List.mem_flatMap.2 ⟨i, by simp; omega, hb'⟩)).1)
  · rw [ef, List.nodup_append]
    exact ⟨h4, hnd, fun a ha b hb' e => by have := (h5 a ha).2; have := hlo b hb'; omega⟩
  · rw [ef]
    intro c hc
    have hsz : W.heap.size = w'.heap.size := by rw [← hW]; simp
    rcases List.mem_append.1 hc with hc | hc
    · exact ⟨(h5 c hc).1, by rw [hsz]; exact Nat.lt_of_lt_of_le (h5 c hc).2 hb.size⟩
    · exact ⟨by have := hlo c hc; omega, by rw [hsz]; exact hs.lt c hc⟩
theorem ASt.done (h : ASt w g T xs xs.length) (hm : xs.length ≤ maxLen) : ∃ fp, Sl cAsset w (.slice (some ⟨g, 0, none⟩) xs.length xs.length) xs fp ∧ (∀ b ∈ fp, g ≤ b) ∧ fp.Nodup := by
  have hg := h.lt
  obtain ⟨V, F, h1, h2, h4, h5⟩ := h
  refine ⟨_, h2.sl hg rfl (fun i hi => by simp [List.getD_eq_getElem?_getD, hi]) (Nat.le_refl _) hm, ?_, ?_⟩
  · intro b hb
    rcases List.mem_cons.1 hb with rfl | hb
    · exact Nat.le_refl _
    · exact Nat.le_of_lt (h5 b hb).1
  · rw [List.nodup_cons]
    exact ⟨fun hm' => Nat.lt_irrefl _ (h5 _ hm').1, h4⟩
end
theorem infoAssetS : (Try.prog.info? 86).map (fun i => (i.zero, i.size, i.bytes)) = some (some (.agg #[.string ⟨#[]⟩, .slice none 0 0, .int .i64 0]), 3, 48) := by kernel_rfl
set_option maxRecDepth 100000 in
set_option maxHeartbeats 4000000 in
theorem toAssetS_any (v : Value) (xs : List DAsset) (fp : List Nat) (w : World) (hx : Sl cAsset w v xs fp) (h1 : totAssetS xs ≤ 1048576) :
    Calls Try.prog 19 #[v] w fun e w' => NewR cAsset w xs e w' := by
  obtain ⟨A, cap, rfl, hlen, hcap⟩ := hx.form
  obtain ⟨i0, hi, hz0, hz1, hz2⟩ := info_parts infoAssetS
  have hl1 : xs.length ≤ 1048576 := by unfold totAssetS at h1; omega
  have hmk := fun W => run_make_rowN (P := Try.prog) 35 86 i0 _ Try.underlying35 hi hz0 .i64 .i64 xs.length xs.length (Nat.le_refl _) (by rw [hz2]; omega) (by omega) W
  rw [hz1] at hmk
  have hrl : ∀ r ∈ xs, r.cells.length ≤ 1048576 := fun r hr => by
    have := totAssetS_mem hr
    unfold totAsset totInt64S at this
    omega
  clear h1
  go_enter Try.func19, Try.ntmps19
  go_wp2
  go_loopw [4] (fun i wr => ∃ k : Nat, k ≤ xs.length ∧ i = .int .i64 k ∧ ASt wr w.heap.size 86 xs k ∧ Below w.heap.size w wr) (fun i _ => xs.length - (intOf i).toNat)
  case atStart => exact ⟨0, Nat.zero_le _, rfl, ASt.start w _ _ _ (by omega), (Below.refl _ _).alloc (Nat.le_refl _) _⟩
  case round =>
    obtain ⟨k, hk, rfl, hst, hb⟩ := hrel
    by_cases hlt : k < xs.length
    · obtain ⟨b, off, vk, fk, rfl, hc0, hc1, hc2, hs0, _, _, hok⟩ := (hx.below' hb).ast hlt
      obtain ⟨A1, cap1, rfl, _, _⟩ := hs0.form
      go_wp2_with fail
      refine (toAsset_any xs[k] _ _ _ hs0 (hrl _ (List.getElem_mem hlt))).mono ?_
      rintro e w2 ⟨Ay, cy, rfl, hn⟩
      have hst1 := hst.below hn.below
      obtain ⟨u0, hu0⟩ := hst1.cell (j := k * 3) (by omega)
      obtain ⟨u1, hu1⟩ := hst1.cell (j := k * 3 + 2) (by omega)
      obtain ⟨u2, hu2⟩ := hst1.cell (j := k * 3 + 1) (by omega)
      have hz0' := hst1.frozen (k * 3)
      have hz1' := hst1.frozen (k * 3 + 2)
      have hz2' := hst1.frozen (k * 3 + 1)
      have hst2 := hst.next hlt hok hn
      have hb2 := hb.trans (hn.below.mono hb.size)
      have hb3 : Below w.heap.size w (((w2.setCell ⟨w.heap.size, k * 3, none⟩ (.string xs[k].id)).setCell ⟨w.heap.size, k * 3 + 1, none⟩ (.slice Ay xs[k].cells.length cy)).setCell ⟨w.heap.size, k * 3 + 2, none⟩ (.int .i64 xs[k].worth)) := ((hb2.setCell (Nat.le_refl _) _).setCell (Nat.le_refl _) _).setCell (Nat.le_refl _) _
      clear hst hst1 hc0 hc1 hc2
      go_wp2
      go_roundw
      case rel => exact ⟨k + 1, by omega, by go_num, hst2, hb3⟩
      case measure => simp [intOf]; omega
    · have hk' : k = xs.length := by omega
      subst hk'
      go_wp2
      go_ret
      exact ⟨_, rfl, hst.done (by unfold maxLen; omega), hb⟩

def KaA (k0 : Int) (ns : List Nat) (i : Nat) : Int := k0 + 2 * (i : Int) + (preS ns i : Int)
def mkAst (k0 : Int) (ns : List Nat) (i : Nat) : DAsset := ⟨mt (KaA k0 ns i), KaA k0 ns i + 1 + (ns.getD i 0 : Int), marksInt64 (KaA k0 ns i + 1) (ns.getD i 0)⟩
def marksAsset (k0 : Int) (ns : List Nat) : List DAsset := (List.range ns.length).map (mkAst k0 ns)
theorem marksAsset_len (k0 : Int) (ns : List Nat) : (marksAsset k0 ns).length = ns.length := by simp [marksAsset]
theorem marksAsset_get (k0 : Int) (ns : List Nat) (i : Nat) (h : i < (marksAsset k0 ns).length) : (marksAsset k0 ns)[i] = mkAst k0 ns i := by simp [marksAsset]
def lensA (xs : List DAsset) : List Nat := xs.map fun r => r.cells.length

end Go.Proofs.Ytpebibegdeioeaa
