/- Contracts: SaveBlocks. Written by wip/gen/sa.py. -/
import Derived.Test.YtaaholabodchaaaGreatDoorTb
import Derived.Test.YtaaholabodchaaaGreatDoorCc
import Derived.Test.YtaaholabodchaaaGreatDoorBv
import Derived.Test.YtaaholabodchaaaGreatDoorBu
import Derived.Test.YtaaholabodchaaaGreatDoorSeg
import Derived.Test.YtaaholabodchaaaGreatDoorShelf
namespace Go.Proofs.YtaaholabodchaaaGreatDoor
open Go.RowKit
set_option linter.unusedVariables false

def fiveL (n : Nat) : List UInt8 := List.replicate (5 - (Lib.itoa n).length) 48 ++ Lib.itoa n
def fiveS (n : Nat) : ByteArray := ⟨(fiveL n).toArray⟩
theorem fiveS_size {n : Nat} (h : n < 65536) : (fiveS n).size = 5 := by
  have := itoa_len5 n h
  unfold fiveS fiveL
  show (List.toArray _).size = _
  simp; omega
def szOf : Value → Nat | .string s => s.size | _ => 0
theorem mk_size (l : List UInt8) : (ByteArray.mk l.toArray).size = l.length := by show l.toArray.size = _; simp
theorem l29Five_any (n : Nat) (w : World) (hn : n < 65536) :
    Calls Tryz.prog 41 #[.int .i64 (n : Int)] w fun e w' => e = .returned (.string (fiveS n)) ∧ Below w.heap.size w w' := by
  have hL := itoa_len5 n hn
  go_enter Tryz.func41, Tryz.ntmps41
  go_wp2_with fail
  refine (l01Dec_any n _ (by omega) (by omega)).mono ?_
  rintro e w1 ⟨rfl, hb⟩
  go_wp2
  go_loop [3] (fun s => ∃ t : ByteArray, s = .string t ∧ ∃ j : Nat, t.size = j + (Lib.itoa n).length ∧ t.size ≤ 5 ∧ Hid (t = ⟨(List.replicate j 48 ++ Lib.itoa n).toArray⟩)) (fun s => 5 - szOf s)
  case atStart => exact ⟨_, rfl, 0, by rw [decS_size]; omega, by rw [decS_size]; omega, by show _ = _; simp [decS]⟩
  case round =>
    obtain ⟨t, rfl, j, hj, h5, HT⟩ := hrel
    by_cases hlt : t.size < 5
    · have HT2 : Hid (ByteArray.mk #[48] ++ t = ⟨(List.replicate (j + 1) 48 ++ Lib.itoa n).toArray⟩) := by
        show _ = _
        rw [HT.out, List.replicate_succ]
        exact ByteArray.mk_append_mk [48] _
      have hs2 : (ByteArray.mk #[48] ++ t).size = (j + 1) + (Lib.itoa n).length := by rw [HT2.out, mk_size]; simp
      go_wp2
      go_round
      case rel => exact ⟨_, rfl, j + 1, hs2, by omega, HT2⟩
      case measure => show 5 - (ByteArray.mk #[48] ++ t).size < 5 - t.size; omega
    · have hfin : t = fiveS n := by
        rw [HT.out]; unfold fiveS fiveL; rw [show j = 5 - (Lib.itoa n).length by omega]
      have HF := Lib.hid hfin
      clear hfin
      go_wp2
      go_ret
      exact ⟨ret_str HF.out, hb⟩
theorem repeatL_0 : ∀ n : Nat, Lib.repeatL [48] n = List.replicate n 48
  | 0 => rfl
  | n + 1 => by rw [List.replicate_succ, ← repeatL_0 n]; rfl
theorem checkText_any (s : ByteArray) (w : World) (hs : s.size ≤ 1048576) (ht : Tab10 w) :
    Calls Tryz.prog 51 #[.string s] w fun e w' => e = .returned (.string (fiveS (crcF s))) ∧ Below w.heap.size w w' := by
  have hc := crcF_lt s
  go_enter Tryz.func51, Tryz.ntmps51
  go_wp2_with fail
  refine (implCrc16_any s _ hs).mono ?_
  rintro e w' ⟨rfl, rfl⟩
  go_wp2_with fail
  refine (Decimal_any _ _ (by omega) (by omega) ht).mono ?_
  rintro e w1 ⟨rfl, hb⟩
  have hL := itoa_len5 (crcF s) hc
  have hsz := Lib.hid (decS_size (crcF s))
  rw [← hsz.out] at hL
  have hN : (5 : Int) - ((decS (crcF s)).size : Int) = ((5 - (decS (crcF s)).size : Nat) : Int) := by omega
  go_wp2_with fail
  refine (Tryz.strings_Repeat ⟨#[48]⟩ (5 - (decS (crcF s)).size) _ (by omega) (by show 1 * _ ≤ _; omega)).mono ?_
  rintro e w2 ⟨rfl, hb2⟩
  have hr : (⟨(Lib.repeatL (⟨#[48]⟩ : ByteArray).data.toList (5 - (decS (crcF s)).size)).toArray⟩ : ByteArray) = ⟨(List.replicate (5 - (decS (crcF s)).size) 48).toArray⟩ := by rw [← repeatL_0]
  have hrs : (⟨(List.replicate (5 - (decS (crcF s)).size) 48).toArray⟩ : ByteArray).size ≤ 5 := by rw [mk_size]; simp
  have hfin : (⟨(List.replicate (5 - (decS (crcF s)).size) 48).toArray⟩ : ByteArray) ++ decS (crcF s) = fiveS (crcF s) := by
    unfold fiveS fiveL; rw [hsz.out]; exact ByteArray.mk_append_mk _ _
  have HF := Lib.hid hfin
  clear hfin
  rw [hr]
  generalize (⟨(List.replicate (5 - (decS (crcF s)).size) 48).toArray⟩ : ByteArray) = R at *
  have hd5 : (decS (crcF s)).size ≤ 5 := hL
  clear hN hr
  go_wp2
  go_ret
  exact ⟨ret_str HF.out, hb.trans (hb2.mono hb.size)⟩

def spS : ByteArray := ⟨#[32]⟩
def restB (b : DBlock) : ByteArray := b.kind ++ ⟨#[32]⟩ ++ b.name ++ ⟨#[32]⟩ ++ b.text
def lineB (b : DBlock) : ByteArray := fiveS (crcF (restB b)) ++ ⟨#[32]⟩ ++ restB b ++ ⟨#[10]⟩
theorem blockB_sizes {b : DBlock} (h : blockB b = true) : b.kind.size ≤ 10 ∧ b.name.size ≤ 10 ∧ b.text.size ≤ 400 := by
  unfold blockB nameB at h
  simp only [Bool.and_eq_true, decide_eq_true_eq] at h
  exact ⟨h.1.1.2.1.1, h.1.2.1.1, h.2⟩
theorem restB_size (b : DBlock) : (restB b).size = b.kind.size + 1 + b.name.size + 1 + b.text.size := by
  unfold restB; simp only [ByteArray.size_append]; rfl
theorem lineB_size (b : DBlock) : (lineB b).size = 7 + (restB b).size := by
  unfold lineB; simp only [ByteArray.size_append]; rw [fiveS_size (crcF_lt _)]
  show 5 + 1 + _ + 1 = _; omega

theorem bytes_appendA (a b : List UInt8) : (ByteArray.mk a.toArray ++ ByteArray.mk b.toArray) = ⟨(a ++ b).toArray⟩ := ByteArray.mk_append_mk a b
theorem bytes_selfA (s : ByteArray) : s = ⟨s.data.toList.toArray⟩ := by cases s; simp
theorem data_append (a b : ByteArray) : (a ++ b).data.toList = a.data.toList ++ b.data.toList := by
  conv => lhs; rw [bytes_selfA a, bytes_selfA b, bytes_appendA]
theorem append_mk (a : ByteArray) (l : List UInt8) : a ++ ⟨l.toArray⟩ = ⟨(a.data.toList ++ l).toArray⟩ := by
  conv => lhs; rw [bytes_selfA a]
  exact bytes_appendA _ _
def headS (n : Nat) : ByteArray := ⟨#[97, 114, 99, 104, 105, 118, 101, 32]⟩ ++ decS n ++ ⟨#[10]⟩
theorem headS_size {n : Nat} (h : n < 65536) : (headS n).size ≤ 14 := by
  have := itoa_len5 n h
  unfold headS; rw [ByteArray.size_append, ByteArray.size_append, decS_size]
  show 8 + _ + 1 ≤ _; omega
def saveL (xs : List DBlock) (k : Nat) : List UInt8 := (headS xs.length).data.toList ++ (xs.take k).flatMap (fun b => (lineB b).data.toList)
theorem saveL_zero (xs : List DBlock) : saveL xs 0 = (headS xs.length).data.toList := by unfold saveL; simp
theorem saveL_step {xs : List DBlock} {k : Nat} (h : k < xs.length) : saveL xs (k + 1) = saveL xs k ++ (lineB xs[k]).data.toList := by
  unfold saveL; rw [List.take_succ_eq_append_getElem h, List.flatMap_append]; simp
def saveF (xs : List DBlock) : ByteArray := if blocksB xs then ⟨(saveL xs xs.length).toArray⟩ else ⟨#[]⟩
def saveC (xs : List DBlock) : Int := if blocksB xs then 0 else 1
theorem allIdx_at {p : Nat → Bool} : ∀ {n : Nat}, allIdx p n = true → ∀ k, k < n → p k = true := fun h k hk => allIdx_true.1 h k hk
theorem blocksB_at {xs : List DBlock} (h : blocksB xs = true) {k : Nat} (hk : k < xs.length) : blockB xs[k] = true := by
  unfold blocksB at h; simp only [Bool.and_eq_true, decide_eq_true_eq] at h
  have h1 := allIdx_at h.1 k hk
  unfold bOk at h1
  simp only [Bool.and_eq_true] at h1
  have h2 := h1.1
  rw [List.getD_eq_getElem?_getD, List.getElem?_eq_getElem hk] at h2
  exact h2
theorem lineB_le {x : DBlock} (h : blockB x = true) : (lineB x).size ≤ 429 := by
  obtain ⟨h0, h1, h2⟩ := blockB_sizes h
  rw [lineB_size, restB_size]; omega
theorem data_len (s : ByteArray) : s.data.toList.length = s.size := by simp
theorem saveL_len {xs : List DBlock} (h : blocksB xs = true) : ∀ k, k ≤ xs.length → (saveL xs k).length ≤ 14 + 429 * k
  | 0, _ => by rw [saveL_zero, data_len]; have := headS_size (n := xs.length) (by have := blocksB_len h; omega); omega
  | k + 1, hk => by
    have h1 := saveL_len h k (by omega)
    have h2 := lineB_le (blocksB_at h (k := k) (by omega))
    rw [saveL_step (by omega), List.length_append, data_len]; omega
theorem saveL_lineS {xs : List DBlock} {k : Nat} (h : k < xs.length) {t : ByteArray} (ht : t = ⟨(saveL xs k).toArray⟩) : t ++ lineB xs[k] = ⟨(saveL xs (k + 1)).toArray⟩ := by
  rw [ht, saveL_step h]
  conv => lhs; rhs; rw [bytes_selfA (lineB xs[k])]
  exact bytes_appendA _ _

theorem isBuilder_below {B b : Nat} {bs : List Value} {w w' : World} (h : Lib.IsBuilder 113 5 B b bs w) (hb : Below w.heap.size w w') : Lib.IsBuilder 113 5 B b bs w' := by
  have key : ∀ p, Lib.BuilderAt 113 5 B b p bs w → Lib.BuilderAt 113 5 B b p bs w' := by
    rintro p ⟨hB, v, hbk, hown, hne⟩
    have hlt : b < w.heap.size := by
      rcases Nat.lt_or_ge b w.heap.size with h' | h'
      · exact h'
      · simp [Array.getElem?_eq_none h'] at hbk
    refine ⟨hB, v, by rw [hb.block _ hlt]; exact hbk, ?_, hne⟩
    obtain ⟨h1, h2⟩ := hown
    refine ⟨h1, ?_⟩
    rcases h2 with h2 | ⟨g, cap, cur, hv, hg, hh, r⟩
    · exact .inl h2
    · have hgl : g < w.heap.size := by
        rcases Nat.lt_or_ge g w.heap.size with hlt | hge
        · exact hlt
        · rw [Array.getElem?_eq_none hge] at hh; cases hh
      exact .inr ⟨g, cap, cur, hv, hg, by rw [hb.block _ hgl]; exact hh, r⟩
  rcases h with h | h
  · exact .inl (key _ h)
  · exact .inr (key _ h)
theorem lineB_eq (x : DBlock) : fiveS (crcF (restB x)) ++ ⟨#[32]⟩ ++ restB x ++ ⟨#[10]⟩ = lineB x := rfl

end Go.Proofs.YtaaholabodchaaaGreatDoor
