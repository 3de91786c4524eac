
/- Days of the service: the data; cells, boxes. Written by wip/gen/dsv.py. -/
import Derived.Test.YtpebibegdeioeaaTInt64
import Derived.Test.YtpebibegdeioeaaTLayer
import Derived.Test.YtpebibegdeioeaaTAsset
import Derived.Test.YtpebibegdeioeaaTGate
import Derived.Test.YtpebibegdeioeaaTString
import Derived.Test.YtpebibegdeioeaaColl
import Derived.Deep.MidRow
namespace Go.Proofs.Ytpebibegdeioeaa
open Go.RowKit
set_option linter.unusedVariables false

/-- The slices of a day. -/
structure SVals where
  he : Value
  ma : Value
  se : Value
  pr : Value
  as_ : Value
  ga : Value
  tx : Value

structure DServ where
  rows : Int
  columns : Int
  size : Int
  friction : Int
  rise : Int
  run : Int
  doubt : Int
  limit : Int
  before : Int
  level : Int
  above : Int
  fresh : Int
  weak : Int
  tonnes : Int
  he : List Int
  ma : List Int
  se : List Int
  pr : List DLayer
  as_ : List DAsset
  ga : List DGate
  tx : List ByteArray
def servA (v : SVals) (x : DServ) : Value := .agg #[.int .i64 x.rows, .int .i64 x.columns, .int .i64 x.size, v.he, v.ma, .int .i64 x.friction, v.se, v.pr, .int .i64 x.rise, .int .i64 x.run, .int .i64 x.doubt, .int .i64 x.limit, v.as_, v.ga, .int .i64 x.before, .int .i64 x.level, .int .i64 x.above, .int .i64 x.fresh, .int .i64 x.weak, .int .i64 x.tonnes, v.tx]
/-- The day's slices read as its lists. -/
structure ServRd (w : World) (v : SVals) (x : DServ) (F : Nat → List Nat) : Prop where
  he : Sl fInt.cod w v.he x.he (F 0)
  ma : Sl fInt.cod w v.ma x.ma (F 1)
  se : Sl fInt.cod w v.se x.se (F 2)
  pr : Sl fLayer.cod w v.pr x.pr (F 3)
  as_ : Sl cAsset w v.as_ x.as_ (F 4)
  ga : Sl fGate.cod w v.ga x.ga (F 5)
  tx : Sl fStr.cod w v.tx x.tx (F 6)
theorem ServRd.below' {w w' : World} {v : SVals} {x : DServ} {F : Nat → List Nat} (h : ServRd w v x F) (hb : Below w.heap.size w w') : ServRd w' v x F :=
  ⟨h.he.below' hb, h.ma.below' hb, h.se.below' hb, h.pr.below' hb, h.as_.below' hb, h.ga.below' hb, h.tx.below' hb⟩
/-- The slices are written as they are. -/
structure ServSh (v : SVals) (x : DServ) : Prop where
  he : ∃ A c, v.he = .slice A x.he.length c ∧ x.he.length ≤ c ∧ c ≤ 9223372036854775807
  ma : ∃ A c, v.ma = .slice A x.ma.length c ∧ x.ma.length ≤ c ∧ c ≤ 9223372036854775807
  se : ∃ A c, v.se = .slice A x.se.length c ∧ x.se.length ≤ c ∧ c ≤ 9223372036854775807
  pr : ∃ A c, v.pr = .slice A x.pr.length c ∧ x.pr.length ≤ c ∧ c ≤ 9223372036854775807
  as_ : ∃ A c, v.as_ = .slice A x.as_.length c ∧ x.as_.length ≤ c ∧ c ≤ 9223372036854775807
  ga : ∃ A c, v.ga = .slice A x.ga.length c ∧ x.ga.length ≤ c ∧ c ≤ 9223372036854775807
  tx : ∃ A c, v.tx = .slice A x.tx.length c ∧ x.tx.length ≤ c ∧ c ≤ 9223372036854775807
theorem ServRd.shape {w : World} {v : SVals} {x : DServ} {F : Nat → List Nat} (h : ServRd w v x F) : ServSh v x :=
  ⟨(let ⟨A, c, e, h1, h2⟩ := h.he.form; ⟨A, c, e, h1, h2⟩), (let ⟨A, c, e, h1, h2⟩ := h.ma.form; ⟨A, c, e, h1, h2⟩), (let ⟨A, c, e, h1, h2⟩ := h.se.form; ⟨A, c, e, h1, h2⟩), (let ⟨A, c, e, h1, h2⟩ := h.pr.form; ⟨A, c, e, h1, h2⟩), (let ⟨A, c, e, h1, h2⟩ := h.as_.form; ⟨A, c, e, h1, h2⟩), (let ⟨A, c, e, h1, h2⟩ := h.ga.form; ⟨A, c, e, h1, h2⟩), (let ⟨A, c, e, h1, h2⟩ := h.tx.form; ⟨A, c, e, h1, h2⟩)⟩
/-- A day in a box. -/
structure SBox (w : World) (g : Nat) (v : SVals) (x : DServ) : Prop where
  c0 : w.cell? ⟨g, 0, none⟩ = some (.int .i64 x.rows)
  c1 : w.cell? ⟨g, 1, none⟩ = some (.int .i64 x.columns)
  c2 : w.cell? ⟨g, 2, none⟩ = some (.int .i64 x.size)
  c3 : w.cell? ⟨g, 3, none⟩ = some (v.he)
  c4 : w.cell? ⟨g, 4, none⟩ = some (v.ma)
  c5 : w.cell? ⟨g, 5, none⟩ = some (.int .i64 x.friction)
  c6 : w.cell? ⟨g, 6, none⟩ = some (v.se)
  c7 : w.cell? ⟨g, 7, none⟩ = some (v.pr)
  c8 : w.cell? ⟨g, 8, none⟩ = some (.int .i64 x.rise)
  c9 : w.cell? ⟨g, 9, none⟩ = some (.int .i64 x.run)
  c10 : w.cell? ⟨g, 10, none⟩ = some (.int .i64 x.doubt)
  c11 : w.cell? ⟨g, 11, none⟩ = some (.int .i64 x.limit)
  c12 : w.cell? ⟨g, 12, none⟩ = some (v.as_)
  c13 : w.cell? ⟨g, 13, none⟩ = some (v.ga)
  c14 : w.cell? ⟨g, 14, none⟩ = some (.int .i64 x.before)
  c15 : w.cell? ⟨g, 15, none⟩ = some (.int .i64 x.level)
  c16 : w.cell? ⟨g, 16, none⟩ = some (.int .i64 x.above)
  c17 : w.cell? ⟨g, 17, none⟩ = some (.int .i64 x.fresh)
  c18 : w.cell? ⟨g, 18, none⟩ = some (.int .i64 x.weak)
  c19 : w.cell? ⟨g, 19, none⟩ = some (.int .i64 x.tonnes)
  c20 : w.cell? ⟨g, 20, none⟩ = some (v.tx)
theorem SBox.below {w w' : World} {g B : Nat} {v : SVals} {x : DServ} (h : SBox w g v x) (hb : Below B w w') (hg : g < B) : SBox w' g v x :=
  ⟨(hb.cell (p := ⟨g, _, none⟩) hg).trans h.c0, (hb.cell (p := ⟨g, _, none⟩) hg).trans h.c1, (hb.cell (p := ⟨g, _, none⟩) hg).trans h.c2, (hb.cell (p := ⟨g, _, none⟩) hg).trans h.c3, (hb.cell (p := ⟨g, _, none⟩) hg).trans h.c4, (hb.cell (p := ⟨g, _, none⟩) hg).trans h.c5, (hb.cell (p := ⟨g, _, none⟩) hg).trans h.c6, (hb.cell (p := ⟨g, _, none⟩) hg).trans h.c7, (hb.cell (p := ⟨g, _, none⟩) hg).trans h.c8, (hb.cell (p := ⟨g, _, none⟩) hg).trans h.c9, (hb.cell (p := ⟨g, _, none⟩) hg).trans h.c10, (hb.cell (p := ⟨g, _, none⟩) hg).trans h.c11, (hb.cell (p := ⟨g, _, none⟩) hg).trans h.c12, (hb.cell (p := ⟨g, _, none⟩) hg).trans h.c13, (hb.cell (p := ⟨g, _, none⟩) hg).trans h.c14, (hb.cell (p := ⟨g, _, none⟩) hg).trans h.c15, (hb.cell (p := ⟨g, _, none⟩) hg).trans h.c16, (hb.cell (p := ⟨g, _, none⟩) hg).trans h.c17, (hb.cell (p := ⟨g, _, none⟩) hg).trans h.c18, (hb.cell (p := ⟨g, _, none⟩) hg).trans h.c19, (hb.cell (p := ⟨g, _, none⟩) hg).trans h.c20⟩
theorem SBox.lt {w : World} {g : Nat} {v : SVals} {x : DServ} (h : SBox w g v x) : g < w.heap.size := block_lt_of_cell h.c0
theorem SBox.below' {w w' : World} {g : Nat} {v : SVals} {x : DServ} (h : SBox w g v x) (hb : Below w.heap.size w w') : SBox w' g v x := h.below hb h.lt
theorem SBox.only {w w' : World} {g : Nat} {v : SVals} {x : DServ} {fp : List Nat} (h : SBox w g v x) (ho : Only fp w w') (hg : g ∉ fp) : SBox w' g v x :=
  ⟨(World.cell?_of_block (a := ⟨g, 0, none⟩) (ho.block g h.lt hg)).trans h.c0, (World.cell?_of_block (a := ⟨g, 1, none⟩) (ho.block g h.lt hg)).trans h.c1, (World.cell?_of_block (a := ⟨g, 2, none⟩) (ho.block g h.lt hg)).trans h.c2, (World.cell?_of_block (a := ⟨g, 3, none⟩) (ho.block g h.lt hg)).trans h.c3, (World.cell?_of_block (a := ⟨g, 4, none⟩) (ho.block g h.lt hg)).trans h.c4, (World.cell?_of_block (a := ⟨g, 5, none⟩) (ho.block g h.lt hg)).trans h.c5, (World.cell?_of_block (a := ⟨g, 6, none⟩) (ho.block g h.lt hg)).trans h.c6, (World.cell?_of_block (a := ⟨g, 7, none⟩) (ho.block g h.lt hg)).trans h.c7, (World.cell?_of_block (a := ⟨g, 8, none⟩) (ho.block g h.lt hg)).trans h.c8, (World.cell?_of_block (a := ⟨g, 9, none⟩) (ho.block g h.lt hg)).trans h.c9, (World.cell?_of_block (a := ⟨g, 10, none⟩) (ho.block g h.lt hg)).trans h.c10, (World.cell?_of_block (a := ⟨g, 11, none⟩) (ho.block g h.lt hg)).trans h.c11, (World.cell?_of_block (a := ⟨g, 12, none⟩) (ho.block g h.lt hg)).trans h.c12, (World.cell?_of_block (a := ⟨g, 13, none⟩) (ho.block g h.lt hg)).trans h.c13, (World.cell?_of_block (a := ⟨g, 14, none⟩) (ho.block g h.lt hg)).trans h.c14, (World.cell?_of_block (a := ⟨g, 15, none⟩) (ho.block g h.lt hg)).trans h.c15, (World.cell?_of_block (a := ⟨g, 16, none⟩) (ho.block g h.lt hg)).trans h.c16, (World.cell?_of_block (a := ⟨g, 17, none⟩) (ho.block g h.lt hg)).trans h.c17, (World.cell?_of_block (a := ⟨g, 18, none⟩) (ho.block g h.lt hg)).trans h.c18, (World.cell?_of_block (a := ⟨g, 19, none⟩) (ho.block g h.lt hg)).trans h.c19, (World.cell?_of_block (a := ⟨g, 20, none⟩) (ho.block g h.lt hg)).trans h.c20⟩
theorem SBox.new (w : World) (v : SVals) (x : DServ) (T : TypeId) : SBox (w.alloc (.cells #[.int .i64 x.rows, .int .i64 x.columns, .int .i64 x.size, v.he, v.ma, .int .i64 x.friction, v.se, v.pr, .int .i64 x.rise, .int .i64 x.run, .int .i64 x.doubt, .int .i64 x.limit, v.as_, v.ga, .int .i64 x.before, .int .i64 x.level, .int .i64 x.above, .int .i64 x.fresh, .int .i64 x.weak, .int .i64 x.tonnes, v.tx] T)) w.heap.size v x := by
  constructor <;> simp
theorem SBox.range {w : World} {g : Nat} {v : SVals} {x : DServ} (h : SBox w g v x) : w.rangeAt g 0 [.int .i64 x.rows, .int .i64 x.columns, .int .i64 x.size, v.he, v.ma, .int .i64 x.friction, v.se, v.pr, .int .i64 x.rise, .int .i64 x.run, .int .i64 x.doubt, .int .i64 x.limit, v.as_, v.ga, .int .i64 x.before, .int .i64 x.level, .int .i64 x.above, .int .i64 x.fresh, .int .i64 x.weak, .int .i64 x.tonnes, v.tx] := by
  intro j u hu
  rw [Nat.zero_add]
  match j, hu with
  | 0, hu => (injection hu with hu; subst hu; exact h.c0)
  | 1, hu => (injection hu with hu; subst hu; exact h.c1)
  | 2, hu => (injection hu with hu; subst hu; exact h.c2)
  | 3, hu => (injection hu with hu; subst hu; exact h.c3)
  | 4, hu => (injection hu with hu; subst hu; exact h.c4)
  | 5, hu => (injection hu with hu; subst hu; exact h.c5)
  | 6, hu => (injection hu with hu; subst hu; exact h.c6)
  | 7, hu => (injection hu with hu; subst hu; exact h.c7)
  | 8, hu => (injection hu with hu; subst hu; exact h.c8)
  | 9, hu => (injection hu with hu; subst hu; exact h.c9)
  | 10, hu => (injection hu with hu; subst hu; exact h.c10)
  | 11, hu => (injection hu with hu; subst hu; exact h.c11)
  | 12, hu => (injection hu with hu; subst hu; exact h.c12)
  | 13, hu => (injection hu with hu; subst hu; exact h.c13)
  | 14, hu => (injection hu with hu; subst hu; exact h.c14)
  | 15, hu => (injection hu with hu; subst hu; exact h.c15)
  | 16, hu => (injection hu with hu; subst hu; exact h.c16)
  | 17, hu => (injection hu with hu; subst hu; exact h.c17)
  | 18, hu => (injection hu with hu; subst hu; exact h.c18)
  | 19, hu => (injection hu with hu; subst hu; exact h.c19)
  | 20, hu => (injection hu with hu; subst hu; exact h.c20)
  | j + 21, hu => simp at hu
theorem SBox.of_range {w : World} {g : Nat} {v : SVals} {x : DServ} (h : w.rangeAt g 0 [.int .i64 x.rows, .int .i64 x.columns, .int .i64 x.size, v.he, v.ma, .int .i64 x.friction, v.se, v.pr, .int .i64 x.rise, .int .i64 x.run, .int .i64 x.doubt, .int .i64 x.limit, v.as_, v.ga, .int .i64 x.before, .int .i64 x.level, .int .i64 x.above, .int .i64 x.fresh, .int .i64 x.weak, .int .i64 x.tonnes, v.tx]) : SBox w g v x := by
  constructor
  · have := h 0 _ rfl; rw [Nat.zero_add] at this; exact this
  · have := h 1 _ rfl; rw [Nat.zero_add] at this; exact this
  · have := h 2 _ rfl; rw [Nat.zero_add] at this; exact this
  · have := h 3 _ rfl; rw [Nat.zero_add] at this; exact this
  · have := h 4 _ rfl; rw [Nat.zero_add] at this; exact this
  · have := h 5 _ rfl; rw [Nat.zero_add] at this; exact this
  · have := h 6 _ rfl; rw [Nat.zero_add] at this; exact this
  · have := h 7 _ rfl; rw [Nat.zero_add] at this; exact this
  · have := h 8 _ rfl; rw [Nat.zero_add] at this; exact this
  · have := h 9 _ rfl; rw [Nat.zero_add] at this; exact this
  · have := h 10 _ rfl; rw [Nat.zero_add] at this; exact this
  · have := h 11 _ rfl; rw [Nat.zero_add] at this; exact this
  · have := h 12 _ rfl; rw [Nat.zero_add] at this; exact this
  · have := h 13 _ rfl; rw [Nat.zero_add] at this; exact this
  · have := h 14 _ rfl; rw [Nat.zero_add] at this; exact this
  · have := h 15 _ rfl; rw [Nat.zero_add] at this; exact this
  · have := h 16 _ rfl; rw [Nat.zero_add] at this; exact this
  · have := h 17 _ rfl; rw [Nat.zero_add] at this; exact this
  · have := h 18 _ rfl; rw [Nat.zero_add] at this; exact this
  · have := h 19 _ rfl; rw [Nat.zero_add] at this; exact this
  · have := h 20 _ rfl; rw [Nat.zero_add] at this; exact this
theorem ServRd.onlyF {w w' : World} {v : SVals} {x : DServ} {F : Nat → List Nat} {fp : List Nat} (h : ServRd w v x F) (ho : Only fp w w') (hd : ∀ i, i < 7 → ∀ b ∈ F i, b ∉ fp) : ServRd w' v x F :=
  ⟨h.he.only ho (hd 0 (by decide)), h.ma.only ho (hd 1 (by decide)), h.se.only ho (hd 2 (by decide)), h.pr.only ho (hd 3 (by decide)), h.as_.only ho (hd 4 (by decide)), h.ga.only ho (hd 5 (by decide)), h.tx.only ho (hd 6 (by decide))⟩
theorem ServRd.ltF {w : World} {v : SVals} {x : DServ} {F : Nat → List Nat} (h : ServRd w v x F) : ∀ i, i < 7 → ∀ b ∈ F i, b < w.heap.size := fun i hi => match i, hi with
  | 0, _ => h.he.lt
  | 1, _ => h.ma.lt
  | 2, _ => h.se.lt
  | 3, _ => h.pr.lt
  | 4, _ => h.as_.lt
  | 5, _ => h.ga.lt
  | 6, _ => h.tx.lt

end Go.Proofs.Ytpebibegdeioeaa
