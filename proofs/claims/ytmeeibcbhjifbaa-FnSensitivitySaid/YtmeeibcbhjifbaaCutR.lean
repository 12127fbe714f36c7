/- A result's box in a region of a law that draws its order: wherever the box is made, the same is known behind the region. -/
import Derived.Test.YtmeeibcbhjifbaaSSApp
import Derived.Test.YtmeeibcbhjifbaaSnd
import Derived.Deep.Cut
import Derived.Deep.CutRange
import Derived.Deep.DeepCutAuto
import Derived.Deep.RegionHeld3
namespace Go.Proofs.Ytmeeibcbhjifbaa
set_option linter.unusedVariables false
open Go.RowKit Go.Proofs.Bell Go.BigFrame

structure BoxS (B : Nat) (w : World) (bx : Nat) : Prop where
  lo : B ≤ bx
  lt : bx < w.heap.size
  c0 : w.cell? ⟨bx, 0, none⟩ = some (.int .i64 0)
  c1 : w.cell? ⟨bx, 1, none⟩ = some (.int .i64 0)
  c2 : w.cell? ⟨bx, 2, none⟩ = some (.int .i64 0)
  c3 : w.cell? ⟨bx, 3, none⟩ = some (.int .i64 0)
  c4 : w.cell? ⟨bx, 4, none⟩ = some (.int .i64 0)
  f : ∀ j, w.frozen? ⟨bx, j, none⟩ = false
theorem BoxS.later {B : Nat} {w w' : World} {bx : Nat} (h : BoxS B w bx) (hb : Below w.heap.size w w') : BoxS B w' bx :=
  ⟨h.lo, Nat.lt_of_lt_of_le h.lt hb.size, below_cell hb h.c0, below_cell hb h.c1, below_cell hb h.c2, below_cell hb h.c3, below_cell hb h.c4, fun j => (hb.frozen (p := ⟨bx, j, none⟩) h.lt).trans (h.f j)⟩
theorem BoxS.made {B : Nat} {X : World} (hB : B ≤ X.heap.size) : BoxS B (X.alloc (.cells #[.int .i64 0, .int .i64 0, .int .i64 0, .int .i64 0, .int .i64 0] 49)) X.heap.size :=
  ⟨hB, by simp, by simp [go_sem], by simp [go_sem], by simp [go_sem], by simp [go_sem], by simp [go_sem], fun j => by simp [go_sem]⟩
theorem BoxS.after {B : Nat} {X w' : World} (hb : Below (X.alloc (.cells #[.int .i64 0, .int .i64 0, .int .i64 0, .int .i64 0, .int .i64 0] 49)).heap.size (X.alloc (.cells #[.int .i64 0, .int .i64 0, .int .i64 0, .int .i64 0, .int .i64 0] 49)) w') (hB : B ≤ X.heap.size) : BoxS B w' X.heap.size := (BoxS.made hB).later hb
theorem BoxS.afterD {B : Nat} {X w' : World} (hb : Below (X.alloc (.cells #[.int .i64 0, .int .i64 0, .int .i64 0, .int .i64 0, .int .i64 0] 49)).drew.heap.size (X.alloc (.cells #[.int .i64 0, .int .i64 0, .int .i64 0, .int .i64 0, .int .i64 0] 49)).drew w') (hB : B ≤ X.heap.size) : BoxS B w' X.heap.size := ((BoxS.made hB).later (Below.refl _ _).drew).later hb
def CutS (t0a t0b t0c t0d t0e : Int) (t1 : Int) (wk : World) (s6 s7 : Value) (wx : World) : Prop := ∃ (bx : Nat), s6 = .pointer (some ⟨bx, 0, none⟩) ∧ s7 = .int .i64 t1 ∧ wk.heap.size ≤ bx ∧ bx < wx.heap.size ∧ wx.cell? ⟨bx, 0, none⟩ = some (.int .i64 t0a) ∧ wx.cell? ⟨bx, 1, none⟩ = some (.int .i64 t0b) ∧ wx.cell? ⟨bx, 2, none⟩ = some (.int .i64 t0c) ∧ wx.cell? ⟨bx, 3, none⟩ = some (.int .i64 t0d) ∧ wx.cell? ⟨bx, 4, none⟩ = some (.int .i64 t0e) ∧ Below wk.heap.size wk wx
theorem CutS.set {t0a t0b t0c t0d t0e : Int} {t1 : Int} {wk w1 : World} {bx : Nat} (h : BoxS wk.heap.size w1 bx) (hb : Below wk.heap.size wk w1) :
    CutS t0a t0b t0c t0d t0e t1 wk (.pointer (some ⟨bx, 0, none⟩)) (.int .i64 t1) (((((w1.setCell ⟨bx, 0, none⟩ (.int .i64 t0a)).setCell ⟨bx, 1, none⟩ (.int .i64 t0b)).setCell ⟨bx, 2, none⟩ (.int .i64 t0c)).setCell ⟨bx, 3, none⟩ (.int .i64 t0d)).setCell ⟨bx, 4, none⟩ (.int .i64 t0e)) :=
  ⟨bx, rfl, rfl, h.lo, (by simpa using h.lt), ((World.cell?_setCell_other _ _ _ _ (by simp)).trans (((World.cell?_setCell_other _ _ _ _ (by simp)).trans (((World.cell?_setCell_other _ _ _ _ (by simp)).trans (((World.cell?_setCell_other _ _ _ _ (by simp)).trans (World.cell?_setCell_same _ _ _ h.c0)))))))), ((World.cell?_setCell_other _ _ _ _ (by simp)).trans (((World.cell?_setCell_other _ _ _ _ (by simp)).trans (((World.cell?_setCell_other _ _ _ _ (by simp)).trans (World.cell?_setCell_same _ _ _ ((World.cell?_setCell_other _ _ _ _ (by simp)).trans h.c1))))))), ((World.cell?_setCell_other _ _ _ _ (by simp)).trans (((World.cell?_setCell_other _ _ _ _ (by simp)).trans (World.cell?_setCell_same _ _ _ ((World.cell?_setCell_other _ _ _ _ (by simp)).trans ((World.cell?_setCell_other _ _ _ _ (by simp)).trans h.c2)))))), ((World.cell?_setCell_other _ _ _ _ (by simp)).trans (World.cell?_setCell_same _ _ _ ((World.cell?_setCell_other _ _ _ _ (by simp)).trans ((World.cell?_setCell_other _ _ _ _ (by simp)).trans ((World.cell?_setCell_other _ _ _ _ (by simp)).trans h.c3))))), World.cell?_setCell_same _ _ _ ((World.cell?_setCell_other _ _ _ _ (by simp)).trans ((World.cell?_setCell_other _ _ _ _ (by simp)).trans ((World.cell?_setCell_other _ _ _ _ (by simp)).trans ((World.cell?_setCell_other _ _ _ _ (by simp)).trans h.c4)))), (((((hb.setCell h.lo _).setCell h.lo _).setCell h.lo _).setCell h.lo _).setCell h.lo _)⟩
theorem CutS.mk {t0a t0b t0c t0d t0e : Int} {t1 : Int} {wk w1 : World} (hb : Below wk.heap.size wk w1) :
    CutS t0a t0b t0c t0d t0e t1 wk (.pointer (some ⟨w1.heap.size, 0, none⟩)) (.int .i64 t1) (w1.alloc (.cells #[.int .i64 t0a, .int .i64 t0b, .int .i64 t0c, .int .i64 t0d, .int .i64 t0e] 49)) :=
  ⟨w1.heap.size, rfl, rfl, hb.size, by simp, by simp [go_sem], by simp [go_sem], by simp [go_sem], by simp [go_sem], by simp [go_sem], hb.alloc hb.size _⟩
theorem BoxS.keep {B : Nat} {w : World} {bx : Nat} (h : BoxS B w bx) {p : Addr} {v : Value} (hp : w.cell? p = some v) (hlt : p.block < B) (x0 : Value) (x1 : Value) (x2 : Value) (x3 : Value) (x4 : Value) : ((((((w.setCell ⟨bx, 0, none⟩ x0).setCell ⟨bx, 1, none⟩ x1).setCell ⟨bx, 2, none⟩ x2).setCell ⟨bx, 3, none⟩ x3).setCell ⟨bx, 4, none⟩ x4)).cell? p = some v := by
  have := h.lo
  have hne : ∀ j, p ≠ ⟨bx, j, none⟩ := fun j e => by rw [e] at hlt; simp at hlt; omega
  rw [World.cell?_setCell_other _ _ _ _ (Ne.symm (hne _)), World.cell?_setCell_other _ _ _ _ (Ne.symm (hne _)), World.cell?_setCell_other _ _ _ _ (Ne.symm (hne _)), World.cell?_setCell_other _ _ _ _ (Ne.symm (hne _)), World.cell?_setCell_other _ _ _ _ (Ne.symm (hne _))]
  exact hp

structure BoxP (B : Nat) (w : World) (bx : Nat) : Prop where
  lo : B ≤ bx
  lt : bx < w.heap.size
  c0 : w.cell? ⟨bx, 0, none⟩ = some (.string ⟨#[]⟩)
  c1 : w.cell? ⟨bx, 1, none⟩ = some (.slice none 0 0)
  f : ∀ j, w.frozen? ⟨bx, j, none⟩ = false
theorem BoxP.later {B : Nat} {w w' : World} {bx : Nat} (h : BoxP B w bx) (hb : Below w.heap.size w w') : BoxP B w' bx :=
  ⟨h.lo, Nat.lt_of_lt_of_le h.lt hb.size, below_cell hb h.c0, below_cell hb h.c1, fun j => (hb.frozen (p := ⟨bx, j, none⟩) h.lt).trans (h.f j)⟩
theorem BoxP.made {B : Nat} {X : World} (hB : B ≤ X.heap.size) : BoxP B (X.alloc (.cells #[.string ⟨#[]⟩, .slice none 0 0] 31)) X.heap.size :=
  ⟨hB, by simp, by simp [go_sem], by simp [go_sem], fun j => by simp [go_sem]⟩
theorem BoxP.after {B : Nat} {X w' : World} (hb : Below (X.alloc (.cells #[.string ⟨#[]⟩, .slice none 0 0] 31)).heap.size (X.alloc (.cells #[.string ⟨#[]⟩, .slice none 0 0] 31)) w') (hB : B ≤ X.heap.size) : BoxP B w' X.heap.size := (BoxP.made hB).later hb
theorem BoxP.afterD {B : Nat} {X w' : World} (hb : Below (X.alloc (.cells #[.string ⟨#[]⟩, .slice none 0 0] 31)).drew.heap.size (X.alloc (.cells #[.string ⟨#[]⟩, .slice none 0 0] 31)).drew w') (hB : B ≤ X.heap.size) : BoxP B w' X.heap.size := ((BoxP.made hB).later (Below.refl _ _).drew).later hb
def CutP (qn0 : ByteArray) (q0 : List (Int × Int × Int)) (t1 : Int) (wk : World) (s6 s7 : Value) (wx : World) : Prop := ∃ (bx : Nat) (ao : Option Addr) (cp : Nat), s6 = .pointer (some ⟨bx, 0, none⟩) ∧ s7 = .int .i64 t1 ∧ wk.heap.size ≤ bx ∧ bx < wx.heap.size ∧ wx.cell? ⟨bx, 0, none⟩ = some (.string qn0) ∧ wx.cell? ⟨bx, 1, none⟩ = some (.slice ao q0.length cp) ∧ OwnR wk.heap.size wx (.slice ao q0.length cp) q0 ∧ Below wk.heap.size wk wx
theorem CutP.set {qn0 : ByteArray} {q0 : List (Int × Int × Int)} {ao : Option Addr} {cp : Nat} {t1 : Int} {wk w1 : World} {bx : Nat} (h : BoxP wk.heap.size w1 bx) (hb : Below wk.heap.size wk w1) {L : Nat} (ho : OwnR L w1 (.slice ao q0.length cp) q0) (hL : bx < L) (hB : wk.heap.size ≤ L) :
    CutP qn0 q0 t1 wk (.pointer (some ⟨bx, 0, none⟩)) (.int .i64 t1) ((w1.setCell ⟨bx, 0, none⟩ (.string qn0)).setCell ⟨bx, 1, none⟩ (.slice ao q0.length cp)) :=
  ⟨bx, ao, cp, rfl, rfl, h.lo, (by simpa using h.lt), ((World.cell?_setCell_other _ _ _ _ (by simp)).trans (World.cell?_setCell_same _ _ _ h.c0)), World.cell?_setCell_same _ _ _ ((World.cell?_setCell_other _ _ _ _ (by simp)).trans h.c1), own_base (own_set (own_set ho (fun k hk => by have := own_lo ho k hk; show bx ≠ k; omega) _) (fun k hk => by have := own_lo ho k hk; show bx ≠ k; omega) _) hB, ((hb.setCell h.lo _).setCell h.lo _)⟩
theorem CutP.mk {qn0 : ByteArray} {q0 : List (Int × Int × Int)} {ao : Option Addr} {cp : Nat} {t1 : Int} {wk w1 : World} (hb : Below wk.heap.size wk w1) {L : Nat} (ho : OwnR L w1 (.slice ao q0.length cp) q0) (hB : wk.heap.size ≤ L) :
    CutP qn0 q0 t1 wk (.pointer (some ⟨w1.heap.size, 0, none⟩)) (.int .i64 t1) (w1.alloc (.cells #[.string qn0, .slice ao q0.length cp] 31)) :=
  ⟨w1.heap.size, ao, cp, rfl, rfl, hb.size, by simp, by simp [go_sem], by simp [go_sem], own_base (own_later ho ((Below.refl _ _).alloc (Nat.le_refl _) _)) hB, hb.alloc hb.size _⟩
theorem BoxP.keep {B : Nat} {w : World} {bx : Nat} (h : BoxP B w bx) {p : Addr} {v : Value} (hp : w.cell? p = some v) (hlt : p.block < B) (x0 : Value) (x1 : Value) : (((w.setCell ⟨bx, 0, none⟩ x0).setCell ⟨bx, 1, none⟩ x1)).cell? p = some v := by
  have := h.lo
  have hne : ∀ j, p ≠ ⟨bx, j, none⟩ := fun j e => by rw [e] at hlt; simp at hlt; omega
  rw [World.cell?_setCell_other _ _ _ _ (Ne.symm (hne _)), World.cell?_setCell_other _ _ _ _ (Ne.symm (hne _))]
  exact hp

structure BoxM (B : Nat) (w : World) (bx : Nat) : Prop where
  lo : B ≤ bx
  lt : bx < w.heap.size
  c0 : w.cell? ⟨bx, 0, none⟩ = some (.slice none 0 0)
  c1 : w.cell? ⟨bx, 1, none⟩ = some (.slice none 0 0)
  c2 : w.cell? ⟨bx, 2, none⟩ = some (.slice none 0 0)
  f : ∀ j, w.frozen? ⟨bx, j, none⟩ = false
theorem BoxM.later {B : Nat} {w w' : World} {bx : Nat} (h : BoxM B w bx) (hb : Below w.heap.size w w') : BoxM B w' bx :=
  ⟨h.lo, Nat.lt_of_lt_of_le h.lt hb.size, below_cell hb h.c0, below_cell hb h.c1, below_cell hb h.c2, fun j => (hb.frozen (p := ⟨bx, j, none⟩) h.lt).trans (h.f j)⟩
theorem BoxM.made {B : Nat} {X : World} (hB : B ≤ X.heap.size) : BoxM B (X.alloc (.cells #[.slice none 0 0, .slice none 0 0, .slice none 0 0] 45)) X.heap.size :=
  ⟨hB, by simp, by simp [go_sem], by simp [go_sem], by simp [go_sem], fun j => by simp [go_sem]⟩
theorem BoxM.after {B : Nat} {X w' : World} (hb : Below (X.alloc (.cells #[.slice none 0 0, .slice none 0 0, .slice none 0 0] 45)).heap.size (X.alloc (.cells #[.slice none 0 0, .slice none 0 0, .slice none 0 0] 45)) w') (hB : B ≤ X.heap.size) : BoxM B w' X.heap.size := (BoxM.made hB).later hb
theorem BoxM.afterD {B : Nat} {X w' : World} (hb : Below (X.alloc (.cells #[.slice none 0 0, .slice none 0 0, .slice none 0 0] 45)).drew.heap.size (X.alloc (.cells #[.slice none 0 0, .slice none 0 0, .slice none 0 0] 45)).drew w') (hB : B ≤ X.heap.size) : BoxM B w' X.heap.size := ((BoxM.made hB).later (Below.refl _ _).drew).later hb
def CutM (qz0 : List Int) (qw0 : List (List Int)) (qb0 : List Int) (t1 : Int) (wk : World) (s6 s7 : Value) (wx : World) : Prop := ∃ (bx : Nat) (az aw ab : Option Addr) (cz cw cb : Nat) (us : List Value), s6 = .pointer (some ⟨bx, 0, none⟩) ∧ s7 = .int .i64 t1 ∧ wk.heap.size ≤ bx ∧ bx < wx.heap.size ∧ wx.cell? ⟨bx, 0, none⟩ = some (.slice az qz0.length cz) ∧ wx.cell? ⟨bx, 1, none⟩ = some (.slice aw qw0.length cw) ∧ wx.cell? ⟨bx, 2, none⟩ = some (.slice ab qb0.length cb) ∧ OwnM wk.heap.size wx.heap.size wx (.slice az qz0.length cz) (.slice aw qw0.length cw) (.slice ab qb0.length cb) us qz0 qw0 qb0 ∧ Below wk.heap.size wk wx
theorem CutM.set {qz0 : List Int} {qw0 : List (List Int)} {qb0 : List Int} {az aw ab : Option Addr} {cz cw cb : Nat} {us : List Value} {t1 : Int} {wk w1 : World} {bx : Nat} (h : BoxM wk.heap.size w1 bx) (hb : Below wk.heap.size wk w1) {L : Nat} (ho : OwnM L w1.heap.size w1 (.slice az qz0.length cz) (.slice aw qw0.length cw) (.slice ab qb0.length cb) us qz0 qw0 qb0) (hL : bx < L) (hB : wk.heap.size ≤ L) :
    CutM qz0 qw0 qb0 t1 wk (.pointer (some ⟨bx, 0, none⟩)) (.int .i64 t1) (((w1.setCell ⟨bx, 0, none⟩ (.slice az qz0.length cz)).setCell ⟨bx, 1, none⟩ (.slice aw qw0.length cw)).setCell ⟨bx, 2, none⟩ (.slice ab qb0.length cb)) :=
  ⟨bx, az, aw, ab, cz, cw, cb, us, rfl, rfl, h.lo, (by simpa using h.lt), ((World.cell?_setCell_other _ _ _ _ (by simp)).trans (((World.cell?_setCell_other _ _ _ _ (by simp)).trans (World.cell?_setCell_same _ _ _ h.c0)))), ((World.cell?_setCell_other _ _ _ _ (by simp)).trans (World.cell?_setCell_same _ _ _ ((World.cell?_setCell_other _ _ _ _ (by simp)).trans h.c1))), World.cell?_setCell_same _ _ _ ((World.cell?_setCell_other _ _ _ _ (by simp)).trans ((World.cell?_setCell_other _ _ _ _ (by simp)).trans h.c2)), (by have := (((ho.set (a := ⟨bx, 0, none⟩) hL (.slice az qz0.length cz)).set (a := ⟨bx, 1, none⟩) hL (.slice aw qw0.length cw)).set (a := ⟨bx, 2, none⟩) hL (.slice ab qb0.length cb)).wide hB (Nat.le_refl _); simpa using this), (((hb.setCell h.lo _).setCell h.lo _).setCell h.lo _)⟩
theorem CutM.mk {qz0 : List Int} {qw0 : List (List Int)} {qb0 : List Int} {az aw ab : Option Addr} {cz cw cb : Nat} {us : List Value} {t1 : Int} {wk w1 : World} (hb : Below wk.heap.size wk w1) {L : Nat} (ho : OwnM L w1.heap.size w1 (.slice az qz0.length cz) (.slice aw qw0.length cw) (.slice ab qb0.length cb) us qz0 qw0 qb0) (hB : wk.heap.size ≤ L) :
    CutM qz0 qw0 qb0 t1 wk (.pointer (some ⟨w1.heap.size, 0, none⟩)) (.int .i64 t1) (w1.alloc (.cells #[.slice az qz0.length cz, .slice aw qw0.length cw, .slice ab qb0.length cb] 45)) :=
  ⟨w1.heap.size, az, aw, ab, cz, cw, cb, us, rfl, rfl, hb.size, by simp, by simp [go_sem], by simp [go_sem], by simp [go_sem], (ho.later ((Below.refl _ _).alloc (Nat.le_refl _) _)).wide hB (by simp), hb.alloc hb.size _⟩
theorem BoxM.keep {B : Nat} {w : World} {bx : Nat} (h : BoxM B w bx) {p : Addr} {v : Value} (hp : w.cell? p = some v) (hlt : p.block < B) (x0 : Value) (x1 : Value) (x2 : Value) : ((((w.setCell ⟨bx, 0, none⟩ x0).setCell ⟨bx, 1, none⟩ x1).setCell ⟨bx, 2, none⟩ x2)).cell? p = some v := by
  have := h.lo
  have hne : ∀ j, p ≠ ⟨bx, j, none⟩ := fun j e => by rw [e] at hlt; simp at hlt; omega
  rw [World.cell?_setCell_other _ _ _ _ (Ne.symm (hne _)), World.cell?_setCell_other _ _ _ _ (Ne.symm (hne _)), World.cell?_setCell_other _ _ _ _ (Ne.symm (hne _))]
  exact hp

theorem below_alloc (w : World) (o : Obj) : Below w.heap.size w (w.alloc o) := (Below.refl _ _).alloc (Nat.le_refl _) o
theorem below_of_alloc {w w1 : World} {o : Obj} (h : Below (w.alloc o).heap.size (w.alloc o) w1) : Below w.heap.size w w1 := (below_alloc w o).trans (h.mono (below_alloc w o).size)
theorem below_alloced {B : Nat} {w wd : World} (h : Below B w wd) (hB : B ≤ wd.heap.size) (o : Obj) : Below B w (wd.alloc o) := h.alloc hB o
theorem lt_alloc (w : World) (o : Obj) : w.heap.size < (w.alloc o).heap.size := by simp

end Go.Proofs.Ytmeeibcbhjifbaa
