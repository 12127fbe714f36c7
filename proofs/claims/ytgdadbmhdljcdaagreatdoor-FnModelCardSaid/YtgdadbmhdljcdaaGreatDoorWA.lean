/- Several texts of the proofs in one: ModW, DrM, DrB, DrSe, DrU, DrV. -/
import Derived.Test.YtgdadbmhdljcdaaGreatDoorGE
import Derived.Test.YtgdadbmhdljcdaaGreatDoorGJ
import Derived.Test.YtgdadbmhdljcdaaGreatDoorVF
import Derived.Test.YtgdadbmhdljcdaaGreatDoorWB
import Derived.Test.YtgdadbmhdljcdaaGreatDoorWC
import Derived.Test.YtgdadbmhdljcdaaGreatDoorWF
import Derived.Deep.Cut
import Derived.Deep.CutBlock
import Derived.Deep.CutRange
/- A model that is written in place; the standard model is valid: plain. -/
namespace Go.Proofs.YtgdadbmhdljcdaaGreatDoor
set_option linter.unusedVariables false
open Go.RowKit Go.Proofs.Bell Go.BigFrame

/-- the shape of a model that was drawn -/
structure MSh (zs : List Int) (ws : List (List Int)) (bs : List Int) : Prop where
  z1 : 1 ≤ zs.length
  z8 : zs.length ≤ 8
  w5 : ws.length = 5
  b5 : bs.length = 5
  rows : ∀ k, k < 5 → (ws.getD k []).length = zs.length
/-- its weights are from 1 to 1000 -/
def WOk (n : Nat) (ws : List (List Int)) : Prop := ∀ k, k < 5 → ∀ z, z < n → 1 ≤ (ws.getD k []).getD z 0 ∧ (ws.getD k []).getD z 0 ≤ 1000

theorem setW_at {ws : List (List Int)} {k j : Nat} {row : List Int} (hk : k < ws.length) : (ws.set k row).getD j [] = if j = k then row else ws.getD j [] := by
  by_cases h : j = k
  · subst h; simp [List.getD, hk]
  · rw [if_neg h]; simp [List.getD, List.getElem?_set_ne (Ne.symm h)]
theorem setN_at {L : List Int} {k j : Nat} {y : Int} (hk : k < L.length) : (L.set k y).getD j 0 = if j = k then y else L.getD j 0 := by
  by_cases h : j = k
  · subst h; simp [List.getD, hk]
  · rw [if_neg h]; simp [List.getD, List.getElem?_set_ne (Ne.symm h)]
def wput (ws : List (List Int)) (k z : Nat) (y : Int) : List (List Int) := ws.set k ((ws.getD k []).set z y)
theorem MSh.putW {zs : List Int} {ws : List (List Int)} {bs : List Int} (h : MSh zs ws bs) {k : Nat} (hk : k < 5) (z : Nat) (y : Int) : MSh zs (wput ws k z y) bs :=
  ⟨h.z1, h.z8, by rw [wput, List.length_set, h.w5], h.b5, fun j hj => by
    rw [wput, setW_at (by rw [h.w5]; exact hk)]
    split
    · rw [List.length_set]; exact h.rows k hk
    · exact h.rows j hj⟩
theorem WOk.putW {n : Nat} {zs : List Int} {ws : List (List Int)} {bs : List Int} (h : WOk n ws) (hm : MSh zs ws bs) (hn : zs.length = n) {k z : Nat} {y : Int} (hk : k < 5) (hz : z < n) (h1 : 1 ≤ y) (h2 : y ≤ 1000) : WOk n (wput ws k z y) := fun j hj q hq => by
  rw [wput, setW_at (by rw [hm.w5]; exact hk)]
  split
  · rw [setN_at (by rw [hm.rows k hk]; omega)]
    split
    · exact ⟨h1, h2⟩
    · exact h k hk q hq
  · exact h j hj q hq

theorem sum_pos : ∀ {row : List Int}, (∀ z ∈ row, 1 ≤ z) → 1 ≤ row.length → 1 ≤ row.sum
  | [], _, h => by simp at h
  | [a], h, _ => by simpa using h a (by simp)
  | a :: b :: r, h, _ => by
    have h1 := sum_pos (row := b :: r) (fun z hz => h z (List.mem_cons_of_mem _ hz)) (by simp)
    have h2 := h a (by simp)
    rw [List.sum_cons]
    omega
theorem row_ok {n : Nat} {row : List Int} {b : Int} (hl : row.length = n) (hn : 1 ≤ n) (h : ∀ z, z < n → 1 ≤ row.getD z 0 ∧ row.getD z 0 ≤ 1000) (hb : 1 ≤ b ∧ b ≤ 1000000000) : okRow n row b = true := by
  have hall : ∀ z ∈ row, 1 ≤ z ∧ z ≤ 1000 := fun z hz => by
    obtain ⟨j, hj, rfl⟩ := List.getElem_of_mem hz
    have := h j (by omega)
    rwa [getD_eq hj] at this
  have hs := sum_pos (fun z hz => (hall z hz).1) (by omega)
  unfold okRow
  simp only [inB_mk hb, hl, decide_true, Bool.true_and, Bool.and_eq_true, List.all_eq_true]
  exact ⟨fun z hz => inB_mk ⟨by have := hall z hz; omega, (hall z hz).2⟩, by simp; omega⟩
theorem model_ok {zs : List Int} {ws : List (List Int)} {bs : List Int} (h : MSh zs ws bs) (hz : zonesB zs 31 = true) (hw : WOk zs.length ws) (hb : ∀ k, k < 5 → 1 ≤ bs.getD k 0 ∧ bs.getD k 0 ≤ 1000000000) : modelB zs ws bs = true := by
  unfold modelB
  simp only [hz, h.w5, h.b5, decide_true, Bool.true_and, List.all_eq_true]
  intro k hk
  have hk := List.mem_range.1 hk
  exact row_ok (h.rows k hk) h.z1 (hw k hk) (hb k hk)

theorem wgt_bd {n k z : Nat} (h1 : 1 ≤ n) (hk : k < 5) (hz : z < n) : 1 ≤ wgt (n : Int) (k : Int) (z : Int) ∧ wgt (n : Int) (k : Int) (z : Int) ≤ 1000 := by
  unfold wgt
  split
  · rename_i hn
    have hm : (k : Int) * ((n : Int) - 1) ≤ 4 * ((n : Int) - 1) := Int.mul_le_mul_of_nonneg_right (by omega) (by omega)
    have hm0 : 0 ≤ (k : Int) * ((n : Int) - 1) := Int.mul_nonneg (by omega) (by omega)
    have ha : 0 ≤ absI (4 * (z : Int) - (k : Int) * ((n : Int) - 1)) ∧ absI (4 * (z : Int) - (k : Int) * ((n : Int) - 1)) ≤ 4 * ((n : Int) - 1) := by
      unfold absI; split <;> omega
    have hr := rnd_mb (a := 900 * absI (4 * (z : Int) - (k : Int) * ((n : Int) - 1))) (b := 4 * ((n : Int) - 1)) (m := 900) (by omega) (by omega) (by omega) (by omega)
    omega
  · omega
theorem wgtK_at (n k : Int) : ∀ m z, z < m → (wgtK n k m).getD z 0 = wgt n k (z : Int)
  | 0, _, h => absurd h (Nat.not_lt_zero _)
  | m + 1, z, h => by
    have hl := wgtK_len n k m
    rw [wgtK]
    rcases Nat.lt_or_ge z m with h1 | h1
    · rw [← wgtK_at n k m z h1]
      simp [List.getD, List.getElem?_append_left (show z < (wgtK n k m).length by omega)]
    · obtain rfl : z = m := by omega
      simp [List.getD, List.getElem?_append_right (show (wgtK n k z).length ≤ z by omega), hl]
theorem stdK_at (n : Nat) : ∀ m k, k < m → (stdK n m).getD k [] = wgtK (n : Int) (k : Int) n
  | 0, _, h => absurd h (Nat.not_lt_zero _)
  | m + 1, k, h => by
    have hl := stdK_len n m
    rw [stdK]
    rcases Nat.lt_or_ge k m with h1 | h1
    · rw [← stdK_at n m k h1]
      simp [List.getD, List.getElem?_append_left (show k < (stdK n m).length by omega)]
    · obtain rfl : k = m := by omega
      simp [List.getD, List.getElem?_append_right (show (stdK n k).length ≤ k by omega), hl]
theorem std_sh {zs : List Int} (h1 : 1 ≤ zs.length) (h8 : zs.length ≤ 8) : MSh zs (stdK zs.length 5) base5 :=
  ⟨h1, h8, stdK_len _ _, rfl, fun k hk => by rw [stdK_at _ 5 k hk, wgtK_len]⟩
theorem std_w {zs : List Int} (h1 : 1 ≤ zs.length) : WOk zs.length (stdK zs.length 5) := fun k hk z hz => by
  rw [stdK_at _ 5 k hk, wgtK_at _ _ _ z hz]
  exact wgt_bd h1 hk hz
theorem base5_ok (k : Nat) (hk : k < 5) : 1 ≤ base5.getD k 0 ∧ base5.getD k 0 ≤ 1000000000 := by
  match k, hk with
  | 0, _ => simp [base5]
  | 1, _ => simp [base5]
  | 2, _ => simp [base5]
  | 3, _ => simp [base5]
  | 4, _ => simp [base5]
theorem zones_mono {zs : List Int} {a b : Int} (h : zonesB zs a = true) (hab : a ≤ b) : zonesB zs b = true := by
  unfold zonesB at h ⊢
  simp only [Bool.and_eq_true] at h ⊢
  refine ⟨h.1, ?_⟩
  have h2 := h.2
  unfold risesB at h2 ⊢
  rw [List.all_eq_true] at h2 ⊢
  intro k hk
  have h3 := h2 k hk
  unfold riseAt at h3 ⊢
  simp only [Bool.and_eq_true] at h3 ⊢
  have h4 := inB_t h3.1
  exact ⟨inB_mk (by omega), h3.2⟩

/-- one weight is written in place -/
theorem OwnM.putW {lo hi : Nat} {w : World} {zv wv bv : Value} {us : List Value} {zs : List Int} {ws : List (List Int)} {bs : List Int} (h : OwnM lo hi w zv wv bv us zs ws bs) {k z gu cu : Nat} (hk : k < ws.length) (hu : us.getD k nv = .slice (some ⟨gu, 0, none⟩) (ws.getD k []).length cu) (y : Int) :
    OwnM lo hi (w.setCell ⟨gu, z, none⟩ (.int .i64 y)) zv wv bv us zs (wput ws k z y) bs := by
  have hob : (us.getD k nv).ownBlock = some gu := by rw [hu]; rfl
  have hwl : (wput ws k z y).length = ws.length := by rw [wput, List.length_set]
  refine ⟨own_set h.z (fun b hb e => h.zu k hk gu hob (by rw [hb, ← e])) _, h.zh, ⟨by rw [hwl]; exact h.s.len, ?_, h.s.rowh, fun j hj => ?_, fun j hj => h.s.top j (by omega), fun i j hij hj => h.s.dis i j hij (by omega), fun j hj => h.s.cd j (by omega)⟩, own_set h.b (fun b hb e => h.bu k hk gu hob (by rw [hb, ← e])) _, h.bh, h.zb, h.zc, fun j hj => h.zu j (by omega), fun j hj => h.bu j (by omega), h.bc⟩
  · rw [hwl]
    exact own_set h.s.row (fun b hb e => h.s.cd k hk gu hob (by rw [hb, ← e])) _
  · rw [hwl] at hj
    rw [wput, setW_at hk]
    split
    · rename_i e
      subst e
      have ho := h.s.own j hk
      rw [hu] at ho ⊢
      unfold OwnI at ho ⊢
      rw [List.length_set, show ints ((ws.getD j []).set z y) = (ints (ws.getD j [])).set z (.int .i64 y) by unfold ints; rw [List.map_set]]
      exact (World.ownsRow.stored ho z _).1
    · rename_i e
      exact own_set (h.s.own j hj) (fun b hb e2 => by
        have hb2 : (us.getD j nv).ownBlock = some gu := by rw [hb, ← e2]
        rcases Nat.lt_or_gt_of_ne e with e3 | e3
        · exact h.s.dis j k e3 hk gu hob hb2
        · exact h.s.dis k j e3 hj gu hb2 hob) _
/-- the zones are written in place -/
theorem OwnM.zone {lo hi : Nat} {w w' : World} {zv wv bv : Value} {us : List Value} {zs zs' : List Int} {ws : List (List Int)} {bs : List Int} (h : OwnM lo hi w zv wv bv us zs ws bs) (hq : Only (fun b => zv.ownBlock = some b) w w') (hz : OwnI lo w' zv zs') : OwnM lo hi w' zv wv bv us zs' ws bs :=
  ⟨hz, h.zh, ⟨h.s.len, own_only h.s.row hq (fun b hb' hS => h.zc b hS hb'), h.s.rowh, fun k hk => own_only (h.s.own k hk) hq (fun b hb' hS => h.zu k hk b hb' hS), h.s.top, h.s.dis, h.s.cd⟩, own_only h.b hq (fun b hb' hS => h.zb b hS hb'), h.bh, h.zb, h.zc, h.zu, h.bu, h.bc⟩

end Go.Proofs.YtgdadbmhdljcdaaGreatDoor

/- A model for a profile is drawn. -/
namespace Go.Proofs.YtgdadbmhdljcdaaGreatDoor
set_option linter.unusedVariables false
open Go.RowKit Go.Proofs.Bell Go.BigFrame

/-- the result's box as it was made -/
structure Z3 (R : Nat) (w' : World) : Prop where
  z0 : w'.cell? ⟨R, 0, none⟩ = some nv
  z1 : w'.cell? ⟨R, 1, none⟩ = some nv
  z2 : w'.cell? ⟨R, 2, none⟩ = some nv
  zf : ∀ j, w'.frozen? ⟨R, j, none⟩ = false
theorem Z3.lt {R : Nat} {w : World} (h : Z3 R w) : R < w.heap.size := World.block_lt_of_cell? _ _ h.z0
theorem Z3.only {S : Nat → Prop} {R : Nat} {w w' : World} (h : Z3 R w) (ho : Only S w w') (hn : ¬ S R) : Z3 R w' :=
  ⟨cell_only ho h.z0 hn, cell_only ho h.z1 hn, cell_only ho h.z2 hn, fun j => (frozen_only ho (p := ⟨R, j, none⟩) h.lt hn).trans (h.zf j)⟩
theorem Z3.later {R : Nat} {w w' : World} (h : Z3 R w) (hb : Below w.heap.size w w') : Z3 R w' := h.only (Only.of_below (S := fun b => w.heap.size ≤ b) hb) (by have := h.lt; omega)

/-- a model that is drawn: the result's box R, the model's box G -/
structure MSt (R G g A : Nat) (zv wv bv : Value) (us : List Value) (zs : List Int) (ws : List (List Int)) (bs : List Int) (w wr : World) : Prop where
  only : Only (fun b => b = g) w wr
  gw : g < w.heap.size
  rw : w.heap.size ≤ R
  rg : R < G
  z3 : Z3 R wr
  g0 : wr.cell? ⟨G, 0, none⟩ = some zv
  g1 : wr.cell? ⟨G, 1, none⟩ = some wv
  g2 : wr.cell? ⟨G, 2, none⟩ = some bv
  gf : ∀ j, wr.frozen? ⟨G, j, none⟩ = false
  own : OwnM (R + 1) G wr zv wv bv us zs ws bs
  src : Src A g wr
theorem MSt.lt {R G g A : Nat} {zv wv bv : Value} {us : List Value} {zs : List Int} {ws : List (List Int)} {bs : List Int} {w wr : World} (h : MSt R G g A zv wv bv us zs ws bs w wr) : G < wr.heap.size := World.block_lt_of_cell? _ _ h.g0
theorem MSt.go {R G g A B : Nat} {zv wv bv : Value} {us : List Value} {zs : List Int} {ws : List (List Int)} {bs : List Int} {w wr w1 : World} (h : MSt R G g A zv wv bv us zs ws bs w wr) (hq : Only (fun b => b = g) wr w1) (hs : Src B g w1) : MSt R G g B zv wv bv us zs ws bs w w1 := by
  have h1 := h.gw; have h2 := h.rw; have h3 := h.rg
  exact ⟨h.only.trans hq, h1, h2, h3, h.z3.only hq (by omega), cell_only hq h.g0 (by show ¬ G = g; omega), cell_only hq h.g1 (by show ¬ G = g; omega), cell_only hq h.g2 (by show ¬ G = g; omega),
    fun j => (frozen_only hq (p := ⟨G, j, none⟩) h.lt (by show ¬ G = g; omega)).trans (h.gf j), h.own.only hq (fun b e => by omega), hs⟩
theorem MSt.later {R G g A : Nat} {zv wv bv : Value} {us : List Value} {zs : List Int} {ws : List (List Int)} {bs : List Int} {w wr w1 : World} (h : MSt R G g A zv wv bv us zs ws bs w wr) (hb : Below wr.heap.size wr w1) : MSt R G g A zv wv bv us zs ws bs w w1 := h.go (Only.of_below hb) (h.src.later hb)
theorem MSt.mono {R G g A B : Nat} {zv wv bv : Value} {us : List Value} {zs : List Int} {ws : List (List Int)} {bs : List Int} {w wr : World} (h : MSt R G g A zv wv bv us zs ws bs w wr) (hab : A ≤ B) : MSt R G g B zv wv bv us zs ws bs w wr :=
  ⟨h.only, h.gw, h.rw, h.rg, h.z3, h.g0, h.g1, h.g2, h.gf, h.own, h.src.mono hab⟩
/-- a write into one of the model's own blocks -/
theorem MSt.wrote {R G g A : Nat} {zv wv bv : Value} {us : List Value} {zs zs' : List Int} {ws ws' : List (List Int)} {bs bs' : List Int} {w wr : World} (h : MSt R G g A zv wv bv us zs ws bs w wr) {b j : Nat} {u : Value} (hb1 : R + 1 ≤ b) (hb2 : b < G) (ho : OwnM (R + 1) G (wr.setCell ⟨b, j, none⟩ u) zv wv bv us zs' ws' bs') : MSt R G g A zv wv bv us zs' ws' bs' w (wr.setCell ⟨b, j, none⟩ u) := by
  have h1 := h.gw; have h2 := h.rw; have h3 := h.rg
  have hon : Only (fun x => x = b) wr (wr.setCell ⟨b, j, none⟩ u) := Only.setCell (S := fun x => x = b) (Only.refl _ wr) (p := ⟨b, j, none⟩) rfl _
  exact ⟨⟨h.only.os, h.only.tape, h.only.output, by simpa using h.only.size, fun x hx hn => (Below.heap_setCell _ _ _ _ (by show x ≠ b; omega)).trans (h.only.block x hx hn)⟩, h1, h2, h3, h.z3.only hon (by omega), cell_only hon h.g0 (by show ¬ G = b; omega), cell_only hon h.g1 (by show ¬ G = b; omega), cell_only hon h.g2 (by show ¬ G = b; omega),
    fun j' => (frozen_only hon (p := ⟨G, j', none⟩) h.lt (by show ¬ G = b; omega)).trans (h.gf j'), ho, h.src.keep hon (fun x e => by omega)⟩

def RetDm (A g : Nat) (w : World) (e : Ending) (w' : World) : Prop := ∃ (zv wv bv : Value) (us : List Value) (zs : List Int) (ws : List (List Int)) (bs : List Int), e = .returned (.agg #[zv, wv, bv]) ∧ OwnM w.heap.size w'.heap.size w' zv wv bv us zs ws bs ∧ MSh zs ws bs ∧ Src A g w' ∧ Only (fun b => b = g) w w'
theorem MSt.ret {R G g A : Nat} {zv wv bv : Value} {us : List Value} {zs : List Int} {ws : List (List Int)} {bs : List Int} {w wr : World} (h : MSt R G g A zv wv bv us zs ws bs w wr) (hm : MSh zs ws bs) (u0 u1 u2 : Value) :
    RetDm A g w (.returned (.agg #[zv, wv, bv])) (((wr.setCell ⟨R, 0, none⟩ u0).setCell ⟨R, 1, none⟩ u1).setCell ⟨R, 2, none⟩ u2) := by
  have h1 := h.gw; have h2 := h.rw; have h3 := h.rg; have h4 := h.lt
  have key : ∀ (wq : World) j v, OwnM (R + 1) G wq zv wv bv us zs ws bs → Src A g wq → Only (fun b => b = g) w wq → OwnM (R + 1) G (wq.setCell ⟨R, j, none⟩ v) zv wv bv us zs ws bs ∧ Src A g (wq.setCell ⟨R, j, none⟩ v) ∧ Only (fun b => b = g) w (wq.setCell ⟨R, j, none⟩ v) := fun wq j v a b c =>
    ⟨a.set (show R < R + 1 by omega) v, b.keep (Only.setCell (S := fun x => x = R) (Only.refl _ wq) (p := ⟨R, j, none⟩) rfl v) (fun x e => by omega), c.os, c.tape, c.output, by simpa using c.size, fun x hx hn => (Below.heap_setCell _ _ _ _ (by show x ≠ R; omega)).trans (c.block x hx hn)⟩
  have e0 := key wr 0 u0 h.own h.src h.only
  have e1 := key _ 1 u1 e0.1 e0.2.1 e0.2.2
  have e2 := key _ 2 u2 e1.1 e1.2.1 e1.2.2
  exact ⟨zv, wv, bv, us, zs, ws, bs, rfl, e2.1.wide (by omega) (by simp; omega), hm, e2.2.1, e2.2.2⟩

/-- what the region of a weight asks -/
structure SWei (G gw k : Nat) (wv u : Value) (w' : World) : Prop where
  g1 : w'.cell? ⟨G, 1, none⟩ = some wv
  r : w'.cell? ⟨gw, k, none⟩ = some u

set_option maxRecDepth 100000 in
set_option maxHeartbeats 6400000 in
theorem l08DrawFor_c (A g g' lo0 : Nat) (nm : ByteArray) (sv : Value) (ps : List (Int × Int × Int)) (w : World) (h : Src A g w) (hA : A ≤ 1000000) (c0 : w.cell? ⟨g', 0, none⟩ = some (.string nm)) (c1 : w.cell? ⟨g', 1, none⟩ = some sv) (hgg : g' ≠ g) (hnm : nm.size ≤ maxLen) (ho : OwnR lo0 w sv ps) (hlo : g < lo0) (hp : profB nm ps = true) (h9 : ps.length ≤ 9) :
    Calls Tryz.prog 115 #[.pointer (some ⟨g, 0, none⟩), .pointer (some ⟨g', 0, none⟩)] w (RetDm (A + 1000) g w) := by
  have hgw := h.lt
  have hgw' : g' < w.heap.size := World.block_lt_of_cell? _ _ c1
  obtain ⟨hl1, hl2, hal, hht⟩ := profB_t hp
  have hro := fun w' (hx : Only (fun b => b = g) w w') => Rd.of_own (own_only ho hx (fun b e hS => by have := own_lo ho b e; omega))
  have hc0 := fun w' (hx : Only (fun b => b = g) w w') => cell_only hx c0 (by show ¬ g' = g; omega)
  have hc1 := fun w' (hx : Only (fun b => b = g) w w') => cell_only hx c1 (by show ¬ g' = g; omega)
  have hdz := fun w' (hx : Only (fun b => b = g) w w') (hs : Src A g w') => l09DrawZones_c A g g' sv ps w' hs (by omega) (hc1 w' hx) hgg (hro w' hx) hl1 (by omega)
  have hvz := fun w' v zs (hx : Only (fun b => b = g) w w') (hz : Rd w' v zs.length (ints zs)) => l09Zones_c g' nm sv ps v zs w' (by have := hx.size; omega) hnm (hc0 w' hx) (hc1 w' hx) (hro w' hx) hz
  have hst := fun v zs w' (hz : Rd w' v zs.length (ints zs)) h1 h8 => l08Standard_c v zs w' hz h1 h8
  have hon := fun A w' (hx : Src A g w') (hA : A ≤ 100000000000) => one_c A g 3 w' hx hA (by omega) (by omega)
  have hpk := fun w' A' (hx : Src A' g w') (hA' : A' ≤ 100000000000) => pick_c A' g 1000 w' hx hA' (by omega) (by omega)
  have hdo := fun A w' (hx : Src A g w') (hA : A ≤ 1000000000) => l04DrawOk_c A g w' hx hA
  have hok := fun w' (hx : Only (fun b => b = g) w w') => l05Ok_c g' nm sv ps w' (by have := hx.size; omega) hnm (hc0 w' hx) (hc1 w' hx) (hro w' hx)
  rw [hp] at hok
  have hfi := fun G g'' zv wv bv zs ws bs a b c d f w' (hx : Only (fun b => b = g) w w') q0 q1 q2 e0 e1 e2 e3 e4 hz hw hb hmb hzb hls => l08Fit_c G g' g'' zv wv bv zs ws bs nm sv ps a b c d f w' q0 q1 q2 (hc1 w' hx) e0 e1 e2 e3 e4 hz hw hb (hro w' hx) hmb hl1 (by omega) hal hzb hls
  have hvt : ∀ zs, vzB nm ps zs = true → zonesB zs ((ps.length : Int) - 1) = true := fun zs hv => by simp only [vzB, Bool.and_eq_true] at hv; exact hv.2
  have hz0 : zonesB [0] ((ps.length : Int) - 1) = true := by
    unfold zonesB risesB
    simp [riseAt, inB]
    omega
  have HDZ := Lib.hid hdz; clear hdz
  have HVZ := Lib.hid hvz; clear hvz
  have HST := Lib.hid hst; clear hst
  have HON := Lib.hid hon; clear hon
  have HPK := Lib.hid hpk; clear hpk
  have HDO := Lib.hid hdo; clear hdo
  have HOK := Lib.hid hok; clear hok
  have HFI := Lib.hid hfi; clear hfi
  have HVT := Lib.hid hvt; clear hvt
  have HZ0 := Lib.hid hz0; clear hz0
  have H := Lib.hid h; clear h
  clear c0 c1 ho hro hc0 hc1 hp hal hht
  generalize hn : ps.length = n at *
  clear hn
  go_enter Tryz.func115, Tryz.ntmps115
  go_wp2_with fail
  have kb : Below w.heap.size w (w.alloc (.cells #[.slice none 0 0, .slice none 0 0, .slice none 0 0] 45)) := (Below.refl _ _).alloc (Nat.le_refl _) _
  have hZ : Z3 w.heap.size (w.alloc (.cells #[.slice none 0 0, .slice none 0 0, .slice none 0 0] 45)) := ⟨by simp [go_sem, nv], by simp [go_sem, nv], by simp [go_sem, nv], fun j => by simp [go_sem]⟩
  have hs0 := H.out.later kb
  have hq0 : Only (fun b => b = g) w (w.alloc (.cells #[.slice none 0 0, .slice none 0 0, .slice none 0 0] 45)) := Only.of_below kb
  generalize w.alloc (.cells #[.slice none 0 0, .slice none 0 0, .slice none 0 0] 45) = w0 at *
  refine (HDZ.out _ hq0 hs0).mono ?_
  rintro _ w1 ⟨v, zs, rfl, hrd, hzl9, s1, q1⟩
  have hq1 := hq0.trans q1
  have hZ1 := hZ.only q1 (by omega)
  have hrv := hrd.rd
  obtain ⟨_, aoz, capz, _, _, rfl, _, _⟩ := hrv.open
  clear hs0 hq0 q1 hZ kb
  have HRD := Lib.hid hrd; clear hrd
  have S1 := Lib.hid s1; clear s1
  have HQ1 := Lib.hid hq1; clear hq1
  have HZ1 := Lib.hid hZ1; clear hZ1
  clear hrv
  go_wp2_with fail
  refine (HVZ.out _ _ zs HQ1.out HRD.out.rd).mono ?_
  rintro _ w2 ⟨rfl, nd, rfl⟩
  have bd := below_drewN (Below.refl w1.heap.size w1) nd
  have hrd2 := HRD.out.only (Only.of_below bd)
  have s2 := S1.out.later bd
  have hq2 := HQ1.out.trans (Only.of_below bd)
  have hZ2 := HZ1.out.later bd
  clear HRD S1 HQ1 HZ1 bd
  generalize w1.drewN nd = w2 at *
  have HRD := Lib.hid hrd2; clear hrd2
  have S2 := Lib.hid s2; clear s2
  have HQ2 := Lib.hid hq2; clear hq2
  have HZ2 := Lib.hid hZ2; clear hZ2
  go_upto_if 18 with fail
  go_cut [5] from 12 (fun s5 wx => ∃ (v : Value) (zs : List Int), v = s5 ∧ Rd wx v zs.length (ints zs) ∧ zonesB zs ((n : Int) - 1) = true ∧ Src (A + 70) g wx ∧ Only (fun b => b = g) w wx ∧ Z3 w.heap.size wx)
  case first =>
    cases tv : vzB nm ps zs
    · have kb : Below w2.heap.size w2 (w2.alloc (.cells #[.int .i64 0] 2)) := (Below.refl _ _).alloc (Nat.le_refl _) _
      have hrd := Rd.of_own (own_one w2 0 _ (Nat.le_refl _))
      have hs3 := S2.out.later kb
      have hq3 := HQ2.out.trans (Only.of_below kb)
      have hZ3 := HZ2.out.later kb
      have HRD3 := Lib.hid hrd; clear hrd
      have HS3 := Lib.hid hs3; clear hs3
      have HQ3 := Lib.hid hq3; clear hq3
      have HZ3 := Lib.hid hZ3; clear hZ3
      clear kb
      go_wp2_with fail
      go_meet
      exact ⟨_, [0], rfl, HRD3.out, HZ0.out, HS3.out, HQ3.out, HZ3.out⟩
    · have hzb := HVT.out zs tv
      have HZB := Lib.hid hzb; clear hzb
      go_wp2_with fail
      go_meet
      exact ⟨_, zs, rfl, HRD.out.rd, HZB.out, S2.out, HQ2.out, HZ2.out⟩
  case rest =>
    clear HRD S2 HQ2 HZ2 HDZ HVZ HVT HZ0 H hzl9
    obtain ⟨v, zs, rfl, hrd, hzb, hs, hq, hZ⟩ := hcut
    generalize wc = w3 at *
    obtain ⟨hz1, hz8⟩ := zones_len hzb
    obtain ⟨_, aoz, capz, _, _, rfl, _, _⟩ := hrd.open
    have hzb31 := zones_mono hzb (show (n : Int) - 1 ≤ 31 by omega)
    have hsh := std_sh hz1 hz8
    have hwk := std_w hz1
    have hgz := hs.lt
    have hZl := hZ.lt
    have HRD := Lib.hid hrd; clear hrd
    go_wp2_with fail
    refine (HST.out _ zs _ HRD.out hz1 hz8).mono ?_
    rintro _ w4 ⟨zv, wv, bv, us, rfl, om, q4⟩
    obtain ⟨az, cz, rfl⟩ := own_shape om.z
    obtain ⟨ab, cb, rfl⟩ := own_shape om.b
    have hs4 := hs.later q4
    have hq4 := hq.trans (Only.of_below q4)
    have hZ4 := hZ.later q4
    obtain ⟨gw, cw, hwv, hgw1, hgw2⟩ := World.ownsRow.form om.s.row (by rw [hsh.w5]; decide)
    rw [hsh.w5] at hwv
    subst hwv
    have kb : ∀ o, Below w4.heap.size w4 (w4.alloc o) := fun o => (Below.refl _ _).alloc (Nat.le_refl _) _
    have hM : MSt w.heap.size w4.heap.size g (A + 70) (.slice az zs.length cz) (.slice (some ⟨gw, 0, none⟩) 5 cw) (.slice ab base5.length cb) us zs (stdK zs.length 5) base5 w (w4.alloc (.cells #[.slice az zs.length cz, .slice (some ⟨gw, 0, none⟩) 5 cw, .slice ab base5.length cb] 45)) :=
      ⟨hq4.trans (Only.of_below (kb _)), hgw, Nat.le_refl _, hZ4.lt, hZ4.later (kb _), by simp [go_sem], by simp [go_sem], by simp [go_sem], fun j => by simp [go_sem], (om.later (kb _)).wide (by omega) (Nat.le_refl _), hs4.later (kb _)⟩
    have hb5 : base5.length = 5 := rfl
    rw [hb5] at hM ⊢
    have hMb : ∀ k, k < 5 → 1 ≤ base5.getD k 0 ∧ base5.getD k 0 ≤ 1000000000 := base5_ok
    generalize stdK zs.length 5 = ws0 at *
    generalize base5 = bs0 at *
    clear om q4 hs4 hq4 hZ4 kb hs hq hZ HRD HST
    have HM := Lib.hid hM; clear hM
    have HSH := Lib.hid hsh; clear hsh
    have HWK := Lib.hid hwk; clear hwk
    have HMB := Lib.hid hMb; clear hMb
    go_wp2_with fail
    refine (HON.out _ _ HM.out.src (by omega)).mono ?_
    rintro _ w5 ⟨r, rfl, s5, q5⟩
    have hM5 := HM.out.go q5 s5
    clear HM s5 q5
    have HM5 := Lib.hid hM5; clear hM5
    go_upto_if 23 with fail
    go_cut [] from 12 (fun wx => ∃ ws : List (List Int), MSt w.heap.size w4.heap.size g (A + 152) (.slice az zs.length cz) (.slice (some ⟨gw, 0, none⟩) 5 cw) (.slice ab 5 cb) us zs ws bs0 w wx ∧ MSh zs ws bs0 ∧ WOk zs.length ws)
    case first =>
      cases r
      · have hM6 := HM5.out.mono (show A + 70 + 2 ≤ A + 152 by omega)
        have HM6 := Lib.hid hM6; clear hM6
        go_wp2_with fail
        go_meet
        exact ⟨ws0, HM6.out, HSH.out, HWK.out⟩
      · generalize hnz : zs.length = nz at *
        have HNZ := Lib.hid hnz; clear hnz
        go_wp2_with fail
        go_loopw [7] (fun i wr => ∃ (k : Nat) (ws : List (List Int)), k ≤ 5 ∧ i = .int .i64 k ∧ MSt w.heap.size w4.heap.size g (A + 72 + 16 * k) (.slice az nz cz) (.slice (some ⟨gw, 0, none⟩) 5 cw) (.slice ab 5 cb) us zs ws bs0 w wr ∧ MSh zs ws bs0 ∧ WOk nz ws) (fun i _ => 5 - (intOf i).toNat)
        case atStart => exact ⟨0, ws0, Nat.zero_le _, rfl, HM5.out.mono (by omega), HSH.out, HWK.out⟩
        case round =>
          clear HM5 HSH HWK ws0
          obtain ⟨k, ws, hk, rfl, hM, hsh, hwk⟩ := hrel
          by_cases hlt : k < 5
          · have hltd : decide ((k : Int) < 5) = true := by simp; omega
            have hG0 := hM.g0
            have HM := Lib.hid hM; clear hM
            have HSH := Lib.hid hsh; clear hsh
            have HWK := Lib.hid hwk; clear hwk
            go_wp2_with fail
            generalize wr = wo at *
            go_loopw [8] (fun j wr => ∃ (z : Nat) (ws : List (List Int)), z ≤ nz ∧ j = .int .i64 z ∧ MSt w.heap.size w4.heap.size g (A + 72 + 16 * k + 2 * z) (.slice az nz cz) (.slice (some ⟨gw, 0, none⟩) 5 cw) (.slice ab 5 cb) us zs ws bs0 w wr ∧ MSh zs ws bs0 ∧ WOk nz ws) (fun j _ => nz - (intOf j).toNat)
            case atStart => exact ⟨0, ws, Nat.zero_le _, rfl, HM.out.mono (by omega), HSH.out, HWK.out⟩
            case round =>
              clear HM HSH HWK hG0
              obtain ⟨z, ws, hz, rfl, hM, hsh, hwk⟩ := hrel
              have hG0 := hM.g0
              by_cases hlz : z < nz
              · have hlzd : decide (z < nz) = true := decide_eq_true hlz
                have HM := Lib.hid hM; clear hM
                have HSH := Lib.hid hsh; clear hsh
                have HWK := Lib.hid hwk; clear hwk
                have hu0 := HM.out.own.s.own k (by rw [HSH.out.w5]; exact hlt)
                obtain ⟨gu, cu, hu, hgu1, hgu2⟩ := World.ownsRow.form hu0 (by rw [HSH.out.rows k hlt, HNZ.out]; omega)
                have hgu3 : gu < w4.heap.size := HM.out.own.s.top k (by rw [HSH.out.w5]; exact hlt) gu (by rw [hu]; rfl)
                have hrow : wr.cell? ⟨gw, k, none⟩ = some (us.getD k nv) := by
                  have h1 := HM.out.own.s.row
                  rw [HSH.out.w5] at h1
                  exact (World.ownsRow.cellAt h1 k (by omega)).trans (getDv (by rw [HM.out.own.s.len, HSH.out.w5]; exact hlt))
                rw [hu, HSH.out.rows k hlt, HNZ.out] at hrow
                have HS : SWei w4.heap.size gw k (.slice (some ⟨gw, 0, none⟩) 5 cw) (.slice (some ⟨gu, 0, none⟩) nz cu) wr.drew := ⟨below_cell (bdrew wr) HM.out.g1, below_cell (bdrew wr) hrow⟩
                have hM := HM.out.later (bdrew wr)
                have hix := ix (P := Tryz.prog) (T := 43) (n := 5) (cap := cw) Tryz.underlying43 cells_SS has_SS (ao := some ⟨gw, 0, none⟩) (b := gw) (off := 0) (fun _ => rfl) (k := k) hlt _ rfl
                have hix2 := ix (P := Tryz.prog) (T := 42) (n := nz) (cap := cu) Tryz.underlying42 cells_int64 has_int64 (ao := some ⟨gu, 0, none⟩) (b := gu) (off := 0) (fun _ => rfl) (k := z) hlz _ rfl
                rw [Nat.mul_one, Nat.zero_add] at hix hix2
                have HU := Lib.hid hu; clear hu
                have HMd := Lib.hid hM; clear hM
                clear HM hu0 hrow
                go_wp2_with fail
                clear hG0
                refine startX (SWei w4.heap.size gw k (.slice (some ⟨gw, 0, none⟩) 5 cw) (.slice (some ⟨gu, 0, none⟩) nz cu)) [10] (by kernel_rfl) ?_
                generalize wr.drew = wr at *
                refine takeX 0 35 (.pointer (some ⟨w4.heap.size, 1, none⟩)) rfl rfl (by kernel_rfl) (fun _ _ _ h => h) (by rfl) (fun _ _ => by (go_simp; done)) HS ?_
                simp only [List.setIfInBounds_toArray, List.set_cons_zero, List.set_cons_succ]
                refine takeX 1 36 (.slice (some ⟨gw, 0, none⟩) 5 cw) rfl rfl (by kernel_rfl) (fun _ _ _ h => h) (by rfl) (fun w' hS => by (have q0 := hS.g1; clear hS HS; go_simp; done)) HS ?_
                simp only [List.setIfInBounds_toArray, List.set_cons_zero, List.set_cons_succ]
                refine takeX 2 37 (.int .i64 k) rfl rfl (by kernel_rfl) (fun _ _ _ h => h) (by rfl) (fun _ _ => rfl) HS ?_
                simp only [List.setIfInBounds_toArray, List.set_cons_zero, List.set_cons_succ]
                refine takeX 3 38 (.pointer (some ⟨gw, k, none⟩)) rfl rfl (by kernel_rfl) (fun _ _ _ h => h) (by rfl) (fun _ _ => by (go_simp; done)) HS ?_
                simp only [List.setIfInBounds_toArray, List.set_cons_zero, List.set_cons_succ]
                refine takeX 4 39 (.slice (some ⟨gu, 0, none⟩) nz cu) rfl rfl (by kernel_rfl) (fun _ _ _ h => h) (by rfl) (fun w' hS => by (have q0 := hS.r; clear hS HS; go_simp; done)) HS ?_
                simp only [List.setIfInBounds_toArray, List.set_cons_zero, List.set_cons_succ]
                refine takeX 5 40 (.int .i64 z) rfl rfl (by kernel_rfl) (fun _ _ _ h => h) (by rfl) (fun _ _ => rfl) HS ?_
                simp only [List.setIfInBounds_toArray, List.set_cons_zero, List.set_cons_succ]
                refine takeX 6 41 (.pointer (some ⟨g, 0, none⟩)) rfl rfl (by kernel_rfl) (fun _ _ _ h => h) (by rfl) (fun _ _ => rfl) HS ?_
                simp only [List.setIfInBounds_toArray, List.set_cons_zero, List.set_cons_succ]
                refine stepX 7 (by kernel_rfl) rfl ?_
                intro K hK
                go_simp
                refine (HPK.out _ _ HMd.out.src (by omega)).mono ?_
                rintro _ w9 ⟨y, rfl, ly, uy, s9, q9⟩
                have hM9 := HMd.out.go q9 s9
                have hgwg : gw ≠ g := by have := HMd.out.rw; have := own_lo HMd.out.own.s.row gw rfl; omega
                have HS : SWei w4.heap.size gw k (.slice (some ⟨gw, 0, none⟩) 5 cw) (.slice (some ⟨gu, 0, none⟩) nz cu) w9 := ⟨hM9.g1, cell_only q9 HS.r hgwg⟩
                clear HMd q9 s9
                refine hK _ _ (fun _ => HS) ?_
                clear hK K
                refine stepX 8 (by kernel_rfl) rfl ?_
                intro K hK
                go_simp
                refine hK _ _ (fun _ => HS) ?_
                clear hK K
                refine stepX 9 (by kernel_rfl) rfl ?_
                intro K hK
                go_simp
                refine hK _ _ (fun _ => HS) ?_
                clear hK K
                have hu1 := hM9.own.s.own k (by rw [HSH.out.w5]; exact hlt)
                rw [HU.out] at hu1
                unfold OwnI at hu1
                rw [HSH.out.rows k hlt, HNZ.out] at hu1
                have hfr := World.ownsRow.frozenAt hu1 z
                have hcx : ∃ q, w9.cell? ⟨gu, z, none⟩ = some (.int .i64 q) := ⟨_, (World.ownsRow.cellAt hu1 z (by omega)).trans (intsAt (show z < (ws.getD k []).length by rw [HSH.out.rows k hlt, HNZ.out]; exact hlz))⟩
                obtain ⟨q, hcx⟩ := hcx
                clear hu1
                refine stepX 10 (by kernel_rfl) rfl ?_
                intro K hK
                go_simp
                refine hK _ _ (fun h => absurd h (by decide)) ?_
                clear hK K
                refine doneX (by kernel_rfl) ?_ _
                clear HS hfr hcx
                have how := hM9.own.putW (k := k) (z := z) (by rw [HSH.out.w5]; exact hlt) HU.out (y + 1)
                have hM10 := (hM9.wrote (b := gu) (j := z) (u := .int .i64 (y + 1)) hgu1 hgu3 how).mono (show A + 72 + 16 * k + 2 * z + 2 ≤ A + 72 + 16 * k + 2 * (z + 1) by omega)
                have hsh10 := HSH.out.putW (k := k) hlt z (y + 1)
                have hwk10 := HWK.out.putW HSH.out HNZ.out (k := k) (z := z) (y := y + 1) hlt hlz (by omega) (by omega)
                have HM10 := Lib.hid hM10; clear hM10
                have HSH10 := Lib.hid hsh10; clear hsh10
                have HWK10 := Lib.hid hwk10; clear hwk10
                clear hM9 how
                go_wp2
                go_roundw
                case rel => exact ⟨z + 1, _, by omega, by go_num, HM10.out, HSH10.out, HWK10.out⟩
                case measure => simp [intOf]; omega
              · obtain rfl : z = nz := by omega
                have hlzd : decide (z < z) = false := decide_eq_false (by omega)
                have hM2 := hM.mono (show A + 72 + 16 * k + 2 * z ≤ A + 72 + 16 * (k + 1) by omega)
                have HM2 := Lib.hid hM2; clear hM2
                have HSH := Lib.hid hsh; clear hsh
                have HWK := Lib.hid hwk; clear hwk
                clear hM
                go_wp2
                go_roundw
                case rel => exact ⟨k + 1, ws, by omega, by go_num, HM2.out, HSH.out, HWK.out⟩
                case measure => simp [intOf]; omega
          · obtain rfl : k = 5 := by omega
            have hltd : decide ((5 : Int) < 5) = false := rfl
            have hM2 := hM.mono (show A + 72 + 16 * 5 ≤ A + 152 by omega)
            have HM2 := Lib.hid hM2; clear hM2
            have HSH := Lib.hid hsh; clear hsh
            have HWK := Lib.hid hwk; clear hwk
            clear hM
            go_wp2_with fail
            go_meet
            exact ⟨ws, HM2.out, HSH.out, HWK.out⟩
    case rest =>
      clear HM5 HSH HWK
      obtain ⟨ws, hM, hsh, hwk⟩ := hcut
      generalize wc = w6 at *
      have hmb := model_ok hsh hzb31 hwk HMB.out
      have HM := Lib.hid hM; clear hM
      have HSH := Lib.hid hsh; clear hsh
      have HMD := Lib.hid hmb; clear hmb
      clear hwk HPK
      go_wp2_with fail
      refine (HON.out _ _ HM.out.src (by omega)).mono ?_
      rintro _ w7 ⟨r, rfl, s7, q7⟩
      have hM7 := HM.out.go q7 s7
      clear HM s7 q7
      cases r
      · have HM7 := Lib.hid hM7; clear hM7
        go_wp2_with fail
        refine (HDO.out _ _ HM7.out.src (by omega)).mono ?_
        rintro _ w8 ⟨a, b, c, d, f, rfl, hbd, s8, q8⟩
        have hM8 := HM7.out.go q8 s8
        clear HM7 s8 q8 HDO HON
        have kb : Below w8.heap.size w8 (w8.alloc (.cells #[.int .i64 a, .int .i64 b, .int .i64 c, .int .i64 d, .int .i64 f] 47)) := (Below.refl _ _).alloc (Nat.le_refl _) _
        have hM9 := hM8.later kb
        have hfit := HFI.out w4.heap.size w8.heap.size _ _ _ zs ws bs0 a b c d f (w8.alloc (.cells #[.int .i64 a, .int .i64 b, .int .i64 c, .int .i64 d, .int .i64 f] 47)) hM9.only hM9.g0 hM9.g1 hM9.g2 (by simp [go_sem]) (by simp [go_sem]) (by simp [go_sem]) (by simp [go_sem]) (by simp [go_sem]) (Rd.of_own hM9.own.z) hM9.own.s.rd (Rd.of_own hM9.own.b) HMD.out hzb (fun k hk => by have := hbd k hk; omega)
        have hft : (∃ F : List Int, F.length = 5 ∧ fitI zs ws bs0 ps [a, b, c, d, f] = ((zs, ws, F), true)) ∨ fitI zs ws bs0 ps [a, b, c, d, f] = (([], [], []), false) := by
          unfold fitI
          split
          · exact .inl ⟨_, by rw [fitK_len]; exact HSH.out.b5, rfl⟩
          · exact .inr rfl
        generalize fitI zs ws bs0 ps [a, b, c, d, f] = FI at *
        clear HFI hM8 kb hbd
        have HM9 := Lib.hid hM9; clear hM9
        have HFIT := Lib.hid hfit; clear hfit
        have HFT := Lib.hid hft; clear hft
        go_wp2_with fail
        generalize w8.alloc (.cells #[.int .i64 a, .int .i64 b, .int .i64 c, .int .i64 d, .int .i64 f] 47) = w9 at *
        rcases HFT.out with ⟨F, hF5, rfl⟩ | rfl
        · refine HFIT.out.mono ?_
          rintro _ wf ⟨zv2, wv2, bv2, us2, rfl, of, qf⟩
          dsimp only at of ⊢
          have hM10 := HM9.out.later qf
          obtain ⟨az2, cz2, rfl⟩ := own_shape of.z
          obtain ⟨aw2, cw2, rfl⟩ := own_shape of.s.row
          obtain ⟨ab2, cb2, hb2⟩ := own_shape of.b
          rw [hF5] at hb2
          subst hb2
          have kb : ∀ o, Below wf.heap.size wf (wf.alloc o) := fun o => (Below.refl _ _).alloc (Nat.le_refl _) _
          have hwl9 := HM9.out.z3.lt
          have hM11 : MSt w.heap.size wf.heap.size g (A + 152 + 2 + 24) (.slice az2 zs.length cz2) (.slice aw2 ws.length cw2) (.slice ab2 5 cb2) us2 zs ws F w (wf.alloc (.cells #[.slice az2 zs.length cz2, .slice aw2 ws.length cw2, .slice ab2 5 cb2] 45)) :=
            ⟨hM10.only.trans (Only.of_below (kb _)), hgw, Nat.le_refl _, hM10.z3.lt, hM10.z3.later (kb _), by simp [go_sem], by simp [go_sem], by simp [go_sem], fun j => by simp [go_sem], (of.later (kb _)).wide (by omega) (Nat.le_refl _), hM10.src.later (kb _)⟩
          have hshF : MSh zs ws F := ⟨HSH.out.z1, HSH.out.z8, HSH.out.w5, hF5, HSH.out.rows⟩
          clear of qf kb hM10 HM9 HFIT HFT
          have HM11 := Lib.hid hM11; clear hM11
          have HSHF := Lib.hid hshF; clear hshF
          go_wp2_with fail
          generalize wf.alloc (.cells #[.slice az2 zs.length cz2, .slice aw2 ws.length cw2, .slice ab2 5 cb2] 45) = w11 at *
          refine (HOK.out _ HM11.out.only).mono ?_
          rintro _ w12 ⟨rfl, nd, rfl⟩
          have hM12 := (HM11.out.later (below_drewN (Below.refl w11.heap.size w11) nd)).mono (show A + 152 + 2 + 24 ≤ A + 1000 by omega)
          clear HM11
          generalize w11.drewN nd = w12 at *
          have g0 := hM12.g0
          have g1 := hM12.g1
          have g2 := hM12.g2
          have z0 := hM12.z3.z0
          have z1 := hM12.z3.z1
          have z2 := hM12.z3.z2
          have zf := hM12.z3.zf
          unfold nv at z0 z1 z2
          have HM12 := Lib.hid hM12; clear hM12
          go_wp2
          refine bodyPost_ret (v := .agg #[.slice az2 zs.length cz2, .slice aw2 ws.length cw2, .slice ab2 5 cb2]) (by simp [results, Tryz.results115, go_sem, cell_setCell, z0, z1, z2]) rfl ?_
          exact HM12.out.ret HSHF.out _ _ _
        · refine HFIT.out.mono ?_
          rintro _ wf ⟨zv2, wv2, bv2, us2, rfl, of, qf⟩
          dsimp only at of ⊢
          have hM10 := HM9.out.later qf
          obtain ⟨az2, cz2, rfl⟩ := own_shape of.z
          obtain ⟨aw2, cw2, rfl⟩ := own_shape of.s.row
          obtain ⟨ab2, cb2, rfl⟩ := own_shape of.b
          have kb : ∀ o, Below wf.heap.size wf (wf.alloc o) := fun o => (Below.refl _ _).alloc (Nat.le_refl _) _
          have hM11 := fun o => (hM10.later (kb o)).mono (show A + 152 + 2 + 24 ≤ A + 1000 by omega)
          have hM12 := hM11 (.cells #[.slice az2 ([] : List Int).length cz2, .slice aw2 ([] : List (List Int)).length cw2, .slice ab2 ([] : List Int).length cb2] 45)
          simp only [List.length_nil] at hM12
          have g0 := hM12.g0
          have g1 := hM12.g1
          have g2 := hM12.g2
          have z0 := hM12.z3.z0
          have z1 := hM12.z3.z1
          have z2 := hM12.z3.z2
          have zf := hM12.z3.zf
          unfold nv at z0 z1 z2
          clear of qf kb hM10 hM11 HM9 HFIT HFT
          have HM12 := Lib.hid hM12; clear hM12
          go_wp2
          refine bodyPost_ret (v := .agg #[.slice az zs.length cz, .slice (some ⟨gw, 0, none⟩) 5 cw, .slice ab 5 cb]) (by simp [results, Tryz.results115, go_sem, cell_setCell, z0, z1, z2]) rfl ?_
          exact HM12.out.ret HSH.out _ _ _
      · have hM8 := hM7.mono (show A + 152 + 2 ≤ A + 1000 by omega)
        have g0 := hM8.g0
        have g1 := hM8.g1
        have g2 := hM8.g2
        have z0 := hM8.z3.z0
        have z1 := hM8.z3.z1
        have z2 := hM8.z3.z2
        have zf := hM8.z3.zf
        unfold nv at z0 z1 z2
        have HM8 := Lib.hid hM8; clear hM8
        clear hM7
        go_wp2
        refine bodyPost_ret (v := .agg #[.slice az zs.length cz, .slice (some ⟨gw, 0, none⟩) 5 cw, .slice ab 5 cb]) (by simp [results, Tryz.results115, go_sem, cell_setCell, z0, z1, z2]) rfl ?_
        exact HM8.out.ret HSH.out _ _ _

end Go.Proofs.YtgdadbmhdljcdaaGreatDoor

/- A model and a profile are drawn. -/
namespace Go.Proofs.YtgdadbmhdljcdaaGreatDoor
set_option linter.unusedVariables false
open Go.RowKit Go.Proofs.Bell Go.BigFrame

/-- two boxes of results, the profile's box P, the model's box G -/
structure BSt (P G g A : Nat) (nm : ByteArray) (u : Value) (ps : List (Int × Int × Int)) (zv wv bv : Value) (us : List Value) (zs : List Int) (ws : List (List Int)) (bs : List Int) (w wr : World) : Prop where
  only : Only (fun b => b = g) w wr
  gw : g < w.heap.size
  wp : w.heap.size + 2 ≤ P
  pg : P < G
  z3 : Z3 w.heap.size wr
  y0 : wr.cell? ⟨w.heap.size + 1, 0, none⟩ = some (.string ⟨#[]⟩)
  y1 : wr.cell? ⟨w.heap.size + 1, 1, none⟩ = some nv
  yf : ∀ j, wr.frozen? ⟨w.heap.size + 1, j, none⟩ = false
  p0 : wr.cell? ⟨P, 0, none⟩ = some (.string nm)
  p1 : wr.cell? ⟨P, 1, none⟩ = some u
  pf : ∀ j, wr.frozen? ⟨P, j, none⟩ = false
  g0 : wr.cell? ⟨G, 0, none⟩ = some zv
  g1 : wr.cell? ⟨G, 1, none⟩ = some wv
  g2 : wr.cell? ⟨G, 2, none⟩ = some bv
  gf : ∀ j, wr.frozen? ⟨G, j, none⟩ = false
  pown : OwnR (w.heap.size + 2) wr u ps
  phi : ∀ b, u.ownBlock = some b → b < P
  own : OwnM (P + 1) G wr zv wv bv us zs ws bs
  src : Src A g wr
section
variable {P G g A B : Nat} {nm : ByteArray} {u : Value} {ps : List (Int × Int × Int)} {zv wv bv : Value} {us : List Value} {zs zs' : List Int} {ws ws' : List (List Int)} {bs bs' : List Int} {w wr w1 : World}
theorem BSt.lt (h : BSt P G g A nm u ps zv wv bv us zs ws bs w wr) : G < wr.heap.size := World.block_lt_of_cell? _ _ h.g0
theorem BSt.keep {S : Nat → Prop} (h : BSt P G g A nm u ps zv wv bv us zs ws bs w wr) (hq : Only S wr w1) (hS : ∀ b, S b → b = g ∨ (P < b ∧ b < G)) (hs : Src B g w1) (ho : OwnM (P + 1) G w1 zv wv bv us zs' ws' bs') : BSt P G g B nm u ps zv wv bv us zs' ws' bs' w w1 := by
  have h1 := h.gw; have h2 := h.wp; have h3 := h.pg; have h4 := h.lt
  have n0 : ¬ S w.heap.size := fun e => by have := hS _ e; omega
  have n1 : ¬ S (w.heap.size + 1) := fun e => by have := hS _ e; omega
  have n2 : ¬ S P := fun e => by have := hS _ e; omega
  have n3 : ¬ S G := fun e => by have := hS _ e; omega
  exact ⟨⟨hq.os.trans h.only.os, hq.tape.trans h.only.tape, hq.output.trans h.only.output, Nat.le_trans h.only.size hq.size, fun b hb hn => (hq.block b (by omega) (fun e => by have := hS b e; omega)).trans (h.only.block b hb hn)⟩, h1, h2, h3, h.z3.only hq n0,
    cell_only hq h.y0 n1, cell_only hq h.y1 n1, fun j => (frozen_only hq (p := ⟨w.heap.size + 1, j, none⟩) (by show w.heap.size + 1 < _; omega) n1).trans (h.yf j),
    cell_only hq h.p0 n2, cell_only hq h.p1 n2, fun j => (frozen_only hq (p := ⟨P, j, none⟩) (by show P < _; omega) n2).trans (h.pf j),
    cell_only hq h.g0 n3, cell_only hq h.g1 n3, cell_only hq h.g2 n3, fun j => (frozen_only hq (p := ⟨G, j, none⟩) h4 n3).trans (h.gf j),
    own_only h.pown hq (fun b e hb => by have := own_lo h.pown b e; have := h.phi b e; have := hS b hb; omega), h.phi, ho, hs⟩
theorem BSt.go (h : BSt P G g A nm u ps zv wv bv us zs ws bs w wr) (hq : Only (fun b => b = g) wr w1) (hs : Src B g w1) : BSt P G g B nm u ps zv wv bv us zs ws bs w w1 :=
  h.keep hq (fun b e => .inl e) hs (h.own.only hq (fun b e => by have := h.gw; have := h.wp; omega))
theorem BSt.later (h : BSt P G g A nm u ps zv wv bv us zs ws bs w wr) (hb : Below wr.heap.size wr w1) : BSt P G g A nm u ps zv wv bv us zs ws bs w w1 := h.go (Only.of_below hb) (h.src.later hb)
theorem BSt.wrote (h : BSt P G g A nm u ps zv wv bv us zs ws bs w wr) {b j : Nat} {x : Value} (hb1 : P + 1 ≤ b) (hb2 : b < G) (ho : OwnM (P + 1) G (wr.setCell ⟨b, j, none⟩ x) zv wv bv us zs' ws' bs') : BSt P G g A nm u ps zv wv bv us zs' ws' bs' w (wr.setCell ⟨b, j, none⟩ x) := by
  have hon : Only (fun y => y = b) wr (wr.setCell ⟨b, j, none⟩ x) := Only.setCell (S := fun y => y = b) (Only.refl _ wr) (p := ⟨b, j, none⟩) rfl _
  exact h.keep hon (fun y e => .inr (by omega)) (h.src.keep hon (fun y e => by have := h.gw; have := h.wp; omega)) ho
end

/-- what can be read while the source and the results' boxes are written -/
def KpM (S : Nat → Prop) (w : World) (zv wv bv u : Value) (zs : List Int) (ws : List (List Int)) (bs : List Int) (ps : List (Int × Int × Int)) : Prop :=
  ∀ w2, Only S w w2 → Rd w2 zv zs.length (ints zs) ∧ RdSS w2 wv ws ∧ Rd w2 bv bs.length (ints bs) ∧ Rd w2 u ps.length (trips ps)
theorem KpM.of_own {S : Nat → Prop} {l1 l2 hi : Nat} {w : World} {zv wv bv u : Value} {us : List Value} {zs : List Int} {ws : List (List Int)} {bs : List Int} {ps : List (Int × Int × Int)} (h : OwnM l1 hi w zv wv bv us zs ws bs) (hp : OwnR l2 w u ps) (h1 : ∀ b, S b → b < l1) (h2 : ∀ b, S b → b < l2) : KpM S w zv wv bv u zs ws bs ps := fun w2 hq => by
  have ho := h.only hq (fun b e => by have := h1 b e; omega)
  exact ⟨Rd.of_own ho.z, ho.s.rd, Rd.of_own ho.b, Rd.of_own (own_only hp hq (fun b e hb => by have := own_lo hp b e; have := h2 b hb; omega))⟩
/-- the weights but for the first row -/
theorem tail_ss {S : Nat → Prop} {lo hi gz c : Nat} {w : World} {us : List Value} {ws : List (List Int)} (h : OwnSS lo hi w (.slice (some ⟨gz, 0, none⟩) 5 c) us ws) (h5 : ws.length = 5) (hS : ∀ b, S b → b < lo) : ∀ w2, Only S w w2 → RdSS w2 (.slice (some ⟨gz, 1, none⟩) 4 (c - 1)) ws.tail := fun w2 hq => by
  have ho := h.only hq (fun b e => by have := hS b e; omega)
  have hrow := ho.row
  have hul := ho.len
  rw [h5] at hrow
  have hlt := own_lt hrow gz rfl
  obtain ⟨hm, hqq | ⟨_, b, off, cap, hv, hnc, hcm, _, _⟩⟩ := Rd.of_own hrow
  · omega
  injection hv with e1 e2 e3
  subst e3
  refine ⟨us.tail, by simp [hul], ?_, fun k hk => ?_⟩
  · rw [List.length_tail, h5]
    refine ⟨by decide, .inr ⟨by decide, gz, 1, c - 1, rfl, by omega, by omega, hlt, fun j x hj => ?_⟩⟩
    have hj' : us[j + 1]? = some x := by rw [List.getElem?_tail] at hj; exact hj
    have hjl := (List.getElem?_eq_some_iff.1 hj').1
    rw [Nat.add_comm 1 j]
    exact (World.ownsRow.cellAt hrow (j + 1) (by omega)).trans hj'
  · rw [List.length_tail] at hk
    have e1 : us.tail.getD k nv = us.getD (k + 1) nv := by simp [List.getD, List.getElem?_tail]
    have e2 : ws.tail.getD k [] = ws.getD (k + 1) [] := by simp [List.getD, List.getElem?_tail]
    rw [e1, e2]
    exact Rd.of_own (ho.own (k + 1) (by omega))

def SBo (g R : Nat) (b : Nat) : Prop := b < R + 2
/-- what is left when the ways meet -/
structure JBo (P G g A : Nat) (w wx : World) (nm : ByteArray) (u zv wv bv : Value) (zs : List Int) (ws : List (List Int)) (bs : List Int) (ps : List (Int × Int × Int)) : Prop where
  only : Only (fun b => b = g) w wx
  z3 : Z3 w.heap.size wx
  y0 : wx.cell? ⟨w.heap.size + 1, 0, none⟩ = some (.string ⟨#[]⟩)
  y1 : wx.cell? ⟨w.heap.size + 1, 1, none⟩ = some nv
  yf : ∀ j, wx.frozen? ⟨w.heap.size + 1, j, none⟩ = false
  p0 : wx.cell? ⟨P, 0, none⟩ = some (.string nm)
  p1 : wx.cell? ⟨P, 1, none⟩ = some u
  g0 : wx.cell? ⟨G, 0, none⟩ = some zv
  g1 : wx.cell? ⟨G, 1, none⟩ = some wv
  g2 : wx.cell? ⟨G, 2, none⟩ = some bv
  src : Src A g wx
  kp : KpM (SBo g w.heap.size) wx zv wv bv u zs ws bs ps
  nml : nm.size ≤ maxLen
  z8 : zs.length ≤ 8
theorem BSt.meet {P G g A B : Nat} {nm : ByteArray} {u : Value} {ps : List (Int × Int × Int)} {zv wv bv : Value} {us : List Value} {zs : List Int} {ws : List (List Int)} {bs : List Int} {w wr : World} (h : BSt P G g A nm u ps zv wv bv us zs ws bs w wr) (hn : nm.size ≤ maxLen) (hz : zs.length ≤ 8) (hab : A ≤ B) : JBo P G g B w wr nm u zv wv bv zs ws bs ps := by
  have h1 := h.gw; have h2 := h.wp
  exact ⟨h.only, h.z3, h.y0, h.y1, h.yf, h.p0, h.p1, h.g0, h.g1, h.g2, h.src.mono hab, KpM.of_own h.own h.pown (fun b e => by unfold SBo at e; omega) (fun b e => by unfold SBo at e; omega), hn, hz⟩

def RetBo (A g : Nat) (w : World) (e : Ending) (w' : World) : Prop := ∃ (zv wv bv u : Value) (zs : List Int) (ws : List (List Int)) (bs : List Int) (nm : ByteArray) (ps : List (Int × Int × Int)), e = .returned (.tuple #[.agg #[zv, wv, bv], .agg #[.string nm, u]]) ∧ KpM (fun b => b < w.heap.size) w' zv wv bv u zs ws bs ps ∧ nm.size ≤ maxLen ∧ zs.length ≤ 8 ∧ Src A g w' ∧ Only (fun b => b = g) w w'

/-- a weight's row, and one list of the model's -/
structure SRow (G j gw k : Nat) (v u : Value) (w' : World) : Prop where
  g1 : w'.cell? ⟨G, j, none⟩ = some v
  r : w'.cell? ⟨gw, k, none⟩ = some u

theorem own_three (w : World) (a b c : Int) : OwnI w.heap.size (w.alloc (.cells #[.int .i64 a, .int .i64 b, .int .i64 c] 2)) (.slice (some ⟨w.heap.size, 0, none⟩) 3 3) [a, b, c] :=
  ⟨rfl, .inr ⟨w.heap.size, 3, _, rfl, Nat.le_refl _, heap_alloc_new w _, Nat.le_refl _, by decide, rfl, rfl⟩⟩
theorem own_two (w : World) (a b : Int) : OwnI w.heap.size (w.alloc (.cells #[.int .i64 a, .int .i64 b] 2)) (.slice (some ⟨w.heap.size, 0, none⟩) 2 2) [a, b] :=
  ⟨rfl, .inr ⟨w.heap.size, 2, _, rfl, Nat.le_refl _, heap_alloc_new w _, Nat.le_refl _, by decide, rfl, rfl⟩⟩
section
variable {P G g A B gw cw : Nat} {nm nm2 : ByteArray} {u u2 : Value} {ps rs2 : List (Int × Int × Int)} {zv wv bv : Value} {us : List Value} {zs : List Int} {ws : List (List Int)} {bs : List Int} {w wr w5 : World}
theorem BSt.cut2 (h : BSt P G g A nm u ps zv (.slice (some ⟨gw, 0, none⟩) 5 cw) bv us zs ws bs w wr) (h5 : ws.length = 5) (hn : nm.size ≤ maxLen) (hz : zs.length ≤ 8) (hab : A ≤ B) :
    JBo P G g B w (wr.setCell ⟨G, 1, none⟩ (.slice (some ⟨gw, 1, none⟩) 4 (cw - 1))) nm u zv (.slice (some ⟨gw, 1, none⟩) 4 (cw - 1)) bv zs ws.tail bs ps := by
  have h1 := h.gw; have h2 := h.wp; have h3 := h.pg; have h4 := h.lt
  have hon : Only (fun y => y = G) wr (wr.setCell ⟨G, 1, none⟩ (.slice (some ⟨gw, 1, none⟩) 4 (cw - 1))) := Only.setCell (S := fun y => y = G) (Only.refl _ wr) (p := ⟨G, 1, none⟩) rfl _
  have ho := h.own.only hon (fun b e => by omega)
  have hp := own_only h.pown hon (fun b e hb => by have := h.phi b e; omega)
  have hsrc := h.src.keep hon (fun b e => by omega)
  have hg1 : (wr.setCell ⟨G, 1, none⟩ (.slice (some ⟨gw, 1, none⟩) 4 (cw - 1))).cell? ⟨G, 1, none⟩ = some (.slice (some ⟨gw, 1, none⟩) 4 (cw - 1)) := World.cell?_setCell_same _ _ _ h.g1
  have hg0 : (wr.setCell ⟨G, 1, none⟩ (.slice (some ⟨gw, 1, none⟩) 4 (cw - 1))).cell? ⟨G, 0, none⟩ = some zv := by rw [World.cell?_setCell_other _ _ _ _ (by simp)]; exact h.g0
  have hg2 : (wr.setCell ⟨G, 1, none⟩ (.slice (some ⟨gw, 1, none⟩) 4 (cw - 1))).cell? ⟨G, 2, none⟩ = some bv := by rw [World.cell?_setCell_other _ _ _ _ (by simp)]; exact h.g2
  have honly : Only (fun b => b = g) w (wr.setCell ⟨G, 1, none⟩ (.slice (some ⟨gw, 1, none⟩) 4 (cw - 1))) := ⟨h.only.os, h.only.tape, h.only.output, by simpa using h.only.size, fun x hx hn => (Below.heap_setCell _ _ _ _ (by show x ≠ G; omega)).trans (h.only.block x hx hn)⟩
  generalize wr.setCell ⟨G, 1, none⟩ (.slice (some ⟨gw, 1, none⟩) 4 (cw - 1)) = w1 at *
  refine ⟨honly, h.z3.only hon (by omega), cell_only hon h.y0 (by show ¬ w.heap.size + 1 = G; omega), cell_only hon h.y1 (by show ¬ w.heap.size + 1 = G; omega), fun j => (frozen_only hon (p := ⟨w.heap.size + 1, j, none⟩) (by show w.heap.size + 1 < _; omega) (by show ¬ w.heap.size + 1 = G; omega)).trans (h.yf j),
    cell_only hon h.p0 (by show ¬ P = G; omega), cell_only hon h.p1 (by show ¬ P = G; omega), hg0, hg1, hg2, hsrc.mono hab, fun w2 hq => ?_, hn, hz⟩
  have ho2 := ho.only hq (fun b e => by unfold SBo at e; omega)
  exact ⟨Rd.of_own ho2.z, tail_ss ho.s h5 (fun b e => by unfold SBo at e; omega) w2 hq, Rd.of_own ho2.b, Rd.of_own (own_only hp hq (fun b e hb => by have := own_lo hp b e; unfold SBo at hb; omega))⟩
theorem BSt.bent (h : BSt P G g A nm u ps zv wv bv us zs ws bs w wr) (hz : zs.length ≤ 8) (hu : OwnR wr.heap.size w5 u2 rs2) (hn : nm2.size ≤ maxLen) (hs : Src B g w5) (hq5 : Only (fun b => b = g) wr w5) :
    JBo P G g B w ((w5.setCell ⟨P, 0, none⟩ (.string nm2)).setCell ⟨P, 1, none⟩ u2) nm2 u2 zv wv bv zs ws bs rs2 := by
  have h5 := h.go hq5 hs
  have h1 := h5.gw; have h2 := h5.wp; have h3 := h5.pg; have h4 := h5.lt; have h40 := h.lt
  have hon : Only (fun y => y = P) w5 ((w5.setCell ⟨P, 0, none⟩ (.string nm2)).setCell ⟨P, 1, none⟩ u2) := (Only.setCell (S := fun y => y = P) (Only.refl _ w5) (p := ⟨P, 0, none⟩) rfl _).setCell (p := ⟨P, 1, none⟩) rfl _
  have ho := h5.own.only hon (fun b e => by omega)
  have hp := own_only hu hon (fun b e hb => by have := own_lo hu b e; omega)
  have hsrc := h5.src.keep hon (fun b e => by omega)
  have hp1 : ((w5.setCell ⟨P, 0, none⟩ (.string nm2)).setCell ⟨P, 1, none⟩ u2).cell? ⟨P, 1, none⟩ = some u2 := World.cell?_setCell_same _ _ _ (by rw [World.cell?_setCell_other _ _ _ _ (by simp)]; exact h5.p1)
  have hp0 : ((w5.setCell ⟨P, 0, none⟩ (.string nm2)).setCell ⟨P, 1, none⟩ u2).cell? ⟨P, 0, none⟩ = some (.string nm2) := by rw [World.cell?_setCell_other _ _ _ _ (by simp)]; exact World.cell?_setCell_same _ _ _ h5.p0
  have honly : Only (fun b => b = g) w ((w5.setCell ⟨P, 0, none⟩ (.string nm2)).setCell ⟨P, 1, none⟩ u2) := ⟨h5.only.os, h5.only.tape, h5.only.output, by simpa using h5.only.size, fun x hx hn => ((Below.heap_setCell _ _ _ _ (by show x ≠ P; omega)).trans (Below.heap_setCell _ _ _ _ (by show x ≠ P; omega))).trans (h5.only.block x hx hn)⟩
  generalize (w5.setCell ⟨P, 0, none⟩ (.string nm2)).setCell ⟨P, 1, none⟩ u2 = w1 at *
  refine ⟨honly, h5.z3.only hon (by omega), cell_only hon h5.y0 (by show ¬ w.heap.size + 1 = P; omega), cell_only hon h5.y1 (by show ¬ w.heap.size + 1 = P; omega), fun j => (frozen_only hon (p := ⟨w.heap.size + 1, j, none⟩) (by show w.heap.size + 1 < _; omega) (by show ¬ w.heap.size + 1 = P; omega)).trans (h5.yf j),
    hp0, hp1, cell_only hon h5.g0 (by show ¬ G = P; omega), cell_only hon h5.g1 (by show ¬ G = P; omega), cell_only hon h5.g2 (by show ¬ G = P; omega), hsrc, KpM.of_own ho hp (fun b e => by unfold SBo at e; omega) (fun b e => by unfold SBo at e; omega), hn, hz⟩
end

structure SEnd (G P : Nat) (zv wv bv : Value) (nm : ByteArray) (u : Value) (w' : World) : Prop where
  g0 : w'.cell? ⟨G, 0, none⟩ = some zv
  g1 : w'.cell? ⟨G, 1, none⟩ = some wv
  g2 : w'.cell? ⟨G, 2, none⟩ = some bv
  p0 : w'.cell? ⟨P, 0, none⟩ = some (.string nm)
  p1 : w'.cell? ⟨P, 1, none⟩ = some u

set_option maxRecDepth 100000 in
set_option maxHeartbeats 6400000 in
theorem l08DrawBoth_c (A g : Nat) (w : World) (h : Src A g w) (hA : A ≤ 100000) : Calls Tryz.prog 62 #[.pointer (some ⟨g, 0, none⟩)] w (RetBo (A + 1500) g w) := by
  have hgw := h.lt
  have hdr := fun w' (hx : Src A g w') => l05Draw_c A g w' hx (by omega)
  have hdf := fun A' g' lo0 nm sv ps w' (hs : Src A' g w') (hA' : A' ≤ 1000000) c0 c1 hgg hnm ho hlo hp h9 => l08DrawFor_c A' g g' lo0 nm sv ps w' hs hA' c0 c1 hgg hnm ho hlo hp h9
  have hpk := fun w' A' (hx : Src A' g w') (hA' : A' ≤ 100000000000) => pick_c A' g 16 w' hx hA' (by omega) (by omega)
  have ham := fun A' v zs w' (hx : Src A' g w') (hA' : A' ≤ 100000000000) hv h1 h2 hne => among_c A' g v zs w' hx hA' hv h1 h2 hne
  have hbt := fun A' w' (hx : Src A' g w') (hA' : A' ≤ 100000000) => l05Bent_c A' g w' hx hA'
  have HDR := Lib.hid hdr; clear hdr
  have HDF := Lib.hid hdf; clear hdf
  have HPK := Lib.hid hpk; clear hpk
  have HAM := Lib.hid ham; clear ham
  have HBT := Lib.hid hbt; clear hbt
  have H := Lib.hid h; clear h
  go_enter Tryz.func62, Tryz.ntmps62
  go_wp2_with fail
  have kb : Below w.heap.size w ((w.alloc (.cells #[.slice none 0 0, .slice none 0 0, .slice none 0 0] 45)).alloc (.cells #[.string ⟨#[]⟩, .slice none 0 0] 26)) := by go_grown
  have hZ : Z3 w.heap.size ((w.alloc (.cells #[.slice none 0 0, .slice none 0 0, .slice none 0 0] 45)).alloc (.cells #[.string ⟨#[]⟩, .slice none 0 0] 26)) := ⟨by simp [go_sem, nv], by simp [go_sem, nv], by simp [go_sem, nv], fun j => by simp [go_sem]⟩
  have y0 : ((w.alloc (.cells #[.slice none 0 0, .slice none 0 0, .slice none 0 0] 45)).alloc (.cells #[.string ⟨#[]⟩, .slice none 0 0] 26)).cell? ⟨w.heap.size + 1, 0, none⟩ = some (.string ⟨#[]⟩) := by simp [go_sem]
  have y1 : ((w.alloc (.cells #[.slice none 0 0, .slice none 0 0, .slice none 0 0] 45)).alloc (.cells #[.string ⟨#[]⟩, .slice none 0 0] 26)).cell? ⟨w.heap.size + 1, 1, none⟩ = some nv := by simp [go_sem, nv]
  have yf : ∀ j, ((w.alloc (.cells #[.slice none 0 0, .slice none 0 0, .slice none 0 0] 45)).alloc (.cells #[.string ⟨#[]⟩, .slice none 0 0] 26)).frozen? ⟨w.heap.size + 1, j, none⟩ = false := fun j => by simp [go_sem]
  have hsz : ((w.alloc (.cells #[.slice none 0 0, .slice none 0 0, .slice none 0 0] 45)).alloc (.cells #[.string ⟨#[]⟩, .slice none 0 0] 26)).heap.size = w.heap.size + 2 := by simp
  have hs0 := H.out.later kb
  have hq0 : Only (fun b => b = g) w ((w.alloc (.cells #[.slice none 0 0, .slice none 0 0, .slice none 0 0] 45)).alloc (.cells #[.string ⟨#[]⟩, .slice none 0 0] 26)) := Only.of_below kb
  clear kb
  generalize (w.alloc (.cells #[.slice none 0 0, .slice none 0 0, .slice none 0 0] 45)).alloc (.cells #[.string ⟨#[]⟩, .slice none 0 0] 26) = w0 at *
  refine (HDR.out _ hs0).mono ?_
  rintro _ w1 ⟨nm, rs, u, rfl, ou, hp, hnm, h2, ⟨h9, _⟩, s1, q1⟩
  have n0 : ¬ w.heap.size = g := by omega
  have n1 : ¬ w.heap.size + 1 = g := by omega
  have hq1 := hq0.trans q1
  have hZ1 := hZ.only q1 n0
  have y01 := cell_only q1 y0 n1
  have y11 := cell_only q1 y1 n1
  have yf1 : ∀ j, w1.frozen? ⟨w.heap.size + 1, j, none⟩ = false := fun j => (frozen_only q1 (p := ⟨w.heap.size + 1, j, none⟩) (by show w.heap.size + 1 < _; omega) n1).trans (yf j)
  have hsz1 : w.heap.size + 2 ≤ w1.heap.size := by have := q1.size; omega
  rw [hsz] at ou
  obtain ⟨au, cu, rfl⟩ := own_shape ou
  have hphi := own_lt ou
  clear hs0 hq0 q1 hZ y0 y1 yf hsz
  have kb : Below w1.heap.size w1 (w1.alloc (.cells #[.string nm, .slice au rs.length cu] 26)) := (Below.refl _ _).alloc (Nat.le_refl _) _
  have s2 := s1.later kb
  have ou2 := own_later ou kb
  have hq2 := hq1.trans (Only.of_below kb)
  have hZ2 := hZ1.later kb
  have y02 := below_cell kb y01
  have y12 := below_cell kb y11
  have yf2 : ∀ j, (w1.alloc (.cells #[.string nm, .slice au rs.length cu] 26)).frozen? ⟨w.heap.size + 1, j, none⟩ = false := fun j => (kb.frozen (p := ⟨w.heap.size + 1, j, none⟩) (by show w.heap.size + 1 < _; omega)).trans (yf1 j)
  have p02 : (w1.alloc (.cells #[.string nm, .slice au rs.length cu] 26)).cell? ⟨w1.heap.size, 0, none⟩ = some (.string nm) := by simp [go_sem]
  have p12 : (w1.alloc (.cells #[.string nm, .slice au rs.length cu] 26)).cell? ⟨w1.heap.size, 1, none⟩ = some (.slice au rs.length cu) := by simp [go_sem]
  have pf2 : ∀ j, (w1.alloc (.cells #[.string nm, .slice au rs.length cu] 26)).frozen? ⟨w1.heap.size, j, none⟩ = false := fun j => by simp [go_sem]
  have sz2 : (w1.alloc (.cells #[.string nm, .slice au rs.length cu] 26)).heap.size = w1.heap.size + 1 := by simp
  clear kb s1 ou hq1 hZ1 y01 y11 yf1
  generalize hPB : w1.alloc (.cells #[.string nm, .slice au rs.length cu] 26) = w2 at *
  have hdf := HDF.out (A + 100) w1.heap.size (w.heap.size + 2) nm _ rs w2 s2 (by omega) p02 p12 (by omega) hnm ou2 (by omega) hp h9
  clear HDF HDR
  have HDF := Lib.hid hdf; clear hdf
  go_wp2_with fail
  refine HDF.out.mono ?_
  clear hPB HDF
  rintro _ w3 ⟨zv, wv, bv, us, zs, ws, bs, rfl, om, hsh, s3, q3⟩
  have n2 : ¬ w1.heap.size = g := by omega
  have hq3 := hq2.trans q3
  have hZ3 := hZ2.only q3 n0
  have y03 := cell_only q3 y02 n1
  have y13 := cell_only q3 y12 n1
  have yf3 : ∀ j, w3.frozen? ⟨w.heap.size + 1, j, none⟩ = false := fun j => (frozen_only q3 (p := ⟨w.heap.size + 1, j, none⟩) (by show w.heap.size + 1 < _; omega) n1).trans (yf2 j)
  have p03 := cell_only q3 p02 n2
  have p13 := cell_only q3 p12 n2
  have pf3 : ∀ j, w3.frozen? ⟨w1.heap.size, j, none⟩ = false := fun j => (frozen_only q3 (p := ⟨w1.heap.size, j, none⟩) (by show w1.heap.size < _; omega) n2).trans (pf2 j)
  have ou3 := own_only ou2 q3 (fun b e hb => by have := own_lo ou2 b e; omega)
  have hsz3 : w1.heap.size + 1 ≤ w3.heap.size := by have := q3.size; omega
  obtain ⟨gz, cz, hzv, hgz1, hgz2⟩ := World.ownsRow.form om.z hsh.z1
  obtain ⟨gw, cw, hwv, hgw1, hgw2⟩ := World.ownsRow.form om.s.row (by rw [hsh.w5]; decide)
  obtain ⟨gb, cb, hbv, hgb1, hgb2⟩ := World.ownsRow.form om.b (by rw [hsh.b5]; decide)
  rw [hsh.w5] at hwv
  rw [hsh.b5] at hbv
  subst hzv hwv hbv
  have kb : ∀ o, Below w3.heap.size w3 (w3.alloc o) := fun o => (Below.refl _ _).alloc (Nat.le_refl _) _
  have kf : ∀ o j, (w3.alloc o).frozen? ⟨w.heap.size + 1, j, none⟩ = false := fun o j => ((kb o).frozen (p := ⟨w.heap.size + 1, j, none⟩) (by show w.heap.size + 1 < _; omega)).trans (yf3 j)
  have kg : ∀ o j, (w3.alloc o).frozen? ⟨w1.heap.size, j, none⟩ = false := fun o j => ((kb o).frozen (p := ⟨w1.heap.size, j, none⟩) (by show w1.heap.size < _; omega)).trans (pf3 j)
  have hM : BSt w1.heap.size w3.heap.size g (A + 1100) nm (.slice au rs.length cu) rs (.slice (some ⟨gz, 0, none⟩) zs.length cz) (.slice (some ⟨gw, 0, none⟩) 5 cw) (.slice (some ⟨gb, 0, none⟩) 5 cb) us zs ws bs w (w3.alloc (.cells #[.slice (some ⟨gz, 0, none⟩) zs.length cz, .slice (some ⟨gw, 0, none⟩) 5 cw, .slice (some ⟨gb, 0, none⟩) 5 cb] 45)) :=
    ⟨hq3.trans (Only.of_below (kb _)), hgw, hsz1, by omega, hZ3.later (kb _), below_cell (kb _) y03, below_cell (kb _) y13, kf _, below_cell (kb _) p03, below_cell (kb _) p13, kg _, by simp [go_sem], by simp [go_sem], by simp [go_sem], fun j => by simp [go_sem], own_later ou3 (kb _), hphi, (om.later (kb _)).wide (by omega) (Nat.le_refl _), s3.later (kb _)⟩
  clear q3 hq3 hZ3 y03 y13 yf3 p03 p13 pf3 ou3 kb kf kg om s3 hq2 hZ2 y02 y12 yf2 p02 p12 pf2 ou2 s2 hphi hp
  have HM := Lib.hid hM; clear hM
  have HSH := Lib.hid hsh; clear hsh
  have HNM := Lib.hid hnm; clear hnm
  go_wp2_with fail
  refine (HPK.out _ _ HM.out.src (by omega)).mono ?_
  rintro _ w4 ⟨r, rfl, lr, ur, s4, q4⟩
  have hM4 := HM.out.go q4 s4
  clear HM s4 q4
  have HM := Lib.hid hM4; clear hM4
  go_upto_block 0 with fail
  go_cut [] from 7 (fun wx => ∃ (nm : ByteArray) (u zv wv bv : Value) (zs : List Int) (ws : List (List Int)) (bs : List Int) (ps : List (Int × Int × Int)), JBo w1.heap.size w3.heap.size g (A + 1500) w wx nm u zv wv bv zs ws bs ps)
  case first =>
    by_cases r0 : r = 0
    · subst r0
      have hu0 := HM.out.own.s.own 2 (by rw [HSH.out.w5]; decide)
      obtain ⟨gu, cu2, hu, hgu1, hgu2⟩ := World.ownsRow.form hu0 (by rw [HSH.out.rows 2 (by decide)]; exact HSH.out.z1)
      have hgu3 : gu < w3.heap.size := HM.out.own.s.top 2 (by rw [HSH.out.w5]; decide) gu (by rw [hu]; rfl)
      have hrow : w4.cell? ⟨gw, 2, none⟩ = some (us.getD 2 nv) := by
        have h1 := HM.out.own.s.row
        rw [HSH.out.w5] at h1
        exact (World.ownsRow.cellAt h1 2 (by omega)).trans (getDv (by rw [HM.out.own.s.len, HSH.out.w5]; decide))
      rw [hu, HSH.out.rows 2 (by decide)] at hrow
      have HS : SRow w3.heap.size 1 gw 2 (.slice (some ⟨gw, 0, none⟩) 5 cw) (.slice (some ⟨gu, 0, none⟩) zs.length cu2) w4.drew := ⟨below_cell (bdrew w4) HM.out.g1, below_cell (bdrew w4) hrow⟩
      have hM := HM.out.later (bdrew w4)
      have hix := ix (P := Tryz.prog) (T := 43) (n := 5) (cap := cw) Tryz.underlying43 cells_SS has_SS (ao := some ⟨gw, 0, none⟩) (b := gw) (off := 0) (fun _ => rfl) (k := 2) (by omega) 2 rfl
      have hix2 := ix (P := Tryz.prog) (T := 42) (n := zs.length) (cap := cu2) Tryz.underlying42 cells_int64 has_int64 (ao := some ⟨gu, 0, none⟩) (b := gu) (off := 0) (fun _ => rfl) (k := 0) HSH.out.z1 0 rfl
      rw [Nat.mul_one, Nat.zero_add] at hix hix2
      have hz1 := HSH.out.z1
      have HU := Lib.hid hu; clear hu
      have HM9 := Lib.hid hM; clear hM
      clear HM hu0 hrow
      go_wp2_with fail
      refine startX (SRow w3.heap.size 1 gw 2 (.slice (some ⟨gw, 0, none⟩) 5 cw) (.slice (some ⟨gu, 0, none⟩) zs.length cu2)) [8] (by kernel_rfl) ?_
      generalize w4.drew = w5 at *
      refine takeX 0 15 (.pointer (some ⟨w3.heap.size, 1, none⟩)) rfl rfl (by kernel_rfl) (fun _ _ _ h => h) (by rfl) (fun _ _ => by (go_simp; done)) HS ?_
      simp only [List.setIfInBounds_toArray, List.set_cons_zero, List.set_cons_succ]
      refine takeX 1 16 (.slice (some ⟨gw, 0, none⟩) 5 cw) rfl rfl (by kernel_rfl) (fun _ _ _ h => h) (by rfl) (fun w' hS => by (have q0 := hS.g1; clear hS HS; go_simp; done)) HS ?_
      simp only [List.setIfInBounds_toArray, List.set_cons_zero, List.set_cons_succ]
      refine takeX 2 17 (.pointer (some ⟨gw, 2, none⟩)) rfl rfl (by kernel_rfl) (fun _ _ _ h => h) (by rfl) (fun _ _ => by (go_simp; done)) HS ?_
      simp only [List.setIfInBounds_toArray, List.set_cons_zero, List.set_cons_succ]
      refine takeX 3 18 (.slice (some ⟨gu, 0, none⟩) zs.length cu2) rfl rfl (by kernel_rfl) (fun _ _ _ h => h) (by rfl) (fun w' hS => by (have q0 := hS.r; clear hS HS; go_simp; done)) HS ?_
      simp only [List.setIfInBounds_toArray, List.set_cons_zero, List.set_cons_succ]
      refine takeX 4 19 (.pointer (some ⟨g, 0, none⟩)) rfl rfl (by kernel_rfl) (fun _ _ _ h => h) (by rfl) (fun _ _ => rfl) HS ?_
      simp only [List.setIfInBounds_toArray, List.set_cons_zero, List.set_cons_succ]
      refine stepX 5 (by kernel_rfl) rfl ?_
      intro K hK
      go_simp
      have kb : Below w5.heap.size w5 (w5.alloc (.cells #[.int .i64 (-1), .int .i64 1000, .int .i64 1001] 2)) := (Below.refl _ _).alloc (Nat.le_refl _) _
      have HS := SRow.mk (below_cell kb HS.g1) (below_cell kb HS.r)
      have hM := HM9.out.later kb
      have hrd := Rd.of_own (own_three w5 (-1) 1000 1001)
      have hg5 : g < w5.heap.size := HM9.out.src.lt
      clear kb HM9
      have HM9 := Lib.hid hM; clear hM
      have HRD := Lib.hid hrd; clear hrd
      refine hK _ _ (fun _ => HS) ?_
      clear hK K
      refine stepX 6 (by kernel_rfl) rfl ?_
      intro K hK
      go_simp
      refine (HAM.out _ _ [-1, 1000, 1001] _ HM9.out.src (by omega) HRD.out (by decide) (by decide) (fun b e => by simp [Value.ownBlock] at e; omega)).mono ?_
      rintro _ w6 ⟨y, rfl, hy, s6, q6⟩
      have hM6 := HM9.out.go q6 s6
      have hgwg : gw ≠ g := by have h1 := own_lo hM6.own.s.row gw rfl; have h2 := hM6.wp; omega
      have HS := SRow.mk hM6.g1 (cell_only q6 HS.r hgwg)
      clear hy HM9 HRD q6 s6
      refine hK _ _ (fun _ => HS) ?_
      clear hK K
      refine stepX 7 (by kernel_rfl) rfl ?_
      intro K hK
      go_simp
      refine hK _ _ (fun _ => HS) ?_
      clear hK K
      have hu1 := hM6.own.s.own 2 (by rw [HSH.out.w5]; decide)
      rw [HU.out] at hu1
      unfold OwnI at hu1
      rw [HSH.out.rows 2 (by decide)] at hu1
      have hfr := World.ownsRow.frozenAt hu1 0
      have hcx : ∃ q, w6.cell? ⟨gu, 0, none⟩ = some (.int .i64 q) := ⟨_, (World.ownsRow.cellAt hu1 0 (by omega)).trans (intsAt (show 0 < (ws.getD 2 []).length by rw [HSH.out.rows 2 (by decide)]; omega))⟩
      obtain ⟨q, hcx⟩ := hcx
      clear hu1
      refine stepX 8 (by kernel_rfl) rfl ?_
      intro K hK
      go_simp
      refine hK _ _ (fun h => absurd h (by decide)) ?_
      clear hK K
      refine doneX (by kernel_rfl) ?_ _
      clear HS hfr hcx
      have how := hM6.own.putW (k := 2) (z := 0) (by rw [HSH.out.w5]; decide) HU.out y
      have hM10 := hM6.wrote (b := gu) (j := 0) (x := .int .i64 y) hgu1 hgu3 how
      have hJ := hM10.meet (B := A + 1500) HNM.out HSH.out.z8 (by omega)
      have HJ := Lib.hid hJ; clear hJ
      clear hM6 how hM10
      go_wp2_with fail
      go_meet
      exact ⟨nm, _, _, _, _, zs, _, bs, rs, HJ.out⟩
    · have b0 : (r == 0) = false := beq_eq_false_iff_ne.2 r0
      by_cases r1 : r = 1
      · subst r1
        have HS : SRow w3.heap.size 2 w3.heap.size 2 (.slice (some ⟨gb, 0, none⟩) 5 cb) (.slice (some ⟨gb, 0, none⟩) 5 cb) w4.drew := ⟨below_cell (bdrew w4) HM.out.g2, below_cell (bdrew w4) HM.out.g2⟩
        have hM := HM.out.later (bdrew w4)
        have hix := ix (P := Tryz.prog) (T := 42) (n := 5) (cap := cb) Tryz.underlying42 cells_int64 has_int64 (ao := some ⟨gb, 0, none⟩) (b := gb) (off := 0) (fun _ => rfl) (k := 1) (by omega) 1 rfl
        rw [Nat.mul_one, Nat.zero_add] at hix
        have HM9 := Lib.hid hM; clear hM
        clear HM
        go_wp2_with fail
        refine startX (SRow w3.heap.size 2 w3.heap.size 2 (.slice (some ⟨gb, 0, none⟩) 5 cb) (.slice (some ⟨gb, 0, none⟩) 5 cb)) [6] (by kernel_rfl) ?_
        generalize w4.drew = w5 at *
        refine takeX 0 25 (.pointer (some ⟨w3.heap.size, 2, none⟩)) rfl rfl (by kernel_rfl) (fun _ _ _ h => h) (by rfl) (fun _ _ => by (go_simp; done)) HS ?_
        simp only [List.setIfInBounds_toArray, List.set_cons_zero, List.set_cons_succ]
        refine takeX 1 26 (.slice (some ⟨gb, 0, none⟩) 5 cb) rfl rfl (by kernel_rfl) (fun _ _ _ h => h) (by rfl) (fun w' hS => by (have q0 := hS.g1; clear hS HS; go_simp; done)) HS ?_
        simp only [List.setIfInBounds_toArray, List.set_cons_zero, List.set_cons_succ]
        refine takeX 2 27 (.pointer (some ⟨g, 0, none⟩)) rfl rfl (by kernel_rfl) (fun _ _ _ h => h) (by rfl) (fun _ _ => rfl) HS ?_
        simp only [List.setIfInBounds_toArray, List.set_cons_zero, List.set_cons_succ]
        refine stepX 3 (by kernel_rfl) rfl ?_
        intro K hK
        go_simp
        have kb : Below w5.heap.size w5 (w5.alloc (.cells #[.int .i64 0, .int .i64 1000000000, .int .i64 1000000001] 2)) := (Below.refl _ _).alloc (Nat.le_refl _) _
        have HS := SRow.mk (below_cell kb HS.g1) (below_cell kb HS.r)
        have hM := HM9.out.later kb
        have hrd := Rd.of_own (own_three w5 0 1000000000 1000000001)
        have hg5 : g < w5.heap.size := HM9.out.src.lt
        clear kb HM9
        have HM9 := Lib.hid hM; clear hM
        have HRD := Lib.hid hrd; clear hrd
        refine hK _ _ (fun _ => HS) ?_
        clear hK K
        refine stepX 4 (by kernel_rfl) rfl ?_
        intro K hK
        go_simp
        refine (HAM.out _ _ [0, 1000000000, 1000000001] _ HM9.out.src (by omega) HRD.out (by decide) (by decide) (fun b e => by simp [Value.ownBlock] at e; omega)).mono ?_
        rintro _ w6 ⟨y, rfl, hy, s6, q6⟩
        have hM6 := HM9.out.go q6 s6
        have HS := SRow.mk hM6.g2 hM6.g2
        clear hy HM9 HRD q6 s6
        refine hK _ _ (fun _ => HS) ?_
        clear hK K
        refine stepX 5 (by kernel_rfl) rfl ?_
        intro K hK
        go_simp
        refine hK _ _ (fun _ => HS) ?_
        clear hK K
        have hu1 := hM6.own.b
        have hu1 : w6.ownsRow (w1.heap.size + 1) 2 1 (.slice (some ⟨gb, 0, none⟩) 5 cb) 5 (ints bs) := by unfold OwnI at hu1; rwa [HSH.out.b5] at hu1
        have hfr := World.ownsRow.frozenAt hu1 1
        have hcx : ∃ q, w6.cell? ⟨gb, 1, none⟩ = some (.int .i64 q) := ⟨_, (World.ownsRow.cellAt hu1 1 (by omega)).trans (intsAt (show 1 < bs.length by rw [HSH.out.b5]; decide))⟩
        obtain ⟨q, hcx⟩ := hcx
        refine stepX 6 (by kernel_rfl) rfl ?_
        intro K hK
        go_simp
        refine hK _ _ (fun h => absurd h (by decide)) ?_
        clear hK K
        refine doneX (by kernel_rfl) ?_ _
        clear HS hfr hcx
        have hob : OwnI (w1.heap.size + 1) (w6.setCell ⟨gb, 1, none⟩ (.int .i64 y)) (.slice (some ⟨gb, 0, none⟩) 5 cb) (bs.set 1 y) := by
          unfold OwnI
          rw [List.length_set, HSH.out.b5, show ints (bs.set 1 y) = (ints bs).set 1 (.int .i64 y) by unfold ints; rw [List.map_set]]
          exact (World.ownsRow.stored hu1 1 _).1
        have how := hM6.own.base (Only.setCell (S := fun b => (Value.slice (some ⟨gb, 0, none⟩) 5 cb).ownBlock = some b) (Only.refl _ w6) (p := ⟨gb, 1, none⟩) rfl (.int .i64 y)) hob
        have hM10 := hM6.wrote (b := gb) (j := 1) (x := .int .i64 y) (own_lo hM6.own.b gb rfl) (hM6.own.bh gb rfl) how
        have hJ := hM10.meet (B := A + 1500) HNM.out HSH.out.z8 (by omega)
        have HJ := Lib.hid hJ; clear hJ
        clear hM6 hu1 hob how hM10
        go_wp2_with fail
        go_meet
        exact ⟨nm, _, _, _, _, zs, ws, _, rs, HJ.out⟩
      · have b1 : (r == 1) = false := beq_eq_false_iff_ne.2 r1
        by_cases r2 : r = 2
        · subst r2
          obtain ⟨hm, hqq | ⟨_, b', off', cap', hv', hnc, hcm, _, _⟩⟩ := Rd.of_own HM.out.own.s.row
          · rw [HSH.out.w5] at hqq; omega
          injection hv' with e1 e2 e3
          subst e3
          rw [HSH.out.w5] at hnc
          have hmx : (cw : Int) ≤ 9223372036854775807 := by unfold maxLen at hcm; omega
          have i2 : (5 : Int) ≤ (cw : Int) := by omega
          have i3 : ¬ (cw = 1) := by omega
          have i4 : ¬ (cw - 1 = 0) := by omega
          have g1 := HM.out.g1
          have gf := HM.out.gf 1
          have hJ := HM.out.cut2 (B := A + 1500) HSH.out.w5 HNM.out HSH.out.z8 (by omega)
          have HJ := Lib.hid hJ; clear hJ
          clear HM hm hcm e1 e2
          go_wp2_with fail
          go_meet
          exact ⟨nm, _, _, _, _, zs, _, bs, rs, HJ.out⟩
        · have b2 : (r == 2) = false := beq_eq_false_iff_ne.2 r2
          by_cases r3 : r = 3
          · subst r3
            have p0 := HM.out.p0
            clear p0
            go_wp2_with fail
            refine (HBT.out _ _ HM.out.src (by omega)).mono ?_
            rintro _ w5 ⟨nm2, rs2, u2, rfl, ou2, hnm2, hl2, s5, q5⟩
            have hM5 := HM.out.go q5 s5
            have p0 := hM5.p0
            have p1 := hM5.p1
            have pf0 := hM5.pf 0
            have pf1 := hM5.pf 1
            obtain ⟨au2, cu2, rfl⟩ := own_shape ou2
            have hJ := HM.out.bent HSH.out.z8 ou2 hnm2 (s5.mono (show A + 1100 + 2 + 200 ≤ A + 1500 by omega)) q5
            have HJ := Lib.hid hJ; clear hJ
            clear HM hM5 ou2 s5 q5
            go_wp2_with fail
            go_meet
            exact ⟨nm2, _, _, _, _, zs, ws, bs, rs2, HJ.out⟩
          · have b3 : (r == 3) = false := beq_eq_false_iff_ne.2 r3
            by_cases r4 : r = 4
            · subst r4
              generalize hnz : zs.length = nz at *
              have HNZ := Lib.hid hnz; clear hnz
              go_wp2_with fail
              go_loopw [6] (fun i wr => ∃ (z : Nat) (ws : List (List Int)), z ≤ nz ∧ i = .int .i64 z ∧ BSt w1.heap.size w3.heap.size g (A + 1100 + 2) nm (.slice au rs.length cu) rs (.slice (some ⟨gz, 0, none⟩) nz cz) (.slice (some ⟨gw, 0, none⟩) 5 cw) (.slice (some ⟨gb, 0, none⟩) 5 cb) us zs ws bs w wr ∧ MSh zs ws bs) (fun i _ => nz - (intOf i).toNat)
              case atStart => exact ⟨0, ws, Nat.zero_le _, rfl, HM.out, HSH.out⟩
              case round =>
                clear HM HSH ws
                obtain ⟨z, ws, hz, rfl, hM, hsh⟩ := hrel
                have hG0 := hM.g0
                by_cases hlz : z < nz
                · have hlzd : decide (z < nz) = true := decide_eq_true hlz
                  have hu0 := hM.own.s.own 0 (by rw [hsh.w5]; decide)
                  obtain ⟨gu, cu2, hu, hgu1, hgu2⟩ := World.ownsRow.form hu0 (by rw [hsh.rows 0 (by decide), HNZ.out]; omega)
                  have hgu3 : gu < w3.heap.size := hM.own.s.top 0 (by rw [hsh.w5]; decide) gu (by rw [hu]; rfl)
                  have hrow : wr.cell? ⟨gw, 0, none⟩ = some (us.getD 0 nv) := by
                    have h1 := hM.own.s.row
                    rw [hsh.w5] at h1
                    exact (World.ownsRow.cellAt h1 0 (by omega)).trans (getDv (by rw [hM.own.s.len, hsh.w5]; decide))
                  rw [hu, hsh.rows 0 (by decide), HNZ.out] at hrow
                  have hix := ix (P := Tryz.prog) (T := 43) (n := 5) (cap := cw) Tryz.underlying43 cells_SS has_SS (ao := some ⟨gw, 0, none⟩) (b := gw) (off := 0) (fun _ => rfl) (k := 0) (by omega) 0 rfl
                  have hix2 := ix (P := Tryz.prog) (T := 42) (n := nz) (cap := cu2) Tryz.underlying42 cells_int64 has_int64 (ao := some ⟨gu, 0, none⟩) (b := gu) (off := 0) (fun _ => rfl) (k := z) hlz _ rfl
                  rw [Nat.mul_one, Nat.zero_add] at hix hix2
                  have hu1 := hu0
                  rw [hu] at hu1
                  unfold OwnI at hu1
                  rw [hsh.rows 0 (by decide), HNZ.out] at hu1
                  have hfr := World.ownsRow.frozenAt hu1 z
                  have hcx : ∃ q, wr.cell? ⟨gu, z, none⟩ = some (.int .i64 q) := ⟨_, (World.ownsRow.cellAt hu1 z (by omega)).trans (intsAt (show z < (ws.getD 0 []).length by rw [hsh.rows 0 (by decide), HNZ.out]; exact hlz))⟩
                  obtain ⟨q, hcx⟩ := hcx
                  have how := hM.own.putW (k := 0) (z := z) (by rw [hsh.w5]; decide) hu 0
                  have hM10 := hM.wrote (b := gu) (j := z) (x := .int .i64 0) hgu1 hgu3 how
                  have hsh10 := hsh.putW (k := 0) (by decide) z 0
                  have hn8 : nz ≤ 8 := by have := hsh.z8; have := HNZ.out; omega
                  have hG1 := hM.g1
                  have HM10 := Lib.hid hM10; clear hM10
                  have HSH10 := Lib.hid hsh10; clear hsh10
                  clear hu0 hu1 how hM hsh hu
                  go_wp2
                  go_roundw
                  case rel => exact ⟨z + 1, _, by omega, by go_num, HM10.out, HSH10.out⟩
                  case measure => simp [intOf]; omega
                · obtain rfl : z = nz := by omega
                  have hlzd : decide (z < z) = false := decide_eq_false (by omega)
                  have hJ := hM.meet (B := A + 1500) HNM.out hsh.z8 (by omega)
                  have HJ := Lib.hid hJ; clear hJ
                  clear hM hsh
                  go_wp2_with fail
                  go_meet
                  exact ⟨nm, _, _, _, _, zs, ws, bs, rs, HJ.out⟩
            · have b4 : (r == 4) = false := beq_eq_false_iff_ne.2 r4
              by_cases r5 : r = 5
              · subst r5
                have HS : SRow w3.heap.size 0 w3.heap.size 0 (.slice (some ⟨gz, 0, none⟩) zs.length cz) (.slice (some ⟨gz, 0, none⟩) zs.length cz) w4.drew := ⟨below_cell (bdrew w4) HM.out.g0, below_cell (bdrew w4) HM.out.g0⟩
                have hM := HM.out.later (bdrew w4)
                have hix := ix (P := Tryz.prog) (T := 42) (n := zs.length) (cap := cz) Tryz.underlying42 cells_int64 has_int64 (ao := some ⟨gz, 0, none⟩) (b := gz) (off := 0) (fun _ => rfl) (k := 0) HSH.out.z1 0 rfl
                rw [Nat.mul_one, Nat.zero_add] at hix
                have hz1 := HSH.out.z1
                have HM9 := Lib.hid hM; clear hM
                clear HM
                go_wp2_with fail
                refine startX (SRow w3.heap.size 0 w3.heap.size 0 (.slice (some ⟨gz, 0, none⟩) zs.length cz) (.slice (some ⟨gz, 0, none⟩) zs.length cz)) [6] (by kernel_rfl) ?_
                generalize w4.drew = w5 at *
                refine takeX 0 58 (.pointer (some ⟨w3.heap.size, 0, none⟩)) rfl rfl (by kernel_rfl) (fun _ _ _ h => h) (by rfl) (fun _ _ => by (go_simp; done)) HS ?_
                simp only [List.setIfInBounds_toArray, List.set_cons_zero, List.set_cons_succ]
                refine takeX 1 59 (.slice (some ⟨gz, 0, none⟩) zs.length cz) rfl rfl (by kernel_rfl) (fun _ _ _ h => h) (by rfl) (fun w' hS => by (have q0 := hS.g1; clear hS HS; go_simp; done)) HS ?_
                simp only [List.setIfInBounds_toArray, List.set_cons_zero, List.set_cons_succ]
                refine takeX 2 60 (.pointer (some ⟨g, 0, none⟩)) rfl rfl (by kernel_rfl) (fun _ _ _ h => h) (by rfl) (fun _ _ => rfl) HS ?_
                simp only [List.setIfInBounds_toArray, List.set_cons_zero, List.set_cons_succ]
                refine stepX 3 (by kernel_rfl) rfl ?_
                intro K hK
                go_simp
                have kb : Below w5.heap.size w5 (w5.alloc (.cells #[.int .i64 1, .int .i64 (-1)] 2)) := (Below.refl _ _).alloc (Nat.le_refl _) _
                have HS := SRow.mk (below_cell kb HS.g1) (below_cell kb HS.r)
                have hM := HM9.out.later kb
                have hrd := Rd.of_own (own_two w5 1 (-1))
                have hg5 : g < w5.heap.size := HM9.out.src.lt
                clear kb HM9
                have HM9 := Lib.hid hM; clear hM
                have HRD := Lib.hid hrd; clear hrd
                refine hK _ _ (fun _ => HS) ?_
                clear hK K
                refine stepX 4 (by kernel_rfl) rfl ?_
                intro K hK
                go_simp
                refine (HAM.out _ _ [1, -1] _ HM9.out.src (by omega) HRD.out (by decide) (by decide) (fun b e => by simp [Value.ownBlock] at e; omega)).mono ?_
                rintro _ w6 ⟨y, rfl, hy, s6, q6⟩
                have hM6 := HM9.out.go q6 s6
                have HS := SRow.mk hM6.g0 hM6.g0
                clear hy HM9 HRD q6 s6
                refine hK _ _ (fun _ => HS) ?_
                clear hK K
                refine stepX 5 (by kernel_rfl) rfl ?_
                intro K hK
                go_simp
                refine hK _ _ (fun _ => HS) ?_
                clear hK K
                have hu1 : w6.ownsRow (w1.heap.size + 1) 2 1 (.slice (some ⟨gz, 0, none⟩) zs.length cz) zs.length (ints zs) := hM6.own.z
                have hfr := World.ownsRow.frozenAt hu1 0
                have hcx : ∃ q, w6.cell? ⟨gz, 0, none⟩ = some (.int .i64 q) := ⟨_, (World.ownsRow.cellAt hu1 0 (by omega)).trans (intsAt (show 0 < zs.length by omega))⟩
                obtain ⟨q, hcx⟩ := hcx
                refine stepX 6 (by kernel_rfl) rfl ?_
                intro K hK
                go_simp
                refine hK _ _ (fun h => absurd h (by decide)) ?_
                clear hK K
                refine doneX (by kernel_rfl) ?_ _
                clear HS hfr hcx
                have hob : OwnI (w1.heap.size + 1) (w6.setCell ⟨gz, 0, none⟩ (.int .i64 y)) (.slice (some ⟨gz, 0, none⟩) zs.length cz) (zs.set 0 y) := by
                  unfold OwnI
                  rw [List.length_set, show ints (zs.set 0 y) = (ints zs).set 0 (.int .i64 y) by unfold ints; rw [List.map_set]]
                  exact (World.ownsRow.stored hu1 0 _).1
                have how := hM6.own.zone (Only.setCell (S := fun b => (Value.slice (some ⟨gz, 0, none⟩) zs.length cz).ownBlock = some b) (Only.refl _ w6) (p := ⟨gz, 0, none⟩) rfl (.int .i64 y)) hob
                have hM10 := hM6.wrote (b := gz) (j := 0) (x := .int .i64 y) (own_lo hM6.own.z gz rfl) (hM6.own.zh gz rfl) how
                have hJ := hM10.meet (B := A + 1500) HNM.out (by rw [List.length_set]; exact HSH.out.z8) (by omega)
                have HJ := Lib.hid hJ; clear hJ
                clear hM6 hu1 hob how hM10
                go_wp2_with fail
                go_meet
                exact ⟨nm, _, _, _, _, _, ws, bs, rs, HJ.out⟩
              · have b5 : (r == 5) = false := beq_eq_false_iff_ne.2 r5
                have hJ := HM.out.meet (B := A + 1500) HNM.out HSH.out.z8 (by omega)
                have HJ := Lib.hid hJ; clear hJ
                clear HM
                go_wp2_with fail
                go_meet
                exact ⟨nm, _, _, _, _, zs, ws, bs, rs, HJ.out⟩
  case rest =>
    clear HM HSH HNM HPK HAM HBT H
    obtain ⟨nm', u', zv', wv', bv', zs', ws', bs', ps', hJ⟩ := hcut
    generalize wc = w5 at *
    have hR := hJ.z3.lt
    have h01 := hJ.kp w5 (Only.refl _ _)
    have hk1 := hJ.kp
    obtain ⟨_, a1, c1, _, _, rfl, _, _⟩ := h01.1.open
    obtain ⟨us', _, hru, _⟩ := h01.2.1
    obtain ⟨_, a2, c2, _, _, rfl, _, _⟩ := hru.open
    obtain ⟨_, a3, c3, _, _, rfl, _, _⟩ := h01.2.2.1.open
    obtain ⟨_, a4, c4, _, _, rfl, _, _⟩ := h01.2.2.2.open
    clear hru h01
    have bdj := Only.of_below (S := SBo g w.heap.size) (bdrew w5)
    have g0 := below_cell (bdrew w5) hJ.g0
    have g1 := below_cell (bdrew w5) hJ.g1
    have g2 := below_cell (bdrew w5) hJ.g2
    have p0 := below_cell (bdrew w5) hJ.p0
    have p1 := below_cell (bdrew w5) hJ.p1
    have z0 := below_cell (bdrew w5) hJ.z3.z0
    have z1 := below_cell (bdrew w5) hJ.z3.z1
    have z2 := below_cell (bdrew w5) hJ.z3.z2
    have zf := (hJ.z3.later (bdrew w5)).zf
    have y0 := below_cell (bdrew w5) hJ.y0
    have y1 := below_cell (bdrew w5) hJ.y1
    have hyl : w.heap.size + 1 < w5.heap.size := World.block_lt_of_cell? _ _ hJ.y0
    have yf : ∀ j, w5.drew.frozen? ⟨w.heap.size + 1, j, none⟩ = false := fun j => ((bdrew w5).frozen (p := ⟨w.heap.size + 1, j, none⟩) hyl).trans (hJ.yf j)
    have hsrc := hJ.src.later (bdrew w5)
    have honly := hJ.only.trans (Only.of_below (S := fun b => b = g) (bdrew w5))
    have hnml := hJ.nml
    have hz8 := hJ.z8
    unfold nv at z0 z1 z2 y1
    have HS : SEnd w3.heap.size w1.heap.size (.slice a1 zs'.length c1) (.slice a2 ws'.length c2) (.slice a3 bs'.length c3) nm' (.slice a4 ps'.length c4) w5.drew := ⟨g0, g1, g2, p0, p1⟩
    have key : ∀ (wq : World) (b j : Nat) (v : Value), w.heap.size ≤ b → SBo g w.heap.size b → Src (A + 1500) g wq → Only (fun b => b = g) w wq → Only (SBo g w.heap.size) w5 wq → Src (A + 1500) g (wq.setCell ⟨b, j, none⟩ v) ∧ Only (fun b => b = g) w (wq.setCell ⟨b, j, none⟩ v) ∧ Only (SBo g w.heap.size) w5 (wq.setCell ⟨b, j, none⟩ v) := fun wq b j v hb hS x1 x2 x3 =>
      ⟨x1.keep (Only.setCell (S := fun y => y = b) (Only.refl _ wq) (p := ⟨b, j, none⟩) rfl v) (fun y e => by omega), ⟨x2.os, x2.tape, x2.output, by simpa using x2.size, fun k hk hn => (Below.heap_setCell _ _ _ _ (by show k ≠ b; omega)).trans (x2.block k hk hn)⟩, x3.setCell (p := ⟨b, j, none⟩) hS v⟩
    have HK1 := Lib.hid hk1; clear hk1
    have HSRC := Lib.hid hsrc; clear hsrc
    have HONLY := Lib.hid honly; clear honly
    have KEY := Lib.hid key; clear key
    have BDJ := Lib.hid bdj; clear bdj
    clear hJ g0 g1 g2 p0 p1
    go_wp2_with fail
    refine startX (SEnd w3.heap.size w1.heap.size (.slice a1 zs'.length c1) (.slice a2 ws'.length c2) (.slice a3 bs'.length c3) nm' (.slice a4 ps'.length c4)) [] (by kernel_rfl) ?_
    generalize w5.drew = w6 at *
    refine takeX 0 64 (.agg #[.slice a1 zs'.length c1, .slice a2 ws'.length c2, .slice a3 bs'.length c3]) rfl rfl (by kernel_rfl) (fun _ _ _ h => h) (by rfl) (fun w' hS => by (have q0 := hS.g0; have q1 := hS.g1; have q2 := hS.g2; clear hS HS; go_simp; done)) HS ?_
    simp only [List.setIfInBounds_toArray, List.set_cons_zero, List.set_cons_succ]
    refine takeX 1 65 (.agg #[.string nm', .slice a4 ps'.length c4]) rfl rfl (by kernel_rfl) (fun _ _ _ h => h) (by rfl) (fun w' hS => by (have q0 := hS.p0; have q1 := hS.p1; clear hS HS; go_simp; done)) HS ?_
    simp only [List.setIfInBounds_toArray, List.set_cons_zero, List.set_cons_succ]
    have hon1 : ∀ x0 x1 x2 : Value, Only (fun b => b = w.heap.size) w6 (((w6.setCell ⟨w.heap.size, 0, none⟩ x0).setCell ⟨w.heap.size, 1, none⟩ x1).setCell ⟨w.heap.size, 2, none⟩ x2) := fun x0 x1 x2 => ((Only.setCell (S := fun b => b = w.heap.size) (Only.refl _ w6) (p := ⟨w.heap.size, 0, none⟩) rfl x0).setCell (p := ⟨w.heap.size, 1, none⟩) rfl x1).setCell (p := ⟨w.heap.size, 2, none⟩) rfl x2
    have hon2 : ∀ (wq : World) (x0 x1 : Value), Only (fun b => b = w.heap.size + 1) wq ((wq.setCell ⟨w.heap.size + 1, 0, none⟩ x0).setCell ⟨w.heap.size + 1, 1, none⟩ x1) := fun wq x0 x1 => (Only.setCell (S := fun b => b = w.heap.size + 1) (Only.refl _ wq) (p := ⟨w.heap.size + 1, 0, none⟩) rfl x0).setCell (p := ⟨w.heap.size + 1, 1, none⟩) rfl x1
    have mv : ∀ (wa wb : World) (b0 : Nat), b0 < w1.heap.size → b0 < w3.heap.size → Only (fun b => b = b0) wa wb → SEnd w3.heap.size w1.heap.size (.slice a1 zs'.length c1) (.slice a2 ws'.length c2) (.slice a3 bs'.length c3) nm' (.slice a4 ps'.length c4) wa → SEnd w3.heap.size w1.heap.size (.slice a1 zs'.length c1) (.slice a2 ws'.length c2) (.slice a3 bs'.length c3) nm' (.slice a4 ps'.length c4) wb := fun wa wb b0 hb1 hb2 hq h => ⟨cell_only hq h.g0 (by show ¬ w3.heap.size = b0; omega), cell_only hq h.g1 (by show ¬ w3.heap.size = b0; omega), cell_only hq h.g2 (by show ¬ w3.heap.size = b0; omega), cell_only hq h.p0 (by show ¬ w1.heap.size = b0; omega), cell_only hq h.p1 (by show ¬ w1.heap.size = b0; omega)⟩
    have HON1 := Lib.hid hon1; clear hon1
    have HON2 := Lib.hid hon2; clear hon2
    have MV := Lib.hid mv; clear mv
    refine stepX 2 (by kernel_rfl) rfl ?_
    intro K hK
    go_simp
    have HS := MV.out w6 (((w6.setCell ⟨w.heap.size, 0, none⟩ (.slice a1 zs'.length c1)).setCell ⟨w.heap.size, 1, none⟩ (.slice a2 ws'.length c2)).setCell ⟨w.heap.size, 2, none⟩ (.slice a3 bs'.length c3)) w.heap.size (by omega) (by omega) (HON1.out _ _ _) HS
    refine hK _ _ (fun _ => HS) ?_
    clear hK K
    refine stepX 3 (by kernel_rfl) rfl ?_
    intro K hK
    go_simp
    have HS := MV.out (((w6.setCell ⟨w.heap.size, 0, none⟩ (.slice a1 zs'.length c1)).setCell ⟨w.heap.size, 1, none⟩ (.slice a2 ws'.length c2)).setCell ⟨w.heap.size, 2, none⟩ (.slice a3 bs'.length c3)) (((((w6.setCell ⟨w.heap.size, 0, none⟩ (.slice a1 zs'.length c1)).setCell ⟨w.heap.size, 1, none⟩ (.slice a2 ws'.length c2)).setCell ⟨w.heap.size, 2, none⟩ (.slice a3 bs'.length c3)).setCell ⟨w.heap.size + 1, 0, none⟩ (.string nm')).setCell ⟨w.heap.size + 1, 1, none⟩ (.slice a4 ps'.length c4)) (w.heap.size + 1) (by omega) (by omega) (HON2.out _ _ _) HS
    refine hK _ _ (fun _ => HS) ?_
    clear hK K
    refine doneX (by kernel_rfl) ?_ _
    clear HS
    go_wp2
    refine bodyPost_ret (v := .tuple #[.agg #[.slice a1 zs'.length c1, .slice a2 ws'.length c2, .slice a3 bs'.length c3], .agg #[.string nm', .slice a4 ps'.length c4]]) (by simp [results, Tryz.results62, go_sem, cell_setCell, z0, z1, z2, y0, y1]) rfl ?_
    have s0 : SBo g w.heap.size w.heap.size := by unfold SBo; omega
    have s1 : SBo g w.heap.size (w.heap.size + 1) := by unfold SBo; omega
    have e1 := KEY.out w6 w.heap.size 0 (.slice a1 zs'.length c1) (Nat.le_refl _) s0 HSRC.out HONLY.out BDJ.out
    have e2 := KEY.out _ w.heap.size 1 (.slice a2 ws'.length c2) (Nat.le_refl _) s0 e1.1 e1.2.1 e1.2.2
    have e3 := KEY.out _ w.heap.size 2 (.slice a3 bs'.length c3) (Nat.le_refl _) s0 e2.1 e2.2.1 e2.2.2
    have e4 := KEY.out _ (w.heap.size + 1) 0 (.string nm') (by omega) s1 e3.1 e3.2.1 e3.2.2
    have e5 := KEY.out _ (w.heap.size + 1) 1 (.slice a4 ps'.length c4) (by omega) s1 e4.1 e4.2.1 e4.2.2
    exact ⟨_, _, _, _, zs', ws', bs', nm', ps', rfl, fun w2 hq => HK1.out w2 (e5.2.2.trans (hq.mono (fun b e => by unfold SBo; omega))), hnml, hz8, e5.1, e5.2.1⟩

end Go.Proofs.YtgdadbmhdljcdaaGreatDoor

/- What Sensitivity is asked for is drawn. -/
namespace Go.Proofs.YtgdadbmhdljcdaaGreatDoor
set_option linter.unusedVariables false
open Go.RowKit Go.Proofs.Bell Go.BigFrame

def RetDs (w : World) (e : Ending) (w' : World) : Prop := ∃ (zv wv bv u : Value) (zs : List Int) (ws : List (List Int)) (bs : List Int) (nm : ByteArray) (ps : List (Int × Int × Int)) (zone : Int), e = .returned (.tuple #[.agg #[zv, wv, bv], .agg #[.string nm, u], .int .i64 zone]) ∧ Rd w' zv zs.length (ints zs) ∧ RdSS w' wv ws ∧ Rd w' bv bs.length (ints bs) ∧ Rd w' u ps.length (trips ps) ∧ nm.size ≤ maxLen ∧ zs.length ≤ 8 ∧ Below w.heap.size w w'

end Go.Proofs.YtgdadbmhdljcdaaGreatDoor

/- A sound is drawn, seldom not valid. -/
namespace Go.Proofs.YtgdadbmhdljcdaaGreatDoor
set_option linter.unusedVariables false
open Go.RowKit Go.Proofs.Bell Go.BigFrame

structure S5 (G : Nat) (a b c d f : Int) (w' : World) : Prop where
  g0 : w'.cell? ⟨G, 0, none⟩ = some (.int .i64 a)
  g1 : w'.cell? ⟨G, 1, none⟩ = some (.int .i64 b)
  g2 : w'.cell? ⟨G, 2, none⟩ = some (.int .i64 c)
  g3 : w'.cell? ⟨G, 3, none⟩ = some (.int .i64 d)
  g4 : w'.cell? ⟨G, 4, none⟩ = some (.int .i64 f)
  gf : ∀ j, w'.frozen? ⟨G, j, none⟩ = false
theorem S5.lt {G : Nat} {a b c d f : Int} {w : World} (h : S5 G a b c d f w) : G < w.heap.size := World.block_lt_of_cell? _ _ h.g0
theorem S5.only {S : Nat → Prop} {G : Nat} {a b c d f : Int} {w w' : World} (h : S5 G a b c d f w) (ho : Only S w w') (hn : ¬ S G) : S5 G a b c d f w' :=
  ⟨cell_only ho h.g0 hn, cell_only ho h.g1 hn, cell_only ho h.g2 hn, cell_only ho h.g3 hn, cell_only ho h.g4 hn, fun j => (frozen_only ho (p := ⟨G, j, none⟩) h.lt hn).trans (h.gf j)⟩
theorem S5.later {G : Nat} {a b c d f : Int} {w w' : World} (h : S5 G a b c d f w) (hb : Below w.heap.size w w') : S5 G a b c d f w' := h.only (Only.of_below (S := fun b => w.heap.size ≤ b) hb) (by have := h.lt; omega)

def RetSe (A g : Nat) (w : World) (e : Ending) (w' : World) : Prop := ∃ a b c d f : Int, e = .returned (.agg #[.int .i64 a, .int .i64 b, .int .i64 c, .int .i64 d, .int .i64 f]) ∧ Src A g w' ∧ Only (fun b => b = g) w w'

set_option maxRecDepth 100000 in
set_option maxHeartbeats 6400000 in
theorem l04Draw_c (A g : Nat) (w : World) (h : Src A g w) (hA : A ≤ 100000000) : Calls Tryz.prog 63 #[.pointer (some ⟨g, 0, none⟩)] w (RetSe (A + 40) g w) := by
  have hgw := h.lt
  have hdo := fun w' (hx : Src A g w') => l04DrawOk_c A g w' hx (by omega)
  have hpk := fun A' w' (hx : Src A' g w') (hA' : A' ≤ 100000000000) => pick_c A' g 18 w' hx hA' (by omega) (by omega)
  have ham := fun A' b a0 a1 a2 w' (hx : Src A' g w') (hA' : A' ≤ 100000000000) hne c0 c1 c2 => among3_c A' g b a0 a1 a2 w' hx hA' hne c0 c1 c2
  have key : ∀ (wq : World) (B j : Nat) v, w.heap.size ≤ B → Src (A + 40) g wq → Only (fun b => b = g) w wq → Src (A + 40) g (wq.setCell ⟨B, j, none⟩ v) ∧ Only (fun b => b = g) w (wq.setCell ⟨B, j, none⟩ v) := fun wq B j v hB h1 h2 =>
    ⟨h1.keep ((Only.refl (fun b => b = B) wq).setCell (p := ⟨B, j, none⟩) rfl v) (fun b e => by omega), h2.os, h2.tape, h2.output, by simpa using h2.size, fun k hk hn => (Below.heap_setCell _ _ _ _ (by show k ≠ B; omega)).trans (h2.block k hk hn)⟩
  have key5 : ∀ (wq : World) (B : Nat) v0 v1 v2 v3 v4, w.heap.size ≤ B → Src (A + 40) g wq → Only (fun b => b = g) w wq → Src (A + 40) g (((((wq.setCell ⟨B, 0, none⟩ v0).setCell ⟨B, 1, none⟩ v1).setCell ⟨B, 2, none⟩ v2).setCell ⟨B, 3, none⟩ v3).setCell ⟨B, 4, none⟩ v4) ∧ Only (fun b => b = g) w (((((wq.setCell ⟨B, 0, none⟩ v0).setCell ⟨B, 1, none⟩ v1).setCell ⟨B, 2, none⟩ v2).setCell ⟨B, 3, none⟩ v3).setCell ⟨B, 4, none⟩ v4) := fun wq B v0 v1 v2 v3 v4 hB h1 h2 => by
    have e1 := key wq B 0 v0 hB h1 h2
    have e2 := key _ B 1 v1 hB e1.1 e1.2
    have e3 := key _ B 2 v2 hB e2.1 e2.2
    have e4 := key _ B 3 v3 hB e3.1 e3.2
    exact key _ B 4 v4 hB e4.1 e4.2
  have HDO := Lib.hid hdo; clear hdo
  have HPK := Lib.hid hpk; clear hpk
  have HAM := Lib.hid ham; clear ham
  have KEY := Lib.hid key; clear key
  have KEY5 := Lib.hid key5; clear key5
  have H := Lib.hid h; clear h
  go_enter Tryz.func63, Tryz.ntmps63
  go_wp2_with fail
  have kb : Below w.heap.size w (w.alloc (.cells #[.int .i64 0, .int .i64 0, .int .i64 0, .int .i64 0, .int .i64 0] 47)) := (Below.refl _ _).alloc (Nat.le_refl _) _
  have hs0 := H.out.later kb
  have hZ : Z5 w.heap.size (w.alloc (.cells #[.int .i64 0, .int .i64 0, .int .i64 0, .int .i64 0, .int .i64 0] 47)) := ⟨by simp [go_sem], by simp [go_sem], by simp [go_sem], by simp [go_sem], by simp [go_sem], fun j => by simp [go_sem]⟩
  have ho : Only (fun b => b = g) w (w.alloc (.cells #[.int .i64 0, .int .i64 0, .int .i64 0, .int .i64 0, .int .i64 0] 47)) := Only.of_below kb
  have sz0 : (w.alloc (.cells #[.int .i64 0, .int .i64 0, .int .i64 0, .int .i64 0, .int .i64 0] 47)).heap.size = w.heap.size + 1 := by simp
  generalize w.alloc (.cells #[.int .i64 0, .int .i64 0, .int .i64 0, .int .i64 0, .int .i64 0] 47) = w0 at *
  refine (HDO.out _ hs0).mono ?_
  rintro _ w1 ⟨a, b, c, d, f, rfl, _, s1, q1⟩
  have ho := ho.trans q1
  have hZ := hZ.only q1 (by omega)
  have sz1 := q1.size
  clear q1 hs0 kb
  have kb : Below w1.heap.size w1 (w1.alloc (.cells #[.int .i64 a, .int .i64 b, .int .i64 c, .int .i64 d, .int .i64 f] 47)) := (Below.refl _ _).alloc (Nat.le_refl _) _
  have s2 := s1.later kb
  have ho := ho.trans (Only.of_below kb)
  have hZ := hZ.later kb
  have hG : S5 w1.heap.size a b c d f (w1.alloc (.cells #[.int .i64 a, .int .i64 b, .int .i64 c, .int .i64 d, .int .i64 f] 47)) := ⟨by simp [go_sem], by simp [go_sem], by simp [go_sem], by simp [go_sem], by simp [go_sem], fun j => by simp [go_sem]⟩
  have sz2 := kb.size
  clear kb s1
  have S2 := Lib.hid s2; clear s2
  have HO := Lib.hid ho; clear ho
  have HZ := Lib.hid hZ; clear hZ
  have HG := Lib.hid hG; clear hG
  go_wp2_with fail
  generalize w1.alloc (.cells #[.int .i64 a, .int .i64 b, .int .i64 c, .int .i64 d, .int .i64 f] 47) = w2 at *
  refine (HPK.out _ _ S2.out (by omega)).mono ?_
  rintro _ w3 ⟨r, rfl, l3, u3, s3, q3⟩
  have nG : ¬ w1.heap.size = g := by omega
  have nR : ¬ w.heap.size = g := by omega
  have hG := HG.out.only q3 nG
  have hZ := HZ.out.only q3 nR
  have ho := HO.out.trans q3
  have sz3 := q3.size
  have hGl := hG.lt
  clear HG HZ HO S2 q3
  by_cases e0 : r = 0
  · subst e0
    have kb : Below w3.heap.size w3 (w3.alloc (.cells #[.int .i64 10000, .int .i64 9999, .int .i64 0] 2)) := (Below.refl _ _).alloc (Nat.le_refl _) _
    have s4 := s3.later kb
    have hG := hG.later kb
    have hZ := hZ.later kb
    have ho := ho.trans (Only.of_below kb)
    have ha := HAM.out (A + 24 + 2) w3.heap.size 10000 9999 0 _ s4 (by omega) (by omega) (by simp [go_sem]) (by simp [go_sem]) (by simp [go_sem])
    have HA := Lib.hid ha; clear ha
    have HG := Lib.hid hG; clear hG
    have HZ := Lib.hid hZ; clear hZ
    have HO := Lib.hid ho; clear ho
    clear kb s3 s4
    go_wp2_with fail
    generalize w3.alloc (.cells #[.int .i64 10000, .int .i64 9999, .int .i64 0] 2) = w4 at *
    refine HA.out.mono ?_
    rintro _ w5 ⟨y, rfl, _, s5, q5⟩
    have hG := HG.out.only q5 nG
    have hZ := HZ.out.only q5 nR
    have ho := HO.out.trans q5
    obtain ⟨g0, g1, g2, g3, g4, gf⟩ := hG
    obtain ⟨z0, z1, z2, z3, z4, zf⟩ := hZ
    have hs9 := s5.mono (show A + 24 + 2 + 2 ≤ A + 40 by omega)
    clear HG HZ HO s5 q5 HA
    have k1 := KEY.out w5 w1.heap.size 0 (.int .i64 y) (by omega) hs9 ho
    have h0 : (w5.setCell ⟨w1.heap.size, 0, none⟩ (.int .i64 y)).cell? ⟨w1.heap.size, 0, none⟩ = some (.int .i64 y) := World.cell?_setCell_same _ _ _ g0
    have h1 : (w5.setCell ⟨w1.heap.size, 0, none⟩ (.int .i64 y)).cell? ⟨w1.heap.size, 1, none⟩ = some (.int .i64 b) := by rw [World.cell?_setCell_other _ _ _ _ (by simp)]; exact g1
    have h2 : (w5.setCell ⟨w1.heap.size, 0, none⟩ (.int .i64 y)).cell? ⟨w1.heap.size, 2, none⟩ = some (.int .i64 c) := by rw [World.cell?_setCell_other _ _ _ _ (by simp)]; exact g2
    have h3 : (w5.setCell ⟨w1.heap.size, 0, none⟩ (.int .i64 y)).cell? ⟨w1.heap.size, 3, none⟩ = some (.int .i64 d) := by rw [World.cell?_setCell_other _ _ _ _ (by simp)]; exact g3
    have h4 : (w5.setCell ⟨w1.heap.size, 0, none⟩ (.int .i64 y)).cell? ⟨w1.heap.size, 4, none⟩ = some (.int .i64 f) := by rw [World.cell?_setCell_other _ _ _ _ (by simp)]; exact g4
    have nGR : ¬ w.heap.size = w1.heap.size := by omega
    have y0 : (w5.setCell ⟨w1.heap.size, 0, none⟩ (.int .i64 y)).cell? ⟨w.heap.size, 0, none⟩ = some (.int .i64 0) := by rw [World.cell?_setCell_other _ _ _ _ (by simp [nGR])]; exact z0
    have y1 : (w5.setCell ⟨w1.heap.size, 0, none⟩ (.int .i64 y)).cell? ⟨w.heap.size, 1, none⟩ = some (.int .i64 0) := by rw [World.cell?_setCell_other _ _ _ _ (by simp [nGR])]; exact z1
    have y2 : (w5.setCell ⟨w1.heap.size, 0, none⟩ (.int .i64 y)).cell? ⟨w.heap.size, 2, none⟩ = some (.int .i64 0) := by rw [World.cell?_setCell_other _ _ _ _ (by simp [nGR])]; exact z2
    have y3 : (w5.setCell ⟨w1.heap.size, 0, none⟩ (.int .i64 y)).cell? ⟨w.heap.size, 3, none⟩ = some (.int .i64 0) := by rw [World.cell?_setCell_other _ _ _ _ (by simp [nGR])]; exact z3
    have y4 : (w5.setCell ⟨w1.heap.size, 0, none⟩ (.int .i64 y)).cell? ⟨w.heap.size, 4, none⟩ = some (.int .i64 0) := by rw [World.cell?_setCell_other _ _ _ _ (by simp [nGR])]; exact z4
    have k2 := KEY5.out _ w.heap.size (.int .i64 y) (.int .i64 b) (.int .i64 c) (.int .i64 d) (.int .i64 f) (Nat.le_refl _) k1.1 k1.2
    have K2 := Lib.hid k2; clear k2
    clear k1 hs9 ho
    go_wp2
    refine bodyPost_ret (v := .agg #[.int .i64 y, .int .i64 b, .int .i64 c, .int .i64 d, .int .i64 f]) (by simp [results, Tryz.results63, go_sem, cell_setCell, y0, y1, y2, y3, y4]) rfl ?_
    exact ⟨_, _, _, _, _, rfl, K2.out.1, K2.out.2⟩
  · have t0 : (r == 0) = false := by simpa using e0
    by_cases e1 : r = 1
    · subst e1
      obtain ⟨g0, g1, g2, g3, g4, gf⟩ := hG
      have hG : S5 w1.heap.size a b c d f w3 := ⟨g0, g1, g2, g3, g4, gf⟩
      have kb : Below w3.heap.size w3 (w3.alloc (.cells #[.int .i64 20000000, .int .i64 20000001, .int .i64 d] 2)) := (Below.refl _ _).alloc (Nat.le_refl _) _
      have s4 := s3.later kb
      have hG := hG.later kb
      have hZ := hZ.later kb
      have ho := ho.trans (Only.of_below kb)
      have ha := HAM.out (A + 24 + 2) w3.heap.size 20000000 20000001 d _ s4 (by omega) (by omega) (by simp [go_sem]) (by simp [go_sem]) (by simp [go_sem])
      have HA := Lib.hid ha; clear ha
      have HG := Lib.hid hG; clear hG
      have HZ := Lib.hid hZ; clear hZ
      have HO := Lib.hid ho; clear ho
      clear kb s3 s4
      go_wp2_with fail
      generalize w3.alloc (.cells #[.int .i64 20000000, .int .i64 20000001, .int .i64 d] 2) = w4 at *
      refine HA.out.mono ?_
      rintro _ w5 ⟨y, rfl, _, s5, q5⟩
      have hG := HG.out.only q5 nG
      have hZ := HZ.out.only q5 nR
      have ho := HO.out.trans q5
      clear g0 g1 g2 g3 g4 gf
      obtain ⟨g0, g1, g2, g3, g4, gf⟩ := hG
      obtain ⟨z0, z1, z2, z3, z4, zf⟩ := hZ
      have hs9 := s5.mono (show A + 24 + 2 + 2 ≤ A + 40 by omega)
      clear HG HZ HO s5 q5 HA
      have k1 := KEY.out w5 w1.heap.size 4 (.int .i64 y) (by omega) hs9 ho
      have h0 : (w5.setCell ⟨w1.heap.size, 4, none⟩ (.int .i64 y)).cell? ⟨w1.heap.size, 0, none⟩ = some (.int .i64 a) := by rw [World.cell?_setCell_other _ _ _ _ (by simp)]; exact g0
      have h1 : (w5.setCell ⟨w1.heap.size, 4, none⟩ (.int .i64 y)).cell? ⟨w1.heap.size, 1, none⟩ = some (.int .i64 b) := by rw [World.cell?_setCell_other _ _ _ _ (by simp)]; exact g1
      have h2 : (w5.setCell ⟨w1.heap.size, 4, none⟩ (.int .i64 y)).cell? ⟨w1.heap.size, 2, none⟩ = some (.int .i64 c) := by rw [World.cell?_setCell_other _ _ _ _ (by simp)]; exact g2
      have h3 : (w5.setCell ⟨w1.heap.size, 4, none⟩ (.int .i64 y)).cell? ⟨w1.heap.size, 3, none⟩ = some (.int .i64 d) := by rw [World.cell?_setCell_other _ _ _ _ (by simp)]; exact g3
      have h4 : (w5.setCell ⟨w1.heap.size, 4, none⟩ (.int .i64 y)).cell? ⟨w1.heap.size, 4, none⟩ = some (.int .i64 y) := World.cell?_setCell_same _ _ _ g4
      have nGR : ¬ w.heap.size = w1.heap.size := by omega
      have y0 : (w5.setCell ⟨w1.heap.size, 4, none⟩ (.int .i64 y)).cell? ⟨w.heap.size, 0, none⟩ = some (.int .i64 0) := by rw [World.cell?_setCell_other _ _ _ _ (by simp [nGR])]; exact z0
      have y1 : (w5.setCell ⟨w1.heap.size, 4, none⟩ (.int .i64 y)).cell? ⟨w.heap.size, 1, none⟩ = some (.int .i64 0) := by rw [World.cell?_setCell_other _ _ _ _ (by simp [nGR])]; exact z1
      have y2 : (w5.setCell ⟨w1.heap.size, 4, none⟩ (.int .i64 y)).cell? ⟨w.heap.size, 2, none⟩ = some (.int .i64 0) := by rw [World.cell?_setCell_other _ _ _ _ (by simp [nGR])]; exact z2
      have y3 : (w5.setCell ⟨w1.heap.size, 4, none⟩ (.int .i64 y)).cell? ⟨w.heap.size, 3, none⟩ = some (.int .i64 0) := by rw [World.cell?_setCell_other _ _ _ _ (by simp [nGR])]; exact z3
      have y4 : (w5.setCell ⟨w1.heap.size, 4, none⟩ (.int .i64 y)).cell? ⟨w.heap.size, 4, none⟩ = some (.int .i64 0) := by rw [World.cell?_setCell_other _ _ _ _ (by simp [nGR])]; exact z4
      have k2 := KEY5.out _ w.heap.size (.int .i64 a) (.int .i64 b) (.int .i64 c) (.int .i64 d) (.int .i64 y) (Nat.le_refl _) k1.1 k1.2
      have K2 := Lib.hid k2; clear k2
      clear k1 hs9 ho
      go_wp2
      refine bodyPost_ret (v := .agg #[.int .i64 a, .int .i64 b, .int .i64 c, .int .i64 d, .int .i64 y]) (by simp [results, Tryz.results63, go_sem, cell_setCell, y0, y1, y2, y3, y4]) rfl ?_
      exact ⟨_, _, _, _, _, rfl, K2.out.1, K2.out.2⟩
    · have t1 : (r == 1) = false := by simpa using e1
      have hs9 := s3.mono (show A + 24 + 2 ≤ A + 40 by omega)
      obtain ⟨g0, g1, g2, g3, g4, gf⟩ := hG
      obtain ⟨z0, z1, z2, z3, z4, zf⟩ := hZ
      by_cases e2 : r = 2
      · subst e2
        have k1 := KEY.out w3 w1.heap.size 2 (.int .i64 b) (by omega) hs9 ho
        have h0 : (w3.setCell ⟨w1.heap.size, 2, none⟩ (.int .i64 b)).cell? ⟨w1.heap.size, 0, none⟩ = some (.int .i64 a) := by rw [World.cell?_setCell_other _ _ _ _ (by simp)]; exact g0
        have h1 : (w3.setCell ⟨w1.heap.size, 2, none⟩ (.int .i64 b)).cell? ⟨w1.heap.size, 1, none⟩ = some (.int .i64 b) := by rw [World.cell?_setCell_other _ _ _ _ (by simp)]; exact g1
        have h2 : (w3.setCell ⟨w1.heap.size, 2, none⟩ (.int .i64 b)).cell? ⟨w1.heap.size, 2, none⟩ = some (.int .i64 b) := World.cell?_setCell_same _ _ _ g2
        have h3 : (w3.setCell ⟨w1.heap.size, 2, none⟩ (.int .i64 b)).cell? ⟨w1.heap.size, 3, none⟩ = some (.int .i64 d) := by rw [World.cell?_setCell_other _ _ _ _ (by simp)]; exact g3
        have h4 : (w3.setCell ⟨w1.heap.size, 2, none⟩ (.int .i64 b)).cell? ⟨w1.heap.size, 4, none⟩ = some (.int .i64 f) := by rw [World.cell?_setCell_other _ _ _ _ (by simp)]; exact g4
        have nGR : ¬ w.heap.size = w1.heap.size := by omega
        have y0 : (w3.setCell ⟨w1.heap.size, 2, none⟩ (.int .i64 b)).cell? ⟨w.heap.size, 0, none⟩ = some (.int .i64 0) := by rw [World.cell?_setCell_other _ _ _ _ (by simp [nGR])]; exact z0
        have y1 : (w3.setCell ⟨w1.heap.size, 2, none⟩ (.int .i64 b)).cell? ⟨w.heap.size, 1, none⟩ = some (.int .i64 0) := by rw [World.cell?_setCell_other _ _ _ _ (by simp [nGR])]; exact z1
        have y2 : (w3.setCell ⟨w1.heap.size, 2, none⟩ (.int .i64 b)).cell? ⟨w.heap.size, 2, none⟩ = some (.int .i64 0) := by rw [World.cell?_setCell_other _ _ _ _ (by simp [nGR])]; exact z2
        have y3 : (w3.setCell ⟨w1.heap.size, 2, none⟩ (.int .i64 b)).cell? ⟨w.heap.size, 3, none⟩ = some (.int .i64 0) := by rw [World.cell?_setCell_other _ _ _ _ (by simp [nGR])]; exact z3
        have y4 : (w3.setCell ⟨w1.heap.size, 2, none⟩ (.int .i64 b)).cell? ⟨w.heap.size, 4, none⟩ = some (.int .i64 0) := by rw [World.cell?_setCell_other _ _ _ _ (by simp [nGR])]; exact z4
        have k2 := KEY5.out _ w.heap.size (.int .i64 a) (.int .i64 b) (.int .i64 b) (.int .i64 d) (.int .i64 f) (Nat.le_refl _) k1.1 k1.2
        have K2 := Lib.hid k2; clear k2
        clear k1 hs9 ho
        go_wp2
        refine bodyPost_ret (v := .agg #[.int .i64 a, .int .i64 b, .int .i64 b, .int .i64 d, .int .i64 f]) (by simp [results, Tryz.results63, go_sem, cell_setCell, y0, y1, y2, y3, y4]) rfl ?_
        exact ⟨_, _, _, _, _, rfl, K2.out.1, K2.out.2⟩
      · have t2 : (r == 2) = false := by simpa using e2
        have k1 := And.intro hs9 ho
        have y0 := z0
        have y1 := z1
        have y2 := z2
        have y3 := z3
        have y4 := z4
        have k2 := KEY5.out _ w.heap.size (.int .i64 a) (.int .i64 b) (.int .i64 c) (.int .i64 d) (.int .i64 f) (Nat.le_refl _) k1.1 k1.2
        have K2 := Lib.hid k2; clear k2
        clear k1 hs9 ho
        go_wp2
        refine bodyPost_ret (v := .agg #[.int .i64 a, .int .i64 b, .int .i64 c, .int .i64 d, .int .i64 f]) (by simp [results, Tryz.results63, go_sem, cell_setCell, y0, y1, y2, y3, y4]) rfl ?_
        exact ⟨_, _, _, _, _, rfl, K2.out.1, K2.out.2⟩

end Go.Proofs.YtgdadbmhdljcdaaGreatDoor

/- What FitBase is asked for is drawn. -/
namespace Go.Proofs.YtgdadbmhdljcdaaGreatDoor
set_option linter.unusedVariables false
open Go.RowKit Go.Proofs.Bell Go.BigFrame

def RetDf (w : World) (e : Ending) (w' : World) : Prop := ∃ (zv wv bv u : Value) (zs : List Int) (ws : List (List Int)) (bs : List Int) (nm : ByteArray) (ps : List (Int × Int × Int)) (sa sb sc sd se : Int), e = .returned (.tuple #[.agg #[zv, wv, bv], .agg #[.string nm, u], .agg #[.int .i64 sa, .int .i64 sb, .int .i64 sc, .int .i64 sd, .int .i64 se]]) ∧ Rd w' zv zs.length (ints zs) ∧ RdSS w' wv ws ∧ Rd w' bv bs.length (ints bs) ∧ Rd w' u ps.length (trips ps) ∧ nm.size ≤ maxLen ∧ zs.length ≤ 8 ∧ Below w.heap.size w w'

set_option maxRecDepth 100000 in
set_option maxHeartbeats 6400000 in
theorem DrawFitBase_c (v : Value) (cs : List Int) (w : World) (h : Rd w v cs.length (bytesV cs)) (hz : ∀ z ∈ cs, Byte z) (hl : cs.length ≤ 1048576) : Calls Tryz.prog 21 #[v] w (RetDf w) := by
  have kb0 : Below w.heap.size w (((w.alloc (.cells #[.slice none 0 0, .slice none 0 0, .slice none 0 0] 45)).alloc (.cells #[.string ⟨#[]⟩, .slice none 0 0] 26)).alloc (.cells #[.int .i64 0, .int .i64 0, .int .i64 0, .int .i64 0, .int .i64 0] 47)) := by go_grown
  have hs0 := fun t => src_new v cs _ (h.later kb0) hz hl t
  obtain ⟨hn, ao, cap, b, off, rfl, hao, hcell⟩ := h.open
  have hdb := fun w' g (hx : Src 0 g w') => l08DrawBoth_c 0 g w' hx (by omega)
  have hdr := fun w' g (hx : Src 1500 g w') => l04Draw_c 1500 g w' hx (by omega)
  have HDB := Lib.hid hdb; clear hdb
  have HDR := Lib.hid hdr; clear hdr
  clear hao hcell h hz
  generalize cs.length = n at *
  have hfr := fun w' => from_c ao n cap w'
  have HFR := Lib.hid hfr; clear hfr
  go_enter Tryz.func21, Tryz.ntmps21
  go_wp2_with fail
  have hZ : Z3 w.heap.size (((w.alloc (.cells #[.slice none 0 0, .slice none 0 0, .slice none 0 0] 45)).alloc (.cells #[.string ⟨#[]⟩, .slice none 0 0] 26)).alloc (.cells #[.int .i64 0, .int .i64 0, .int .i64 0, .int .i64 0, .int .i64 0] 47)) := ⟨by simp [go_sem, nv], by simp [go_sem, nv], by simp [go_sem, nv], fun j => by simp [go_sem]⟩
  have hS5 : Z5 (w.heap.size + 2) (((w.alloc (.cells #[.slice none 0 0, .slice none 0 0, .slice none 0 0] 45)).alloc (.cells #[.string ⟨#[]⟩, .slice none 0 0] 26)).alloc (.cells #[.int .i64 0, .int .i64 0, .int .i64 0, .int .i64 0, .int .i64 0] 47)) := ⟨by simp [go_sem], by simp [go_sem], by simp [go_sem], by simp [go_sem], by simp [go_sem], fun j => by simp [go_sem]⟩
  have y0 : (((w.alloc (.cells #[.slice none 0 0, .slice none 0 0, .slice none 0 0] 45)).alloc (.cells #[.string ⟨#[]⟩, .slice none 0 0] 26)).alloc (.cells #[.int .i64 0, .int .i64 0, .int .i64 0, .int .i64 0, .int .i64 0] 47)).cell? ⟨w.heap.size + 1, 0, none⟩ = some (.string ⟨#[]⟩) := by simp [go_sem]
  have y1 : (((w.alloc (.cells #[.slice none 0 0, .slice none 0 0, .slice none 0 0] 45)).alloc (.cells #[.string ⟨#[]⟩, .slice none 0 0] 26)).alloc (.cells #[.int .i64 0, .int .i64 0, .int .i64 0, .int .i64 0, .int .i64 0] 47)).cell? ⟨w.heap.size + 1, 1, none⟩ = some nv := by simp [go_sem, nv]
  have yf : ∀ j, (((w.alloc (.cells #[.slice none 0 0, .slice none 0 0, .slice none 0 0] 45)).alloc (.cells #[.string ⟨#[]⟩, .slice none 0 0] 26)).alloc (.cells #[.int .i64 0, .int .i64 0, .int .i64 0, .int .i64 0, .int .i64 0] 47)).frozen? ⟨w.heap.size + 1, j, none⟩ = false := fun j => by simp [go_sem]
  have hsz : (((w.alloc (.cells #[.slice none 0 0, .slice none 0 0, .slice none 0 0] 45)).alloc (.cells #[.string ⟨#[]⟩, .slice none 0 0] 26)).alloc (.cells #[.int .i64 0, .int .i64 0, .int .i64 0, .int .i64 0, .int .i64 0] 47)).heap.size = w.heap.size + 3 := by simp
  generalize ((w.alloc (.cells #[.slice none 0 0, .slice none 0 0, .slice none 0 0] 45)).alloc (.cells #[.string ⟨#[]⟩, .slice none 0 0] 26)).alloc (.cells #[.int .i64 0, .int .i64 0, .int .i64 0, .int .i64 0, .int .i64 0] 47) = w0 at *
  refine (HFR.out _).mono ?_
  rintro _ _ ⟨rfl, rfl⟩
  have kb : Below w0.heap.size w0 (w0.alloc (.cells #[.slice ao n cap, .int .i64 0, .int .u64 0] 138)) := (Below.refl _ _).alloc (Nat.le_refl _) _
  have hs1 := hs0 138
  have hZ1 := hZ.later kb
  have hS1 := hS5.later kb
  have y01 := below_cell kb y0
  have y11 := below_cell kb y1
  have yf1 : ∀ j, (w0.alloc (.cells #[.slice ao n cap, .int .i64 0, .int .u64 0] 138)).frozen? ⟨w.heap.size + 1, j, none⟩ = false := fun j => (kb.frozen (p := ⟨w.heap.size + 1, j, none⟩) (by show w.heap.size + 1 < _; omega)).trans (yf j)
  have b1 := kb0.trans (kb.mono kb0.size)
  have hsz1 : (w0.alloc (.cells #[.slice ao n cap, .int .i64 0, .int .u64 0] 138)).heap.size = w.heap.size + 4 := by simp [hsz]
  clear kb hs0 hZ hS5 y0 y1 yf kb0
  rw [hsz] at hs1
  have HS1 := Lib.hid hs1; clear hs1
  go_wp2_with fail
  generalize w0.alloc (.cells #[.slice ao n cap, .int .i64 0, .int .u64 0] 138) = w1 at *
  refine (HDB.out _ _ HS1.out).mono ?_
  rintro _ w2 ⟨zv, wv, bv, u, zs, ws, bs, nm, ps, rfl, hkp, hnm, hz8, s2, q2⟩
  have n0 : ¬ w.heap.size = w.heap.size + 3 := by omega
  have n1 : ¬ w.heap.size + 1 = w.heap.size + 3 := by omega
  have n2 : ¬ w.heap.size + 2 = w.heap.size + 3 := by omega
  have hZ2 := hZ1.only q2 n0
  have hS2 := hS1.only q2 n2
  have y02 := cell_only q2 y01 n1
  have y12 := cell_only q2 y11 n1
  have yf2 : ∀ j, w2.frozen? ⟨w.heap.size + 1, j, none⟩ = false := fun j => (frozen_only q2 (p := ⟨w.heap.size + 1, j, none⟩) (by show w.heap.size + 1 < _; omega) n1).trans (yf1 j)
  have b2 := Only.below b1 q2 b1.size (fun b e => by omega)
  have hsz2 : w.heap.size + 4 ≤ w2.heap.size := by have := q2.size; omega
  rw [hsz1] at hkp
  have h01 := hkp w2 (Only.refl _ _)
  obtain ⟨_, a1, c1, _, _, rfl, _, _⟩ := h01.1.open
  obtain ⟨us', _, hru, _⟩ := h01.2.1
  obtain ⟨_, a2, c2, _, _, rfl, _, _⟩ := hru.open
  obtain ⟨_, a3, c3, _, _, rfl, _, _⟩ := h01.2.2.1.open
  obtain ⟨_, a4, c4, _, _, rfl, _, _⟩ := h01.2.2.2.open
  clear hru h01 hZ1 hS1 y01 y11 yf1 q2 b1 HS1 HDB HFR
  have kb : Below w2.heap.size w2 ((w2.alloc (.cells #[.slice a1 zs.length c1, .slice a2 ws.length c2, .slice a3 bs.length c3] 45)).alloc (.cells #[.string nm, .slice a4 ps.length c4] 26)) := by go_grown
  have hsrc := (s2.later kb).later (bdrew _)
  have hZ3 := (hZ2.later kb).later (bdrew _)
  have hS3 := (hS2.later kb).later (bdrew _)
  have y03 := below_cell (bdrew _) (below_cell kb y02)
  have y13 := below_cell (bdrew _) (below_cell kb y12)
  have yf3 : ∀ j, ((w2.alloc (.cells #[.slice a1 zs.length c1, .slice a2 ws.length c2, .slice a3 bs.length c3] 45)).alloc (.cells #[.string nm, .slice a4 ps.length c4] 26)).drew.frozen? ⟨w.heap.size + 1, j, none⟩ = false := fun j => (((kb.drew).frozen (p := ⟨w.heap.size + 1, j, none⟩) (by show w.heap.size + 1 < _; omega))).trans (yf2 j)
  have b3 := (b2.trans (kb.mono b2.size)).drew
  have hq3 := Only.of_below (S := fun b => b < w.heap.size + 4) (Below.drew kb)
  have HS : SEnd w2.heap.size (w2.heap.size + 1) (.slice a1 zs.length c1) (.slice a2 ws.length c2) (.slice a3 bs.length c3) nm (.slice a4 ps.length c4) ((w2.alloc (.cells #[.slice a1 zs.length c1, .slice a2 ws.length c2, .slice a3 bs.length c3] 45)).alloc (.cells #[.string nm, .slice a4 ps.length c4] 26)).drew := ⟨by simp [go_sem], by simp [go_sem], by simp [go_sem], by simp [go_sem], by simp [go_sem]⟩
  clear kb s2 hZ2 hS2 y02 y12 yf2 b2
  have HSRC := Lib.hid hsrc; clear hsrc
  have HZ3 := Lib.hid hZ3; clear hZ3
  have HS3 := Lib.hid hS3; clear hS3
  have HKP := Lib.hid hkp; clear hkp
  have Y0 := Lib.hid y03; clear y03
  have Y1 := Lib.hid y13; clear y13
  have YF := Lib.hid yf3; clear yf3
  have HQ3 := Lib.hid hq3; clear hq3
  go_wp2_with fail
  refine startX (SEnd w2.heap.size (w2.heap.size + 1) (.slice a1 zs.length c1) (.slice a2 ws.length c2) (.slice a3 bs.length c3) nm (.slice a4 ps.length c4)) [] (by kernel_rfl) ?_
  generalize ((w2.alloc (.cells #[.slice a1 zs.length c1, .slice a2 ws.length c2, .slice a3 bs.length c3] 45)).alloc (.cells #[.string nm, .slice a4 ps.length c4] 26)).drew = w4 at *
  refine takeX 0 15 (.agg #[.slice a1 zs.length c1, .slice a2 ws.length c2, .slice a3 bs.length c3]) rfl rfl (by kernel_rfl) (fun _ _ _ h => h) (by rfl) (fun w' hS => by (have q0 := hS.g0; have q1 := hS.g1; have q2 := hS.g2; clear hS HS; go_simp; done)) HS ?_
  simp only [List.setIfInBounds_toArray, List.set_cons_zero, List.set_cons_succ]
  refine takeX 1 16 (.agg #[.string nm, .slice a4 ps.length c4]) rfl rfl (by kernel_rfl) (fun _ _ _ h => h) (by rfl) (fun w' hS => by (have q0 := hS.p0; have q1 := hS.p1; clear hS HS; go_simp; done)) HS ?_
  simp only [List.setIfInBounds_toArray, List.set_cons_zero, List.set_cons_succ]
  refine takeX 2 17 (.pointer (some ⟨w.heap.size + 3, 0, none⟩)) rfl rfl (by kernel_rfl) (fun _ _ _ h => h) (by rfl) (fun _ _ => rfl) HS ?_
  simp only [List.setIfInBounds_toArray, List.set_cons_zero, List.set_cons_succ]
  refine stepX 3 (by kernel_rfl) rfl ?_
  intro K hK
  go_simp
  refine (HDR.out _ _ HSRC.out).mono ?_
  rintro _ w5 ⟨sa, sb, sc, sd, se, rfl, s5, q5⟩
  have HS : SEnd w2.heap.size (w2.heap.size + 1) (.slice a1 zs.length c1) (.slice a2 ws.length c2) (.slice a3 bs.length c3) nm (.slice a4 ps.length c4) w5 := ⟨cell_only q5 HS.g0 (by show ¬ w2.heap.size = w.heap.size + 3; omega), cell_only q5 HS.g1 (by show ¬ w2.heap.size = w.heap.size + 3; omega), cell_only q5 HS.g2 (by show ¬ w2.heap.size = w.heap.size + 3; omega), cell_only q5 HS.p0 (by show ¬ w2.heap.size + 1 = w.heap.size + 3; omega), cell_only q5 HS.p1 (by show ¬ w2.heap.size + 1 = w.heap.size + 3; omega)⟩
  refine hK _ _ (fun _ => HS) ?_
  clear hK K
  have hZ5 := HZ3.out.only q5 n0
  have hS5 := HS3.out.only q5 n2
  have z0 := hZ5.z0
  have z1 := hZ5.z1
  have z2 := hZ5.z2
  have zf := hZ5.zf
  unfold nv at z0 z1 z2
  have x0 := hS5.z0
  have x1 := hS5.z1
  have x2 := hS5.z2
  have x3 := hS5.z3
  have x4 := hS5.z4
  have xf := hS5.zf
  have y0 := cell_only q5 Y0.out n1
  have y1 := cell_only q5 Y1.out n1
  unfold nv at y1
  have hwl : w.heap.size + 1 < w4.heap.size := World.block_lt_of_cell? _ _ Y0.out
  have yf : ∀ j, w5.frozen? ⟨w.heap.size + 1, j, none⟩ = false := fun j => (frozen_only q5 (p := ⟨w.heap.size + 1, j, none⟩) hwl n1).trans (YF.out j)
  have b5 := Only.below b3 q5 b3.size (fun b e => by omega)
  have hq5 := HQ3.out.trans (q5.mono (S' := fun b => b < w.heap.size + 4) (fun b e => by omega))
  have hon3 : ∀ (wq : World) (x0 x1 x2 : Value), Only (fun b => b = w.heap.size) wq (((wq.setCell ⟨w.heap.size, 0, none⟩ x0).setCell ⟨w.heap.size, 1, none⟩ x1).setCell ⟨w.heap.size, 2, none⟩ x2) := fun wq x0 x1 x2 => ((((Only.refl (fun b => b = w.heap.size) wq).setCell (p := ⟨w.heap.size, 0, none⟩) rfl x0).setCell (p := ⟨w.heap.size, 1, none⟩) rfl x1).setCell (p := ⟨w.heap.size, 2, none⟩) rfl x2)
  have hon2 : ∀ (wq : World) (x0 x1 : Value), Only (fun b => b = w.heap.size + 1) wq ((wq.setCell ⟨w.heap.size + 1, 0, none⟩ x0).setCell ⟨w.heap.size + 1, 1, none⟩ x1) := fun wq x0 x1 => (((Only.refl (fun b => b = w.heap.size + 1) wq).setCell (p := ⟨w.heap.size + 1, 0, none⟩) rfl x0).setCell (p := ⟨w.heap.size + 1, 1, none⟩) rfl x1)
  have hon5 : ∀ (wq : World) (x0 x1 x2 x3 x4 : Value), Only (fun b => b = w.heap.size + 2) wq (((((wq.setCell ⟨w.heap.size + 2, 0, none⟩ x0).setCell ⟨w.heap.size + 2, 1, none⟩ x1).setCell ⟨w.heap.size + 2, 2, none⟩ x2).setCell ⟨w.heap.size + 2, 3, none⟩ x3).setCell ⟨w.heap.size + 2, 4, none⟩ x4) := fun wq x0 x1 x2 x3 x4 => ((((((Only.refl (fun b => b = w.heap.size + 2) wq).setCell (p := ⟨w.heap.size + 2, 0, none⟩) rfl x0).setCell (p := ⟨w.heap.size + 2, 1, none⟩) rfl x1).setCell (p := ⟨w.heap.size + 2, 2, none⟩) rfl x2).setCell (p := ⟨w.heap.size + 2, 3, none⟩) rfl x3).setCell (p := ⟨w.heap.size + 2, 4, none⟩) rfl x4)
  have mv : ∀ (wa wb : World) (b0 : Nat), b0 < w2.heap.size → Only (fun b => b = b0) wa wb → SEnd w2.heap.size (w2.heap.size + 1) (.slice a1 zs.length c1) (.slice a2 ws.length c2) (.slice a3 bs.length c3) nm (.slice a4 ps.length c4) wa → SEnd w2.heap.size (w2.heap.size + 1) (.slice a1 zs.length c1) (.slice a2 ws.length c2) (.slice a3 bs.length c3) nm (.slice a4 ps.length c4) wb := fun wa wb b0 hb1 hq h => ⟨cell_only hq h.g0 (by show ¬ w2.heap.size = b0; omega), cell_only hq h.g1 (by show ¬ w2.heap.size = b0; omega), cell_only hq h.g2 (by show ¬ w2.heap.size = b0; omega), cell_only hq h.p0 (by show ¬ w2.heap.size + 1 = b0; omega), cell_only hq h.p1 (by show ¬ w2.heap.size + 1 = b0; omega)⟩
  have HON1 := Lib.hid hon3; clear hon3
  have HON2 := Lib.hid hon2; clear hon2
  have HON3 := Lib.hid hon5; clear hon5
  have MV := Lib.hid mv; clear mv
  have B5 := Lib.hid b5; clear b5
  have HQ5 := Lib.hid hq5; clear hq5
  clear HZ3 HS3 Y0 Y1 YF HQ3 q5 hZ5 hS5 HSRC s5
  refine stepX 4 (by kernel_rfl) rfl ?_
  intro K hK
  go_simp
  have HS := MV.out w5 (((w5.setCell ⟨w.heap.size, 0, none⟩ (.slice a1 zs.length c1)).setCell ⟨w.heap.size, 1, none⟩ (.slice a2 ws.length c2)).setCell ⟨w.heap.size, 2, none⟩ (.slice a3 bs.length c3)) w.heap.size (by omega) (HON1.out _ _ _ _) HS
  refine hK _ _ (fun _ => HS) ?_
  clear hK K
  refine stepX 5 (by kernel_rfl) rfl ?_
  intro K hK
  go_simp
  have HS := MV.out (((w5.setCell ⟨w.heap.size, 0, none⟩ (.slice a1 zs.length c1)).setCell ⟨w.heap.size, 1, none⟩ (.slice a2 ws.length c2)).setCell ⟨w.heap.size, 2, none⟩ (.slice a3 bs.length c3)) (((((w5.setCell ⟨w.heap.size, 0, none⟩ (.slice a1 zs.length c1)).setCell ⟨w.heap.size, 1, none⟩ (.slice a2 ws.length c2)).setCell ⟨w.heap.size, 2, none⟩ (.slice a3 bs.length c3)).setCell ⟨w.heap.size + 1, 0, none⟩ (.string nm)).setCell ⟨w.heap.size + 1, 1, none⟩ (.slice a4 ps.length c4)) (w.heap.size + 1) (by omega) (HON2.out _ _ _) HS
  refine hK _ _ (fun _ => HS) ?_
  clear hK K
  refine stepX 6 (by kernel_rfl) rfl ?_
  intro K hK
  go_simp
  have HS := MV.out (((((w5.setCell ⟨w.heap.size, 0, none⟩ (.slice a1 zs.length c1)).setCell ⟨w.heap.size, 1, none⟩ (.slice a2 ws.length c2)).setCell ⟨w.heap.size, 2, none⟩ (.slice a3 bs.length c3)).setCell ⟨w.heap.size + 1, 0, none⟩ (.string nm)).setCell ⟨w.heap.size + 1, 1, none⟩ (.slice a4 ps.length c4)) ((((((((((w5.setCell ⟨w.heap.size, 0, none⟩ (.slice a1 zs.length c1)).setCell ⟨w.heap.size, 1, none⟩ (.slice a2 ws.length c2)).setCell ⟨w.heap.size, 2, none⟩ (.slice a3 bs.length c3)).setCell ⟨w.heap.size + 1, 0, none⟩ (.string nm)).setCell ⟨w.heap.size + 1, 1, none⟩ (.slice a4 ps.length c4)).setCell ⟨w.heap.size + 2, 0, none⟩ (.int .i64 sa)).setCell ⟨w.heap.size + 2, 1, none⟩ (.int .i64 sb)).setCell ⟨w.heap.size + 2, 2, none⟩ (.int .i64 sc)).setCell ⟨w.heap.size + 2, 3, none⟩ (.int .i64 sd)).setCell ⟨w.heap.size + 2, 4, none⟩ (.int .i64 se)) (w.heap.size + 2) (by omega) (HON3.out _ _ _ _ _ _) HS
  refine hK _ _ (fun _ => HS) ?_
  clear hK K
  refine doneX (by kernel_rfl) ?_ _
  clear HS
  go_wp2
  have e1 : ¬ w.heap.size + 1 + 1 = w.heap.size := by omega
  have e2 : ¬ w.heap.size = w.heap.size + 1 + 1 := by omega
  have e3 : ¬ w.heap.size + 1 + 1 = w.heap.size + 1 := by omega
  have e4 : ¬ w.heap.size + 1 = w.heap.size + 1 + 1 := by omega
  have e5 : ¬ w.heap.size + 2 = w.heap.size + 1 := by omega
  have e6 : ¬ w.heap.size + 1 = w.heap.size + 2 := by omega
  have e7 : ¬ w.heap.size + 2 = w.heap.size := by omega
  have e8 : ¬ w.heap.size = w.heap.size + 2 := by omega
  refine bodyPost_ret (v := .tuple #[.agg #[.slice a1 zs.length c1, .slice a2 ws.length c2, .slice a3 bs.length c3], .agg #[.string nm, .slice a4 ps.length c4], .agg #[.int .i64 sa, .int .i64 sb, .int .i64 sc, .int .i64 sd, .int .i64 se]]) (by simp [results, Tryz.results21, go_sem, cell_setCell, z0, z1, z2, y0, y1, x0, x1, x2, x3, x4, e1, e2, e3, e4, e5, e6, e7, e8]) rfl ?_
  have q9 : Only (fun b => b < w.heap.size + 4) w2 ((((((((((w5.setCell ⟨w.heap.size, 0, none⟩ (.slice a1 zs.length c1)).setCell ⟨w.heap.size, 1, none⟩ (.slice a2 ws.length c2)).setCell ⟨w.heap.size, 2, none⟩ (.slice a3 bs.length c3)).setCell ⟨w.heap.size + 1, 0, none⟩ (.string nm)).setCell ⟨w.heap.size + 1, 1, none⟩ (.slice a4 ps.length c4)).setCell ⟨w.heap.size + 2, 0, none⟩ (.int .i64 sa)).setCell ⟨w.heap.size + 2, 1, none⟩ (.int .i64 sb)).setCell ⟨w.heap.size + 2, 2, none⟩ (.int .i64 sc)).setCell ⟨w.heap.size + 2, 3, none⟩ (.int .i64 sd)).setCell ⟨w.heap.size + 2, 4, none⟩ (.int .i64 se)) := ((HQ5.out.trans ((HON1.out _ _ _ _).mono (S' := fun b => b < w.heap.size + 4) (fun b e => by omega))).trans ((HON2.out _ _ _).mono (S' := fun b => b < w.heap.size + 4) (fun b e => by omega))).trans ((HON3.out _ _ _ _ _ _).mono (S' := fun b => b < w.heap.size + 4) (fun b e => by omega))
  have hf := HKP.out _ q9
  exact ⟨_, _, _, _, zs, ws, bs, nm, ps, _, _, _, _, _, rfl, hf.1, hf.2.1, hf.2.2.1, hf.2.2.2, hnm, hz8, ((((((((((B5.out.setCell (show w.heap.size ≤ w.heap.size by omega) _).setCell (show w.heap.size ≤ w.heap.size by omega) _).setCell (show w.heap.size ≤ w.heap.size by omega) _).setCell (show w.heap.size ≤ w.heap.size + 1 by omega) _).setCell (show w.heap.size ≤ w.heap.size + 1 by omega) _).setCell (show w.heap.size ≤ w.heap.size + 2 by omega) _).setCell (show w.heap.size ≤ w.heap.size + 2 by omega) _).setCell (show w.heap.size ≤ w.heap.size + 2 by omega) _).setCell (show w.heap.size ≤ w.heap.size + 2 by omega) _).setCell (show w.heap.size ≤ w.heap.size + 2 by omega) _)⟩

end Go.Proofs.YtgdadbmhdljcdaaGreatDoor

