/- Several texts of the proofs in one: Bld, Sized, Scaled, ScaleP, FamP, Scale, FamI, ScalL. -/
import Derived.Test.YtgdadbmhdljcdaaGreatDoorUB
import Derived.Test.YtgdadbmhdljcdaaGreatDoorVA
import Derived.Test.YtgdadbmhdljcdaaGreatDoorWF
import Derived.Test.YtgdadbmhdljcdaaGreatDoorWH
import Derived.Test.YtgdadbmhdljcdaaGreatDoorWK
import Derived.Test.YtgdadbmhdljcdaaGreatDoorWM
import Derived.BigQuiet
/- A profile built ring by ring. -/
namespace Go.Proofs.YtgdadbmhdljcdaaGreatDoor
set_option linter.unusedVariables false
open Go.RowKit Go.Proofs.Bell Go.BigFrame

/-- the state of a walk that builds a profile: the boxes of the result and of the profile -/
structure Bld (R G : Nat) (nm : ByteArray) (u : Value) (qs : List (Int × Int × Int)) (w wr : World) : Prop where
  below : Below w.heap.size w wr
  lo : w.heap.size ≤ R
  rg : R < G
  r0 : wr.cell? ⟨R, 0, none⟩ = some (.string ⟨#[]⟩)
  r1 : wr.cell? ⟨R, 1, none⟩ = some (.slice none 0 0)
  rf : ∀ j, wr.frozen? ⟨R, j, none⟩ = false
  q0 : wr.cell? ⟨G, 0, none⟩ = some (.string nm)
  q1 : wr.cell? ⟨G, 1, none⟩ = some u
  qf : ∀ j, wr.frozen? ⟨G, j, none⟩ = false
  own : OwnR (G + 1) wr u qs
theorem Bld.size {R G : Nat} {nm : ByteArray} {u : Value} {qs : List (Int × Int × Int)} {w wr : World} (h : Bld R G nm u qs w wr) : G + 1 ≤ wr.heap.size := World.block_lt_of_cell? _ ⟨G, 0, none⟩ h.q0
theorem Bld.later {R G : Nat} {nm : ByteArray} {u : Value} {qs : List (Int × Int × Int)} {w wr w1 : World} (h : Bld R G nm u qs w wr) (hb : Below wr.heap.size wr w1) : Bld R G nm u qs w w1 :=
  ⟨h.below.trans (hb.mono h.below.size), h.lo, h.rg, below_cell hb h.r0, below_cell hb h.r1,
   fun j => (hb.frozen (p := ⟨R, j, none⟩) (show R < _ from World.block_lt_of_cell? _ ⟨R, 0, none⟩ h.r0)).trans (h.rf j),
   below_cell hb h.q0, below_cell hb h.q1,
   fun j => (hb.frozen (p := ⟨G, j, none⟩) (show G < _ from World.block_lt_of_cell? _ ⟨G, 0, none⟩ h.q0)).trans (h.qf j), own_later h.own hb⟩
theorem Bld.n2 {R G : Nat} {nm : ByteArray} {u : Value} {qs : List (Int × Int × Int)} {w wr : World} (h : Bld R G nm u qs w wr) : ¬ u.ownBlock = some G := fun e => by have := own_lo h.own _ e; omega
theorem Bld.n1 {R G : Nat} {nm : ByteArray} {u : Value} {qs : List (Int × Int × Int)} {w wr : World} (h : Bld R G nm u qs w wr) : ¬ u.ownBlock = some R := fun e => by have := own_lo h.own _ e; have := h.rg; omega
theorem Bld.ge {R G : Nat} {nm : ByteArray} {u : Value} {qs : List (Int × Int × Int)} {w wr wx : World} (h : Bld R G nm u qs w wr) {b : Nat} (hb : wx.heap.size ≤ b) (hlt : ∀ k, u.ownBlock = some k → k < wx.heap.size) : ¬ u.ownBlock = some b := fun e => by have := hlt _ e; omega
theorem Bld.only {R G : Nat} {nm : ByteArray} {u v : Value} {qs qs' : List (Int × Int × Int)} {w wr w1 : World} (h : Bld R G nm u qs w wr) (hq : Only (fun b => u.ownBlock = some b) wr w1) (ho : OwnR (G + 1) w1 v qs') : Bld R G nm v qs' w (w1.setCell ⟨G, 1, none⟩ v) := by
  have lo := own_lo h.own
  have n1 := h.n1
  have n2 := h.n2
  have hz := h.size
  have hs := hq.size
  have hl := h.lo
  have hrg := h.rg
  have b1 : Below w.heap.size w w1 := Only.below h.below hq (by omega) (fun k hk => by have := lo k hk; omega)
  have c1 : w1.cell? ⟨G, 1, none⟩ = some u := cell_only hq h.q1 n2
  refine ⟨b1.setCell (show w.heap.size ≤ G by omega) _, hl, hrg, ?_, ?_, fun j => ?_, ?_, World.cell?_setCell_same _ _ _ c1, fun j => ?_, own_set ho (fun k hk => by have := own_lo ho k hk; simp; omega) v⟩
  · rw [World.cell?_setCell_other _ _ _ _ (fun e => by have := congrArg Addr.block e; simp at this; omega)]; exact cell_only hq h.r0 n1
  · rw [World.cell?_setCell_other _ _ _ _ (fun e => by have := congrArg Addr.block e; simp at this; omega)]; exact cell_only hq h.r1 n1
  · rw [World.frozen?_setCell]; exact (frozen_only hq (by simp; omega) n1).trans (h.rf j)
  · rw [World.cell?_setCell_other _ _ _ _ (by simp)]; exact cell_only hq h.q0 n2
  · rw [World.frozen?_setCell]; exact (frozen_only hq (by simp; omega) n2).trans (h.qf j)

end Go.Proofs.YtgdadbmhdljcdaaGreatDoor

/- A profile of another size: the reference's l07Sized. -/
namespace Go.Proofs.YtgdadbmhdljcdaaGreatDoor
set_option linter.unusedVariables false
open Go.RowKit Go.Proofs.Bell Go.BigFrame

def scT (num den : Int) (_ : Nat) (r : Int × Int × Int) : Int × Int × Int := (rnd (r.1 * num) den, rnd (r.2.1 * num) den, rnd (r.2.2 * num) den)

theorem mulsc_bd {x num : Int} (h1 : 0 ≤ x) (h2 : x ≤ 300000) (h3 : 1 ≤ num) (h4 : num ≤ 20000000) : 0 ≤ x * num ∧ x * num ≤ 6000000000000 := by
  refine ⟨Int.mul_nonneg h1 (by omega), ?_⟩
  have := Int.mul_le_mul h2 h4 (by omega) (by omega : (0 : Int) ≤ 300000)
  omega

end Go.Proofs.YtgdadbmhdljcdaaGreatDoor

/- A profile of another size: the program's scaled. -/
namespace Go.Proofs.YtgdadbmhdljcdaaGreatDoor
set_option linter.unusedVariables false
open Go.RowKit Go.Proofs.Bell Go.BigFrame

end Go.Proofs.YtgdadbmhdljcdaaGreatDoor

/- A profile of another size: both sides of ScaleForPitch. -/
namespace Go.Proofs.YtgdadbmhdljcdaaGreatDoor
set_option linter.unusedVariables false
open Go.RowKit Go.Proofs.Bell Go.BigFrame

def pitchPI (nm : ByteArray) (ps : List (Int × Int × Int)) (num den : Int) : ByteArray × List (Int × Int × Int) × Int := if profB nm ps then (if freqB num && freqB den then doneR nm (mapK (scT num den) ps ps.length) else (⟨#[]⟩, [], 2)) else (⟨#[]⟩, [], 1)
theorem pitchPI_len (nm : ByteArray) (ps : List (Int × Int × Int)) (num den : Int) : (pitchPI nm ps num den).2.1.length ≤ 32 := by
  unfold pitchPI
  split
  · split
    · exact doneR_len _ _
    · simp
  · simp
theorem rd_two {w : World} {b : Nat} {a0 a1 : Int} (hb : b < w.heap.size) (h0 : w.cell? ⟨b, 0, none⟩ = some (.int .i64 a0)) (h1 : w.cell? ⟨b, 1, none⟩ = some (.int .i64 a1)) : Rd w (.slice (some ⟨b, 0, none⟩) 2 2) 2 (ints [a0, a1]) := by
  refine ⟨by decide, .inr ⟨by decide, b, 0, 2, rfl, by decide, by decide, hb, fun j u hj => ?_⟩⟩
  match j, hj with
  | 0, hj => simp [ints] at hj; subst hj; simpa using h0
  | 1, hj => simp [ints] at hj; subst hj; simpa using h1
  | n + 2, hj => simp [ints] at hj

end Go.Proofs.YtgdadbmhdljcdaaGreatDoor

/- Lists of profiles of one's own; a family (the program). -/
namespace Go.Proofs.YtgdadbmhdljcdaaGreatDoor
set_option linter.unusedVariables false
open Go.RowKit Go.Proofs.Bell Go.BigFrame

abbrev PR := ByteArray × List (Int × Int × Int)
def nd : ByteArray × Value := (⟨#[]⟩, .slice none 0 0)
def pcells (us : List (ByteArray × Value)) : List Value := us.flatMap fun p => [.string p.1, p.2]
theorem pcells_len (us : List (ByteArray × Value)) : (pcells us).length = us.length * 2 := by induction us with
  | nil => rfl
  | cons p us ih => have : pcells (p :: us) = [.string p.1, p.2] ++ pcells us := rfl
                    rw [this, List.length_append, ih]; simp; omega
theorem pcells_at {us : List (ByteArray × Value)} : ∀ {k : Nat} (h : k < us.length), (pcells us)[k * 2]? = some (.string (us.getD k nd).1) ∧ (pcells us)[k * 2 + 1]? = some (us.getD k nd).2 := by
  induction us with
  | nil => intro k h; simp at h
  | cons p us ih =>
    intro k h
    cases k with
    | zero => simp [pcells]
    | succ k =>
      have := ih (k := k) (by simpa using h)
      have e1 : (k + 1) * 2 = k * 2 + 1 + 1 := by omega
      simpa [pcells, e1] using this
theorem cells_PS : Tryz.prog.cellsOf 26 = 2 := by kernel_rfl
theorem has_PS : (Tryz.prog.info? 26).isSome = true := by kernel_rfl
theorem info_PS : (Tryz.prog.info? 26).map (fun i => (i.zero, i.size, i.bytes)) = some (some (.agg #[.string ⟨#[]⟩, .slice none 0 0]), 2, 40) := by kernel_rfl

/-- a list of profiles of one's own: names and values are `us`; all blocks lie from `lo` to `hi` -/
structure OwnPS (lo hi : Nat) (w : World) (v : Value) (us : List (ByteArray × Value)) (ps : List PR) : Prop where
  len : us.length = ps.length
  row : w.ownsRow lo 26 2 v ps.length (pcells us)
  rowh : ∀ b, v.ownBlock = some b → b < hi
  nm : ∀ k, k < ps.length → (us.getD k nd).1 = (ps.getD k (⟨#[]⟩, [])).1
  own : ∀ k, k < ps.length → OwnR lo w (us.getD k nd).2 (ps.getD k (⟨#[]⟩, [])).2
  top : ∀ k, k < ps.length → ∀ b, (us.getD k nd).2.ownBlock = some b → b < hi
  dis : ∀ j k, j < k → k < ps.length → ∀ b, (us.getD k nd).2.ownBlock = some b → (us.getD j nd).2.ownBlock ≠ some b
  cd : ∀ k, k < ps.length → ∀ b, (us.getD k nd).2.ownBlock = some b → v.ownBlock ≠ some b
theorem OwnPS.later {lo hi : Nat} {w w' : World} {v : Value} {us : List (ByteArray × Value)} {ps : List PR} (h : OwnPS lo hi w v us ps) (hb : Below w.heap.size w w') : OwnPS lo hi w' v us ps :=
  ⟨h.len, own_later h.row hb, h.rowh, h.nm, fun k hk => own_later (h.own k hk) hb, h.top, h.dis, h.cd⟩
theorem OwnPS.wide {lo hi lo' hi' : Nat} {w : World} {v : Value} {us : List (ByteArray × Value)} {ps : List PR} (h : OwnPS lo hi w v us ps) (h1 : lo' ≤ lo) (h2 : hi ≤ hi') : OwnPS lo' hi' w v us ps :=
  ⟨h.len, own_base h.row h1, fun b hb => Nat.lt_of_lt_of_le (h.rowh b hb) h2, h.nm, fun k hk => own_base (h.own k hk) h1, fun k hk b hb => Nat.lt_of_lt_of_le (h.top k hk b hb) h2, h.dis, h.cd⟩
theorem OwnPS.nil (lo hi : Nat) (w : World) : OwnPS lo hi w (.slice none 0 0) [] [] :=
  ⟨rfl, World.ownsRow_nil _ _ _ _, fun b h => (by cases h), fun k hk => absurd hk (by simp), fun k hk => absurd hk (by simp), fun k hk => absurd hk (by simp), fun j k _ hk => absurd hk (by simp), fun k hk => absurd hk (by simp)⟩

theorem OwnPS.snoc {lo hi : Nat} {W w' : World} {v v' u : Value} {us : List (ByteArray × Value)} {ps : List PR} {nm : ByteArray} {row : List (Int × Int × Int)} (h : OwnPS lo hi W v us ps) (hhi : hi ≤ W.heap.size) (hlh : lo ≤ hi)
    (hu : OwnR hi W u row) (ho : w'.ownsRow lo 26 2 v' (ps.length + 1) (pcells (us ++ [(nm, u)]))) (hq : Only (fun b => v.ownBlock = some b) W w') (hat : ∀ b, v'.ownBlock = some b → v.ownBlock = some b ∨ W.heap.size ≤ b) :
    OwnPS lo w'.heap.size w' v' (us ++ [(nm, u)]) (ps ++ [(nm, row)]) := by
  have hsz := hq.size
  have hl := h.len
  have gl : ∀ j, j < ps.length → (us ++ [(nm, u)]).getD j nd = us.getD j nd := fun j hj => by simp [List.getD, List.getElem?_append_left (show j < us.length by omega)]
  have gr : (us ++ [(nm, u)]).getD ps.length nd = (nm, u) := by rw [← hl]; simp [List.getD]
  have wl : ∀ j, j < ps.length → (ps ++ [(nm, row)]).getD j (⟨#[]⟩, []) = ps.getD j (⟨#[]⟩, []) := fun j hj => by simp [List.getD, List.getElem?_append_left hj]
  have wr : (ps ++ [(nm, row)]).getD ps.length (⟨#[]⟩, []) = (nm, row) := by simp [List.getD]
  have hown : ∀ k, k < (ps ++ [(nm, row)]).length → OwnR lo w' ((us ++ [(nm, u)]).getD k nd).2 ((ps ++ [(nm, row)]).getD k (⟨#[]⟩, [])).2 := fun k hk => by
    simp only [List.length_append, List.length_cons, List.length_nil] at hk
    rcases Nat.lt_or_ge k ps.length with h1 | h1
    · rw [gl k h1, wl k h1]; exact own_only (h.own k h1) hq (fun b hb hS => h.cd k h1 b hb hS)
    · obtain rfl : k = ps.length := by omega
      rw [gr, wr]
      exact own_base (own_only hu hq (fun b hb hS => by have := own_lo hu b hb; have := h.rowh b hS; omega)) hlh
  refine ⟨by simp [hl], by simpa using ho, own_lt ho, fun k hk => ?_, hown, fun k hk => own_lt (hown k hk), fun j k hj hk b hb => ?_, fun k hk b hb hv => ?_⟩
  · simp only [List.length_append, List.length_cons, List.length_nil] at hk
    rcases Nat.lt_or_ge k ps.length with h1 | h1
    · rw [gl k h1, wl k h1]; exact h.nm k h1
    · obtain rfl : k = ps.length := by omega
      rw [gr, wr]
  · simp only [List.length_append, List.length_cons, List.length_nil] at hk
    rw [gl j (by omega)]
    rcases Nat.lt_or_ge k ps.length with h1 | h1
    · rw [gl k h1] at hb; exact h.dis j k hj h1 b hb
    · obtain rfl : k = ps.length := by omega
      rw [gr] at hb
      intro e
      have h2 := own_lo hu b hb
      have h3 := h.top j hj b e
      omega
  · simp only [List.length_append, List.length_cons, List.length_nil] at hk
    rcases Nat.lt_or_ge k ps.length with h1 | h1
    · rw [gl k h1] at hb
      rcases hat b hv with e | e
      · exact h.cd k h1 b hb e
      · have := h.top k h1 b hb; omega
    · obtain rfl : k = ps.length := by omega
      rw [gr] at hb
      have h2 := own_lo hu b hb
      have h3 := own_lt hu b hb
      rcases hat b hv with e | e
      · have := h.rowh b e; omega
      · omega

def famR (num den : Int) (rs : List (Int × Int × Int)) : Nat → List (Int × Int × Int)
  | 0 => rs
  | j + 1 => mapK (scT num den) (famR num den rs j) (famR num den rs j).length
def famL (nm : ByteArray) (num den : Int) (rs : List (Int × Int × Int)) (j : Nat) : List PR := (List.range j).map fun i => (nm, famR num den rs i)
theorem famL_len (nm : ByteArray) (num den : Int) (rs : List (Int × Int × Int)) (j : Nat) : (famL nm num den rs j).length = j := by simp [famL]
theorem famL_at (nm : ByteArray) (num den : Int) (rs : List (Int × Int × Int)) {j k : Nat} (h : k < j) : (famL nm num den rs j).getD k (⟨#[]⟩, []) = (nm, famR num den rs k) := by simp [famL, List.getD, h]
theorem famL_step (nm : ByteArray) (num den : Int) (rs : List (Int × Int × Int)) (j : Nat) : famL nm num den rs (j + 1) = famL nm num den rs j ++ [(nm, famR num den rs j)] := by simp [famL, List.range_succ]
def famOk (nm : ByteArray) (num den : Int) (rs : List (Int × Int × Int)) (c : Nat) : Bool := (List.range c).all fun j => profB nm (famR num den rs j)
def RetPS2 (ps : List PR) (code : Value) (w : World) (e : Ending) (w' : World) : Prop := ∃ v us, e = .returned (.tuple #[v, code]) ∧ OwnPS w.heap.size w'.heap.size w' v us ps ∧ Below w.heap.size w w'
def famV (nm : ByteArray) (num den : Int) (rs : List (Int × Int × Int)) (c : Nat) : List PR × Int := if famOk nm num den rs c then (famL nm num den rs c, 0) else ([], 6)

end Go.Proofs.YtgdadbmhdljcdaaGreatDoor

/- A profile of another size: both sides of ScaleProfile. -/
namespace Go.Proofs.YtgdadbmhdljcdaaGreatDoor
set_option linter.unusedVariables false
open Go.RowKit Go.Proofs.Bell Go.BigFrame

def scaleI (nm : ByteArray) (ps : List (Int × Int × Int)) (num den : Int) : ByteArray × List (Int × Int × Int) × Int := if profB nm ps then (if scl2B num den then doneR nm (mapK (scT num den) ps ps.length) else (⟨#[]⟩, [], 2)) else (⟨#[]⟩, [], 1)
theorem scaleI_len (nm : ByteArray) (ps : List (Int × Int × Int)) (num den : Int) : (scaleI nm ps num den).2.1.length ≤ 32 := by
  unfold scaleI
  split
  · split
    · exact doneR_len _ _
    · simp
  · simp

end Go.Proofs.YtgdadbmhdljcdaaGreatDoor

/- A family of profiles: the program, with good arguments. -/
namespace Go.Proofs.YtgdadbmhdljcdaaGreatDoor
set_option linter.unusedVariables false
open Go.RowKit Go.Proofs.Bell Go.BigFrame

theorem own_profile (w : World) (nm : ByteArray) (ao : Option Addr) (n cap base : Nat) (hb : base ≤ w.heap.size) : (w.alloc (.cells #[.string nm, .slice ao n cap] 26)).ownsRow base 26 2 (.slice (some ⟨w.heap.size, 0, none⟩) 1 1) 1 (pcells [(nm, .slice ao n cap)]) :=
  ⟨rfl, .inr ⟨w.heap.size, 1, _, rfl, hb, heap_alloc_new w _, Nat.le_refl _, by decide, rfl, rfl⟩⟩
theorem OwnPS.one {lo : Nat} {w : World} {nm : ByteArray} {ao : Option Addr} {n cap : Nat} {rs : List (Int × Int × Int)} (h : OwnR lo w (.slice ao n cap) rs) (hlo : lo ≤ w.heap.size) : OwnPS lo (w.alloc (.cells #[.string nm, .slice ao n cap] 26)).heap.size (w.alloc (.cells #[.string nm, .slice ao n cap] 26)) (.slice (some ⟨w.heap.size, 0, none⟩) 1 1) [(nm, .slice ao n cap)] [(nm, rs)] := by
  have hk0 : ∀ {k : Nat}, k < ([(nm, rs)] : List PR).length → k = 0 := fun hk => by simp at hk; exact hk
  refine ⟨rfl, own_profile w nm ao n cap lo hlo, fun b hb => by simp [Value.ownBlock] at hb; simp; omega, fun k hk => by obtain rfl := hk0 hk; rfl, fun k hk => ?_, fun k hk b hb => ?_, fun j k hj hk => by have := hk0 hk; omega, fun k hk b hb hv => ?_⟩
  · obtain rfl := hk0 hk
    exact own_later h ((Below.refl _ _).alloc (Nat.le_refl _) _)
  · obtain rfl := hk0 hk
    have := own_lt h b hb
    simp; omega
  · obtain rfl := hk0 hk
    have := own_lt h b hb
    simp [Value.ownBlock] at hv
    omega

end Go.Proofs.YtgdadbmhdljcdaaGreatDoor

/- Scaling: the plain laws. -/
namespace Go.Proofs.YtgdadbmhdljcdaaGreatDoor
set_option linter.unusedVariables false
open Go.RowKit Go.Proofs.Bell Go.BigFrame

theorem rnd_mul {x f : Int} (h0 : 0 ≤ x) (h1 : 1 ≤ f) : rnd (x * f) f = x := by
  have hx : 0 ≤ x * f := Int.mul_nonneg h0 (by omega)
  unfold rnd
  rw [if_neg (by omega), show 2 * (x * f) + f = f + x * (2 * f) by rw [Int.mul_left_comm]; omega, Int.add_mul_ediv_right _ _ (by omega), Int.ediv_eq_zero_of_lt (by omega) (by omega)]
  omega
theorem sc_same {nm : ByteArray} {ps : List (Int × Int × Int)} {f : Int} (hp : profB nm ps = true) (h1 : 1 ≤ f) : mapK (scT f f) ps ps.length = ps := mapK_id fun k hk => by
  have := ringT_t (((profB_iff nm ps).1 hp).2.2.2.1 k hk)
  simp only [scT]
  rw [rnd_mul (by omega) h1, rnd_mul (by omega) h1, rnd_mul (by omega) h1]
theorem pitch_same {nm : ByteArray} {ps : List (Int × Int × Int)} {f : Int} (hp : profB nm ps = true) (h1 : 10000 ≤ f) (h2 : f ≤ 20000000) : pitchPI nm ps f f = (nm, ps, 0) := by
  have : freqB f = true := inB_mk ⟨h1, h2⟩
  simp [pitchPI, hp, this, sc_same hp (show 1 ≤ f by omega), doneR_t hp]
theorem scale_same {nm : ByteArray} {ps : List (Int × Int × Int)} {f : Int} (hp : profB nm ps = true) (h1 : 1 ≤ f) (h2 : f ≤ 1000) : scaleI nm ps f f = (nm, ps, 0) := by
  have : sclB f = true := inB_mk ⟨h1, h2⟩
  simp [scaleI, scl2B, hp, this, sc_same hp h1, doneR_t hp]
theorem scale_fam {nm : ByteArray} {ps : List (Int × Int × Int)} {n : Int} (hp : profB nm ps = true) (h1 : 1 ≤ n) (h2 : n ≤ 1000) : scaleI nm ps n 100 = doneR nm (famR n 100 ps 1) := by
  have a : sclB n = true := inB_mk ⟨h1, h2⟩
  have b : sclB 100 = true := rfl
  simp [scaleI, scl2B, hp, a, b, famR]
theorem pitch_up {f n : Int} (h1 : 100000 ≤ f) (h2 : f ≤ 1299980) (h3 : 60 ≤ n) (h4 : n ≤ 99) : pitchI f n 100 = (rnd (f * 100) n, 0) ∧ f ≤ rnd (f * 100) n ∧ rnd (f * 100) n ≤ 20000000 := by
  have key : f ≤ rnd (f * 100) n ∧ rnd (f * 100) n ≤ 20000000 := by
    unfold rnd
    rw [if_neg (by omega)]
    constructor
    · refine (Int.le_ediv_iff_mul_le (by omega)).2 ?_
      have : f * n ≤ f * 99 := Int.mul_le_mul_of_nonneg_left h4 (by omega)
      have e : f * (2 * n) = 2 * (f * n) := Int.mul_left_comm _ _ _
      omega
    · refine Int.lt_add_one_iff.mp (Int.ediv_lt_of_lt_mul (by omega) ?_)
      omega
  refine ⟨?_, key⟩
  have a : freqB f = true := inB_mk (by omega)
  have b : sclB n = true := inB_mk (by omega)
  have c : freqB (rnd (f * 100) n) = true := inB_mk (by omega)
  have d : sclB 100 = true := rfl
  simp [pitchI, a, b, c, d]
theorem heightI_app (xs ys : List (Int × Int × Int)) : heightI (xs ++ ys) = heightI xs + heightI ys := by simp [heightI]
theorem mapK_hle {T : Nat → Int × Int × Int → Int × Int × Int} {ps : List (Int × Int × Int)} : ∀ n, n ≤ ps.length → (∀ k, k < n → (T k (rg ps k)).2.2 ≤ (rg ps k).2.2) → heightI (mapK T ps n) ≤ heightI (ps.take n)
  | 0, _, _ => by simp [mapK, heightI]
  | n + 1, hn, h => by
    have ih := mapK_hle n (by omega) (fun k hk => h k (by omega))
    have h1 := h n (by omega)
    rw [mapK, heightI_app, List.take_succ_eq_append_getElem (by omega), heightI_app, ← rg_eq (by omega)]
    have e : ∀ x : Int × Int × Int, heightI [x] = x.2.2 := fun x => by simp [heightI]
    rw [e, e]
    omega
theorem small_h {nm : ByteArray} {ps : List (Int × Int × Int)} {n : Int} (hp : profB nm ps = true) (h1 : 1 ≤ n) (h2 : n ≤ 100) : heightI (famR n 100 ps 1) ≤ heightI ps := by
  have := mapK_hle (T := scT n 100) (ps := ps) ps.length (Nat.le_refl _) (fun k hk => by
    have r := ringT_t (((profB_iff nm ps).1 hp).2.2.2.1 k hk)
    have a : (rg ps k).2.2 * n ≤ (rg ps k).2.2 * 100 := Int.mul_le_mul_of_nonneg_left h2 (by omega)
    have b : 0 ≤ (rg ps k).2.2 * n := Int.mul_nonneg (by omega) (by omega)
    simp only [scT, rnd]
    rw [if_neg (by omega)]
    omega)
  rwa [List.take_of_length_le (Nat.le_refl _)] at this
theorem fam3 {nm : ByteArray} {ps : List (Int × Int × Int)} {n : Int} (hp : profB nm ps = true) : famOk nm n 100 ps 3 = (profB nm (famR n 100 ps 1) && profB nm (famR n 100 ps 2)) := by
  have : profB nm (famR n 100 ps 0) = true := hp
  simp [famOk, List.range, List.range.loop, this]

end Go.Proofs.YtgdadbmhdljcdaaGreatDoor

