/- Several texts of the proofs in one: Scaled, ScaleP, FamP, Scale, FamI, ScalL. -/
import Derived.Test.YtmeeibcbhjifbaaGoals
import Derived.Test.YtmeeibcbhjifbaaRgL
import Derived.Test.YtmeeibcbhjifbaaSSApp
import Derived.Test.YtmeeibcbhjifbaaSized
/- A profile of another size: the program's scaled. -/
namespace Go.Proofs.Ytmeeibcbhjifbaa
set_option linter.unusedVariables false
open Go.RowKit Go.Proofs.Bell Go.BigFrame

set_option maxRecDepth 100000 in
set_option maxHeartbeats 3200000 in
theorem Scaled1_c (k : Nat) (r : Int × Int × Int) (num den : Int) (g h : Nat) (w : World) (cg : w.cell? ⟨g, 0, none⟩ = some (.int .i64 num)) (ch : w.cell? ⟨h, 0, none⟩ = some (.int .i64 den)) (hra : ringT r = true) (n1 : 1 ≤ num) (n2 : num ≤ 20000000) (n3 : 1 ≤ den) (n4 : den ≤ 20000000) :
    Calls Try.prog 102 #[.int .i64 k, ringV r, .pointer (some ⟨g, 0, none⟩), .pointer (some ⟨h, 0, none⟩)] w (RetB (ringV (scT num den k r)) w) := by
  have hring := ringT_t hra
  obtain ⟨x0, x1, x2⟩ := r
  simp only [ringV, scT] at *
  have k0 := mulsc_bd (x := x0) (num := num) (by omega) (by omega) n1 n2
  have k1 := mulsc_bd (x := x1) (num := num) (by omega) (by omega) n1 n2
  have k2 := mulsc_bd (x := x2) (num := num) (by omega) (by omega) n1 n2
  have hbx := fun (a : Int) w' (h : 0 ≤ a ∧ a ≤ 6000000000000) => nearest_c a den w' (by omega) (by omega) (by omega) (by omega)
  have g0 : IntKind.i64.wrap (x0 * num) = x0 * num := IntWalk.i64_in _ (by omega)
  have g1 : IntKind.i64.wrap (x1 * num) = x1 * num := IntWalk.i64_in _ (by omega)
  have g2 : IntKind.i64.wrap (x2 * num) = x2 * num := IntWalk.i64_in _ (by omega)
  have HBX := Lib.hid hbx; clear hbx
  have K0 := Lib.hid k0; clear k0
  have K1 := Lib.hid k1; clear k1
  have K2 := Lib.hid k2; clear k2
  clear hring
  go_enter Try.func102, Try.ntmps102
  go_wp2_with fail
  obtain ⟨W, hW⟩ : ∃ x, x = (w.alloc (.cells #[.int .i64 x0, .int .i64 x1, .int .i64 x2] 135)).alloc (.cells #[.int .i64 0, .int .i64 0, .int .i64 0] 135) := ⟨_, rfl⟩
  rw [← hW]
  have kb : Below w.heap.size w W := by rw [hW]; go_grown
  have p0 : ∀ s : Lat W, s.world.cell? ⟨w.heap.size, 0, none⟩ = some (.int .i64 x0) := fun s => s.cell (by rw [hW]; simp [go_sem])
  have p1 : ∀ s : Lat W, s.world.cell? ⟨w.heap.size, 1, none⟩ = some (.int .i64 x1) := fun s => s.cell (by rw [hW]; simp [go_sem])
  have p2 : ∀ s : Lat W, s.world.cell? ⟨w.heap.size, 2, none⟩ = some (.int .i64 x2) := fun s => s.cell (by rw [hW]; simp [go_sem])
  have p3 : ∀ s : Lat W, s.world.cell? ⟨g, 0, none⟩ = some (.int .i64 num) := fun s => s.cell (below_cell kb cg)
  have p4 : ∀ s : Lat W, s.world.cell? ⟨h, 0, none⟩ = some (.int .i64 den) := fun s => s.cell (below_cell kb ch)
  have v0 : ∀ s : Lat W, s.world.cell? ⟨w.heap.size + 1, 0, none⟩ = some (.int .i64 0) := fun s => s.cell (by rw [hW]; simp [go_sem])
  have v1 : ∀ s : Lat W, s.world.cell? ⟨w.heap.size + 1, 1, none⟩ = some (.int .i64 0) := fun s => s.cell (by rw [hW]; simp [go_sem])
  have v2 : ∀ s : Lat W, s.world.cell? ⟨w.heap.size + 1, 2, none⟩ = some (.int .i64 0) := fun s => s.cell (by rw [hW]; simp [go_sem])
  have vf : ∀ (s : Lat W) j, s.world.frozen? ⟨w.heap.size + 1, j, none⟩ = false := fun s j => (s.below.frozen (p := ⟨w.heap.size + 1, j, none⟩) (by rw [hW]; simp)).trans (by rw [hW]; simp [go_sem])
  clear hW cg ch
  refine wp_region_lat_tail 19 (by kernel_rfl) (by kernel_rfl) ?_
  simp only [List.take_succ_cons, List.take_zero, List.drop_succ_cons, List.drop_zero]
  repeat (quiet_step ((go_at_call 63; exact Lat.callD (HBX.out _ _ (by first | exact K0.out | exact K1.out | exact K2.out)))))
  refine wpQuiet_nil ?_
  rintro _ ⟨s, rfl⟩
  have z0 := v0 s
  have z1 := v1 s
  have z2 := v2 s
  have zf := vf s
  have zb := kb.trans (s.below.mono kb.size)
  clear p0 p1 p2 p3 p4 v0 v1 v2 vf g0 g1 g2
  generalize s.world = Ws at *
  go_wp2
  refine bodyPost_ret (v := .agg #[.int .i64 (rnd (x0 * num) den), .int .i64 (rnd (x1 * num) den), .int .i64 (rnd (x2 * num) den)]) (by simp [results, Try.results102, go_sem, z0, z1, z2]) rfl ?_
  exact RetB.mk rfl (((zb.setCell (by simp) _).setCell (by simp) _).setCell (by simp) _)

set_option maxRecDepth 100000 in
set_option maxHeartbeats 1600000 in
theorem scaled_c (nm : ByteArray) (sv : Value) (ps : List (Int × Int × Int)) (num den : Int) (w : World) (hnm : nm.size ≤ maxLen) (hr : Rd w sv ps.length (trips ps)) (hal : ps.all ringT = true) (hl : ps.length ≤ 32) (m1 : 1 ≤ num) (m2 : num ≤ 20000000) (m3 : 1 ≤ den) (m4 : den ≤ 20000000) :
    Calls Try.prog 45 #[.agg #[.string nm, sv], .int .i64 num, .int .i64 den] w (RetP2 (doneR nm (mapK (scT num den) ps ps.length)).1 (doneR nm (mapK (scT num den) ps ps.length)).2.1 (.int .i64 (doneR nm (mapK (scT num den) ps ps.length)).2.2) w) := by
  have hrs := fun w' (hb : Below w.heap.size w w') (g h : Nat) (c1 : w'.cell? ⟨g, 0, none⟩ = some (.int .i64 num)) (c2 : w'.cell? ⟨h, 0, none⟩ = some (.int .i64 den)) => reshaped_c 102 #[.pointer (some ⟨g, 0, none⟩), .pointer (some ⟨h, 0, none⟩)] (scT num den) nm sv ps w' hnm (hr.later hb) (by omega) (enters Try.func102 (by kernel_rfl) rfl)
    (fun k hk w'' hb'' => Scaled1_c k (rg ps k) num den g h w'' (below_cell hb'' c1) (below_cell hb'' c2) (all_at hal hk) m1 m2 m3 m4)
  generalize doneR nm (mapK (scT num den) ps ps.length) = RES at *
  have hsv : ∃ ao n cap, sv = .slice ao n cap := by obtain ⟨_, ao, cap, _, _, h, _⟩ := hr.open; exact ⟨_, _, _, h⟩
  obtain ⟨aos, ns, caps, rfl⟩ := hsv
  have HRS := Lib.hid hrs; clear hrs
  clear hr hal
  go_enter Try.func45, Try.ntmps45
  have b0 : Below w.heap.size w w := Below.refl _ _
  have z0 : w.heap.size ≤ w.heap.size := Nat.le_refl _
  go_wp2_with fail
  refine (HRS.out _ (by go_grown) (w.heap.size + 1) (w.heap.size + 1 + 1) (by simp [go_sem]) (by simp [go_sem])).mono ?_
  rintro _ w1 ⟨x1, rfl, n1, r1⟩
  have s1 : Below w.heap.size w w1 := Below.trans (by go_grown) (r1.mono (by simp; try omega))
  have b1 := b0.trans (s1.mono z0)
  have z1 := b1.size
  have y1 := s1.size
  have v1 : w.heap.size + 4 ≤ w1.heap.size := by have := r1.size; simp only [World.size_alloc] at this; omega
  have c0_0_1 := below_cell r1 (p := ⟨w.heap.size, 0, none⟩) (v := .string nm) (by simp [go_sem])
  have c0_1_1 := below_cell r1 (p := ⟨w.heap.size, 1, none⟩) (v := .slice aos ns caps) (by simp [go_sem])
  have c1_0_1 := below_cell r1 (p := ⟨w.heap.size + 1, 0, none⟩) (v := .int .i64 num) (by simp [go_sem])
  have c2_0_1 := below_cell r1 (p := ⟨w.heap.size + 1 + 1, 0, none⟩) (v := .int .i64 den) (by simp [go_sem])
  have c3_0_1 := below_cell r1 (p := ⟨w.heap.size + 1 + 1 + 1, 0, none⟩) (v := .string ⟨#[]⟩) (by simp [go_sem])
  have c3_1_1 := below_cell r1 (p := ⟨w.heap.size + 1 + 1 + 1, 1, none⟩) (v := .slice none 0 0) (by simp [go_sem])
  have f0_1 : ∀ j, w1.frozen? ⟨w.heap.size, j, none⟩ = false := fun j => (r1.frozen (p := ⟨w.heap.size, j, none⟩) (by simp [go_sem])).trans (by simp [go_sem])
  have f1_1 : ∀ j, w1.frozen? ⟨w.heap.size + 1, j, none⟩ = false := fun j => (r1.frozen (p := ⟨w.heap.size + 1, j, none⟩) (by simp [go_sem])).trans (by simp [go_sem])
  have f2_1 : ∀ j, w1.frozen? ⟨w.heap.size + 1 + 1, j, none⟩ = false := fun j => (r1.frozen (p := ⟨w.heap.size + 1 + 1, j, none⟩) (by simp [go_sem])).trans (by simp [go_sem])
  have f3_1 : ∀ j, w1.frozen? ⟨w.heap.size + 1 + 1 + 1, j, none⟩ = false := fun j => (r1.frozen (p := ⟨w.heap.size + 1 + 1 + 1, j, none⟩) (by simp [go_sem])).trans (by simp [go_sem])
  clear r1
  obtain ⟨a2, p2, rfl⟩ := own_shape n1
  have lo2 := own_lo n1
  go_wp2
  refine bodyPost_ret (v := .tuple #[.agg #[.string RES.1, .slice a2 RES.2.1.length p2], .int .i64 RES.2.2]) (by simp [results, Try.results45, go_sem, *]) rfl ?_
  have o11 := own_set n1 (a := ⟨w.heap.size + 1 + 1 + 1, 0, none⟩) (fun k hk => by have := lo2 k hk; simp at this ⊢; omega) (.string RES.1)
  have o12 := own_set o11 (a := ⟨w.heap.size + 1 + 1 + 1, 1, none⟩) (fun k hk => by have := lo2 k hk; simp at this ⊢; omega) (.slice a2 RES.2.1.length p2)
  exact ⟨_, rfl, own_base o12 (by simp; omega), (b1.setCell (show w.heap.size ≤ w.heap.size + 1 + 1 + 1 by omega) _).setCell (show w.heap.size ≤ w.heap.size + 1 + 1 + 1 by omega) _⟩

end Go.Proofs.Ytmeeibcbhjifbaa

/- A profile of another size: both sides of ScaleForPitch. -/
namespace Go.Proofs.Ytmeeibcbhjifbaa
set_option linter.unusedVariables false
open Go.RowKit Go.Proofs.Bell Go.BigFrame

def pitchPI (nm : ByteArray) (ps : List (Int × Int × Int)) (num den : Int) : ByteArray × List (Int × Int × Int) × Int := if profB nm ps then (if freqB num && freqB den then doneR nm (mapK (scT num den) ps ps.length) else (⟨#[]⟩, [], 2)) else (⟨#[]⟩, [], 1)
theorem pitchPI_len (nm : ByteArray) (ps : List (Int × Int × Int)) (num den : Int) : (pitchPI nm ps num den).2.1.length ≤ 32 := by
  unfold pitchPI
  split
  · split
    · exact doneR_len _ _
    · simp
  · simp
theorem rd_two {w : World} {b : Nat} {a0 a1 : Int} (hb : b < w.heap.size) (h0 : w.cell? ⟨b, 0, none⟩ = some (.int .i64 a0)) (h1 : w.cell? ⟨b, 1, none⟩ = some (.int .i64 a1)) : Rd w (.slice (some ⟨b, 0, none⟩) 2 2) 2 (ints [a0, a1]) := by
  refine ⟨by decide, .inr ⟨by decide, b, 0, 2, rfl, by decide, by decide, hb, fun j u hj => ?_⟩⟩
  match j, hj with
  | 0, hj => simp [ints] at hj; subst hj; simpa using h0
  | 1, hj => simp [ints] at hj; subst hj; simpa using h1
  | n + 2, hj => simp [ints] at hj

end Go.Proofs.Ytmeeibcbhjifbaa

/- Lists of profiles of one's own; a family (the program). -/
namespace Go.Proofs.Ytmeeibcbhjifbaa
set_option linter.unusedVariables false
open Go.RowKit Go.Proofs.Bell Go.BigFrame

abbrev PR := ByteArray × List (Int × Int × Int)
def nd : ByteArray × Value := (⟨#[]⟩, .slice none 0 0)
def pcells (us : List (ByteArray × Value)) : List Value := us.flatMap fun p => [.string p.1, p.2]
theorem pcells_len (us : List (ByteArray × Value)) : (pcells us).length = us.length * 2 := by induction us with
  | nil => rfl
  | cons p us ih => have : pcells (p :: us) = [.string p.1, p.2] ++ pcells us := rfl
                    rw [this, List.length_append, ih]; simp; omega
theorem pcells_at {us : List (ByteArray × Value)} : ∀ {k : Nat} (h : k < us.length), (pcells us)[k * 2]? = some (.string (us.getD k nd).1) ∧ (pcells us)[k * 2 + 1]? = some (us.getD k nd).2 := by
  induction us with
  | nil => intro k h; simp at h
  | cons p us ih =>
    intro k h
    cases k with
    | zero => simp [pcells]
    | succ k =>
      have := ih (k := k) (by simpa using h)
      have e1 : (k + 1) * 2 = k * 2 + 1 + 1 := by omega
      simpa [pcells, e1] using this
theorem cells_PS : Try.prog.cellsOf 31 = 2 := by kernel_rfl
theorem has_PS : (Try.prog.info? 31).isSome = true := by kernel_rfl
theorem info_PS : (Try.prog.info? 31).map (fun i => (i.zero, i.size, i.bytes)) = some (some (.agg #[.string ⟨#[]⟩, .slice none 0 0]), 2, 40) := by kernel_rfl

/-- a list of profiles of one's own: names and values are `us`; all blocks lie from `lo` to `hi` -/
structure OwnPS (lo hi : Nat) (w : World) (v : Value) (us : List (ByteArray × Value)) (ps : List PR) : Prop where
  len : us.length = ps.length
  row : w.ownsRow lo 31 2 v ps.length (pcells us)
  rowh : ∀ b, v.ownBlock = some b → b < hi
  nm : ∀ k, k < ps.length → (us.getD k nd).1 = (ps.getD k (⟨#[]⟩, [])).1
  own : ∀ k, k < ps.length → OwnR lo w (us.getD k nd).2 (ps.getD k (⟨#[]⟩, [])).2
  top : ∀ k, k < ps.length → ∀ b, (us.getD k nd).2.ownBlock = some b → b < hi
  dis : ∀ j k, j < k → k < ps.length → ∀ b, (us.getD k nd).2.ownBlock = some b → (us.getD j nd).2.ownBlock ≠ some b
  cd : ∀ k, k < ps.length → ∀ b, (us.getD k nd).2.ownBlock = some b → v.ownBlock ≠ some b
theorem OwnPS.later {lo hi : Nat} {w w' : World} {v : Value} {us : List (ByteArray × Value)} {ps : List PR} (h : OwnPS lo hi w v us ps) (hb : Below w.heap.size w w') : OwnPS lo hi w' v us ps :=
  ⟨h.len, own_later h.row hb, h.rowh, h.nm, fun k hk => own_later (h.own k hk) hb, h.top, h.dis, h.cd⟩
theorem OwnPS.wide {lo hi lo' hi' : Nat} {w : World} {v : Value} {us : List (ByteArray × Value)} {ps : List PR} (h : OwnPS lo hi w v us ps) (h1 : lo' ≤ lo) (h2 : hi ≤ hi') : OwnPS lo' hi' w v us ps :=
  ⟨h.len, own_base h.row h1, fun b hb => Nat.lt_of_lt_of_le (h.rowh b hb) h2, h.nm, fun k hk => own_base (h.own k hk) h1, fun k hk b hb => Nat.lt_of_lt_of_le (h.top k hk b hb) h2, h.dis, h.cd⟩
theorem OwnPS.nil (lo hi : Nat) (w : World) : OwnPS lo hi w (.slice none 0 0) [] [] :=
  ⟨rfl, World.ownsRow_nil _ _ _ _, fun b h => (by cases h), fun k hk => absurd hk (by simp), fun k hk => absurd hk (by simp), fun k hk => absurd hk (by simp), fun j k _ hk => absurd hk (by simp), fun k hk => absurd hk (by simp)⟩

theorem app_PS {ops : Array Oper} {rest : List Oper} {o : Oper} {a : Act} {Q : Exit → Act → World → Prop} (s x : Operand) (W : World) (base : Nat) (v : Value) (n : Nat) (us : List (ByteArray × Value)) (nm : ByteArray) (ao : Option Addr) (m cap g : Nat) (hg : W.heap.size = g)
    (ho : o.op = .call { callee := .builtin .append, args := #[s, x], argTypes := #[26, 26] }) (hgd : o.guard = none)
    (hs : a.eval s = v) (hx : a.eval x = .slice (some ⟨g, 0, none⟩) 1 1) (hown : W.ownsRow base 31 2 v n (pcells us)) (hn : n ≤ 1000000) (hbase : base ≤ W.heap.size)
    (h : ∀ v' w', w'.ownsRow base 31 2 v' (n + 1) (pcells (us ++ [(nm, .slice ao m cap)])) → Only (fun b => v.ownBlock = some b) W w' → (∀ b, v'.ownBlock = some b → v.ownBlock = some b ∨ W.heap.size ≤ b) → wpList Try.prog ops Q rest (a.put o.dst v') w') :
    wpList Try.prog ops Q (o :: rest) a (W.alloc (.cells #[.string nm, .slice ao m cap] 31)) := by
  subst hg
  obtain ⟨i0, hi, hz0, hz1, hz2⟩ := info_parts info_PS
  refine wpList_append_own_at _ hgd s x 26 ho base 31 i0 _ 2 40 Try.underlying26 hi hz0 hz1 hz2 rfl (by decide) v n (pcells us) hs (hown.alloc _) ⟨W.heap.size, 0, none⟩ 1 1 [.string nm, .slice ao m cap] hx rfl (World.news_of_block (cs := #[.string nm, .slice ao m cap]) (heap_alloc_new W _)) (fun u hu => by simp at hu; rcases hu with rfl | rfl <;> rfl) (by unfold maxLen; omega) (by omega) (by simp; omega) ?_
  intro v' w' ho' hg _ hat
  refine h v' w' (by simpa [pcells] using ho') ((Only.of_below ((Below.refl _ _).alloc (Nat.le_refl _) _)).trans (Only.of_grown hg)) (fun b hb => ?_)
  rcases hat with e | e
  · left; rw [← e]; exact hb
  · right; rw [e] at hb; simp at hb; omega

theorem OwnPS.snoc {lo hi : Nat} {W w' : World} {v v' u : Value} {us : List (ByteArray × Value)} {ps : List PR} {nm : ByteArray} {row : List (Int × Int × Int)} (h : OwnPS lo hi W v us ps) (hhi : hi ≤ W.heap.size) (hlh : lo ≤ hi)
    (hu : OwnR hi W u row) (ho : w'.ownsRow lo 31 2 v' (ps.length + 1) (pcells (us ++ [(nm, u)]))) (hq : Only (fun b => v.ownBlock = some b) W w') (hat : ∀ b, v'.ownBlock = some b → v.ownBlock = some b ∨ W.heap.size ≤ b) :
    OwnPS lo w'.heap.size w' v' (us ++ [(nm, u)]) (ps ++ [(nm, row)]) := by
  have hsz := hq.size
  have hl := h.len
  have gl : ∀ j, j < ps.length → (us ++ [(nm, u)]).getD j nd = us.getD j nd := fun j hj => by simp [List.getD, List.getElem?_append_left (show j < us.length by omega)]
  have gr : (us ++ [(nm, u)]).getD ps.length nd = (nm, u) := by rw [← hl]; simp [List.getD]
  have wl : ∀ j, j < ps.length → (ps ++ [(nm, row)]).getD j (⟨#[]⟩, []) = ps.getD j (⟨#[]⟩, []) := fun j hj => by simp [List.getD, List.getElem?_append_left hj]
  have wr : (ps ++ [(nm, row)]).getD ps.length (⟨#[]⟩, []) = (nm, row) := by simp [List.getD]
  have hown : ∀ k, k < (ps ++ [(nm, row)]).length → OwnR lo w' ((us ++ [(nm, u)]).getD k nd).2 ((ps ++ [(nm, row)]).getD k (⟨#[]⟩, [])).2 := fun k hk => by
    simp only [List.length_append, List.length_cons, List.length_nil] at hk
    rcases Nat.lt_or_ge k ps.length with h1 | h1
    · rw [gl k h1, wl k h1]; exact own_only (h.own k h1) hq (fun b hb hS => h.cd k h1 b hb hS)
    · obtain rfl : k = ps.length := by omega
      rw [gr, wr]
      exact own_base (own_only hu hq (fun b hb hS => by have := own_lo hu b hb; have := h.rowh b hS; omega)) hlh
  refine ⟨by simp [hl], by simpa using ho, own_lt ho, fun k hk => ?_, hown, fun k hk => own_lt (hown k hk), fun j k hj hk b hb => ?_, fun k hk b hb hv => ?_⟩
  · simp only [List.length_append, List.length_cons, List.length_nil] at hk
    rcases Nat.lt_or_ge k ps.length with h1 | h1
    · rw [gl k h1, wl k h1]; exact h.nm k h1
    · obtain rfl : k = ps.length := by omega
      rw [gr, wr]
  · simp only [List.length_append, List.length_cons, List.length_nil] at hk
    rw [gl j (by omega)]
    rcases Nat.lt_or_ge k ps.length with h1 | h1
    · rw [gl k h1] at hb; exact h.dis j k hj h1 b hb
    · obtain rfl : k = ps.length := by omega
      rw [gr] at hb
      intro e
      have h2 := own_lo hu b hb
      have h3 := h.top j hj b e
      omega
  · simp only [List.length_append, List.length_cons, List.length_nil] at hk
    rcases Nat.lt_or_ge k ps.length with h1 | h1
    · rw [gl k h1] at hb
      rcases hat b hv with e | e
      · exact h.cd k h1 b hb e
      · have := h.top k h1 b hb; omega
    · obtain rfl : k = ps.length := by omega
      rw [gr] at hb
      have h2 := own_lo hu b hb
      have h3 := own_lt hu b hb
      rcases hat b hv with e | e
      · have := h.rowh b e; omega
      · omega

def famR (num den : Int) (rs : List (Int × Int × Int)) : Nat → List (Int × Int × Int)
  | 0 => rs
  | j + 1 => mapK (scT num den) (famR num den rs j) (famR num den rs j).length
def famL (nm : ByteArray) (num den : Int) (rs : List (Int × Int × Int)) (j : Nat) : List PR := (List.range j).map fun i => (nm, famR num den rs i)
theorem famL_len (nm : ByteArray) (num den : Int) (rs : List (Int × Int × Int)) (j : Nat) : (famL nm num den rs j).length = j := by simp [famL]
theorem famL_at (nm : ByteArray) (num den : Int) (rs : List (Int × Int × Int)) {j k : Nat} (h : k < j) : (famL nm num den rs j).getD k (⟨#[]⟩, []) = (nm, famR num den rs k) := by simp [famL, List.getD, h]
theorem famL_step (nm : ByteArray) (num den : Int) (rs : List (Int × Int × Int)) (j : Nat) : famL nm num den rs (j + 1) = famL nm num den rs j ++ [(nm, famR num den rs j)] := by simp [famL, List.range_succ]
def famOk (nm : ByteArray) (num den : Int) (rs : List (Int × Int × Int)) (c : Nat) : Bool := (List.range c).all fun j => profB nm (famR num den rs j)
def RetPS2 (ps : List PR) (code : Value) (w : World) (e : Ending) (w' : World) : Prop := ∃ v us, e = .returned (.tuple #[v, code]) ∧ OwnPS w.heap.size w'.heap.size w' v us ps ∧ Below w.heap.size w w'
def famV (nm : ByteArray) (num den : Int) (rs : List (Int × Int × Int)) (c : Nat) : List PR × Int := if famOk nm num den rs c then (famL nm num den rs c, 0) else ([], 6)

end Go.Proofs.Ytmeeibcbhjifbaa

/- A profile of another size: both sides of ScaleProfile. -/
namespace Go.Proofs.Ytmeeibcbhjifbaa
set_option linter.unusedVariables false
open Go.RowKit Go.Proofs.Bell Go.BigFrame

def scaleI (nm : ByteArray) (ps : List (Int × Int × Int)) (num den : Int) : ByteArray × List (Int × Int × Int) × Int := if profB nm ps then (if scl2B num den then doneR nm (mapK (scT num den) ps ps.length) else (⟨#[]⟩, [], 2)) else (⟨#[]⟩, [], 1)
theorem scaleI_len (nm : ByteArray) (ps : List (Int × Int × Int)) (num den : Int) : (scaleI nm ps num den).2.1.length ≤ 32 := by
  unfold scaleI
  split
  · split
    · exact doneR_len _ _
    · simp
  · simp

end Go.Proofs.Ytmeeibcbhjifbaa

/- A family of profiles: the program, with good arguments. -/
namespace Go.Proofs.Ytmeeibcbhjifbaa
set_option linter.unusedVariables false
open Go.RowKit Go.Proofs.Bell Go.BigFrame

theorem sizeP_c (ao : Option Addr) (n cap : Nat) (w : World) : Calls Try.prog 44 #[.slice ao n cap] w (RetS (.int .i64 n) w) := by
  go_enter Try.func44, Try.ntmps44
  go_wp2
  go_returns
  exact RetS.mk rfl
theorem own_profile (w : World) (nm : ByteArray) (ao : Option Addr) (n cap base : Nat) (hb : base ≤ w.heap.size) : (w.alloc (.cells #[.string nm, .slice ao n cap] 31)).ownsRow base 31 2 (.slice (some ⟨w.heap.size, 0, none⟩) 1 1) 1 (pcells [(nm, .slice ao n cap)]) :=
  ⟨rfl, .inr ⟨w.heap.size, 1, _, rfl, hb, heap_alloc_new w _, Nat.le_refl _, by decide, rfl, rfl⟩⟩
theorem OwnPS.one {lo : Nat} {w : World} {nm : ByteArray} {ao : Option Addr} {n cap : Nat} {rs : List (Int × Int × Int)} (h : OwnR lo w (.slice ao n cap) rs) (hlo : lo ≤ w.heap.size) : OwnPS lo (w.alloc (.cells #[.string nm, .slice ao n cap] 31)).heap.size (w.alloc (.cells #[.string nm, .slice ao n cap] 31)) (.slice (some ⟨w.heap.size, 0, none⟩) 1 1) [(nm, .slice ao n cap)] [(nm, rs)] := by
  have hk0 : ∀ {k : Nat}, k < ([(nm, rs)] : List PR).length → k = 0 := fun hk => by simp at hk; exact hk
  refine ⟨rfl, own_profile w nm ao n cap lo hlo, fun b hb => by simp [Value.ownBlock] at hb; simp; omega, fun k hk => by obtain rfl := hk0 hk; rfl, fun k hk => ?_, fun k hk b hb => ?_, fun j k hj hk => by have := hk0 hk; omega, fun k hk b hb hv => ?_⟩
  · obtain rfl := hk0 hk
    exact own_later h ((Below.refl _ _).alloc (Nat.le_refl _) _)
  · obtain rfl := hk0 hk
    have := own_lt h b hb
    simp; omega
  · obtain rfl := hk0 hk
    have := own_lt h b hb
    simp [Value.ownBlock] at hv
    omega

set_option maxRecDepth 100000 in
set_option maxHeartbeats 3200000 in
theorem implFamily_good (nm : ByteArray) (sv : Value) (rs : List (Int × Int × Int)) (num den : Int) (c : Nat) (w : World) (hnm : nm.size ≤ maxLen) (hr : Rd w sv rs.length (trips rs)) (hp : profB nm rs = true) (n1 : 1 ≤ num) (n2 : num ≤ den) (n3 : den ≤ 1000) (c1 : 1 ≤ c) (c2 : c ≤ 64) :
    Calls Try.prog 10 #[.agg #[.string nm, sv], .int .i64 num, .int .i64 den, .int .i64 c] w (RetPS2 (famV nm num den rs c).1 (.int .i64 (famV nm num den rs c).2) w) := by
  have hok := fun w' (hb : Below w.heap.size w w') => ValidProfile_c nm sv rs w' hnm (hr.later hb)
  rw [hp] at hok
  have hcp := fun w' (hb : Below w.heap.size w w') => copyProfile_c nm sv rs w' (hr.later hb) (profB_t hp).1 (by have := (profB_t hp).2.1; omega)
  have hq1 := fun w' => isScale_c num w'
  rw [show sclB num = true from inB_mk (by omega)] at hq1
  have hq2 := fun w' => isScale_c den w'
  rw [show sclB den = true from inB_mk (by omega)] at hq2
  have hin := fun w' => within_c (c : Int) 1 64 w'
  rw [inB_mk (show 1 ≤ (c : Int) ∧ (c : Int) ≤ 64 by omega)] at hin
  have hbad : ∀ j, j < c → profB nm (famR num den rs j) = false → famV nm num den rs c = ([], 6) := fun j hj h => by
    have : famOk nm num den rs c = false := by unfold famOk; rw [List.all_eq_false]; exact ⟨j, List.mem_range.2 hj, by rw [h]; exact Bool.false_ne_true⟩
    simp [famV, this]
  have hgood : (∀ j, j < c → profB nm (famR num den rs j) = true) → famV nm num den rs c = (famL nm num den rs c, 0) := fun h => by
    have : famOk nm num den rs c = true := by unfold famOk; rw [List.all_eq_true]; exact fun j hj => h j (List.mem_range.1 hj)
    simp [famV, this]
  have hsc := fun j w' u (hv : profB nm (famR num den rs j) = true) (hx : Rd w' u (famR num den rs j).length (trips (famR num den rs j))) => scaled_c nm u (famR num den rs j) num den w' hnm hx (profB_t hv).2.2.1 (profB_t hv).2.1 n1 (by omega) (by omega) (by omega)
  obtain ⟨_, ao, cap, _, _, rfl, _, _⟩ := hr.open
  have t0 : decide (den < num) = false := decide_eq_false (by omega)
  have HOK := Lib.hid hok; clear hok
  have HCP := Lib.hid hcp; clear hcp
  have HQ1 := Lib.hid hq1; clear hq1
  have HQ2 := Lib.hid hq2; clear hq2
  have HIN := Lib.hid hin; clear hin
  have HBAD := Lib.hid hbad; clear hbad
  have HGOOD := Lib.hid hgood; clear hgood
  have HSC := Lib.hid hsc; clear hsc
  have hp0 : profB nm (famR num den rs 0) = true := hp
  have HP0 := Lib.hid hp0; clear hp0
  clear hr hp
  go_enter Try.func10, Try.ntmps10
  have b0 : Below w.heap.size w w := Below.refl _ _
  have z0 : w.heap.size ≤ w.heap.size := Nat.le_refl _
  go_wp2_with fail
  refine (HOK.out _ (by go_grown)).mono ?_
  rintro _ w1 ⟨rfl, r1⟩
  have s1 : Below w.heap.size w w1 := Below.trans (by go_grown) (r1.mono (by simp; try omega))
  have b1 := b0.trans (s1.mono z0)
  have z1 := b1.size
  have y1 := s1.size
  have c0_0_1 := below_cell r1 (p := ⟨w.heap.size, 0, none⟩) (v := .string nm) (by simp [go_sem])
  have c0_1_1 := below_cell r1 (p := ⟨w.heap.size, 1, none⟩) (v := .slice ao rs.length cap) (by simp [go_sem])
  clear r1
  go_wp2_with fail
  refine (HQ1.out _).mono ?_
  rintro _ _ ⟨rfl, rfl⟩
  go_wp2_with fail
  refine (HQ2.out _).mono ?_
  rintro _ _ ⟨rfl, rfl⟩
  go_wp2_with fail
  refine (HIN.out _).mono ?_
  rintro _ _ ⟨rfl, rfl⟩
  go_wp2_with fail
  refine (HCP.out _ b1).mono ?_
  rintro _ w2 ⟨x2, rfl, n2, r2⟩
  have s2 := r2
  have b2 := b1.trans (s2.mono z1)
  have z2 := b2.size
  have y2 := s2.size
  have c0_0_2 := below_cell s2 c0_0_1; clear c0_0_1
  have c0_1_2 := below_cell s2 c0_1_1; clear c0_1_1
  clear r2
  obtain ⟨a1, p1, rfl⟩ := own_shape n2
  have hof := OwnPS.one (nm := nm) n2 y2
  have kb : Below w2.heap.size w2 (w2.alloc (.cells #[.string nm, .slice a1 rs.length p1] 31)) := (Below.refl _ _).alloc (Nat.le_refl _) _
  have b3 := b2.trans (kb.mono z2)
  have e1 : famL nm num den rs 1 = [(nm, rs)] := rfl
  have hlo1 : w.heap.size ≤ w1.heap.size := z1
  have hsz3 : w1.heap.size ≤ (w2.alloc (.cells #[.string nm, .slice a1 rs.length p1] 31)).heap.size := by simp; omega
  rw [← e1] at hof
  clear e1 n2 kb
  have HOF := Lib.hid hof; clear hof
  go_wp2_with fail
  go_loopw [10] (fun v wr => ∃ (j : Nat) (us : List (ByteArray × Value)), 1 ≤ j ∧ j ≤ c ∧ OwnPS w1.heap.size wr.heap.size wr v us (famL nm num den rs j) ∧ (∀ i, i + 1 < j → profB nm (famR num den rs i) = true) ∧ profB nm (famR num den rs (j - 1)) = true ∧ Below w.heap.size w wr ∧ w1.heap.size ≤ wr.heap.size ∧ ∃ ao cap, v = .slice ao j cap) (fun v _ => c - (match v with | .slice _ n _ => n | _ => 0))
  case atStart => exact ⟨1, _, Nat.le_refl _, c1, HOF.out, fun i hi => by omega, HP0.out, b3, hsz3, _, _, rfl⟩
  case round =>
    obtain ⟨j, us, hj1, hj, ho, hv, hvl, hb, hlw, ag, cg, rfl⟩ := hrel
    have hall : ∀ i, i < j → profB nm (famR num den rs i) = true := fun i hi => by
      rcases Nat.lt_or_ge (i + 1) j with e | e
      · exact hv i e
      · rw [show i = j - 1 by omega]; exact hvl
    by_cases hlt : j < c
    · have t1 : decide (j < c) = true := decide_eq_true hlt
      have hnm1 := ho.nm (j - 1) (by rw [famL_len]; omega)
      have hown1 := ho.own (j - 1) (by rw [famL_len]; omega)
      have hrow := ho.row
      rw [famL_at _ _ _ _ (by omega)] at hnm1 hown1
      simp only at hnm1 hown1
      have hlen := ho.len
      rw [famL_len] at hlen hrow
      obtain ⟨ao', cap', g, hv9, hao, _⟩ := own_open hrow
      cases hv9
      obtain rfl : ag = some ⟨g, 0, none⟩ := hao (by omega)
      have hc0 : wr.cell? ⟨g, (j - 1) * 2, none⟩ = some (.string nm) := (World.ownsRow.cellAt hrow ((j - 1) * 2) (by omega)).trans ((pcells_at (show j - 1 < us.length by omega)).1.trans (by rw [hnm1]))
      have hc1 : wr.cell? ⟨g, (j - 1) * 2 + 1, none⟩ = some (us.getD (j - 1) nd).2 := (World.ownsRow.cellAt hrow ((j - 1) * 2 + 1) (by omega)).trans (pcells_at (show j - 1 < us.length by omega)).2
      have hix := ix (P := Try.prog) (T := 26) (n := j) (cap := cg) Try.underlying26 cells_PS has_PS (ao := some ⟨g, 0, none⟩) (b := g) (off := 0) (fun _ => rfl) (k := j - 1) (by omega) ((j : Int) - 1) (by omega)
      rw [Nat.zero_add] at hix
      generalize (us.getD (j - 1) nd).2 = ul at *
      obtain ⟨al, cl, rfl⟩ := own_shape hown1
      have hs := fun w' u hx => HSC.out (j - 1) w' u hvl hx
      rw [show mapK (scT num den) (famR num den rs (j - 1)) (famR num den rs (j - 1)).length = famR num den rs (j - 1 + 1) from rfl, show j - 1 + 1 = j by omega] at hs
      have hrd := Rd.of_own hown1
      have HRD := Lib.hid hrd; clear hrd
      have hfs := famL_step nm num den rs j
      have HFS := Lib.hid hfs; clear hfs
      have HO := Lib.hid ho; clear ho
      have HALL := Lib.hid hall; clear hall
      clear hnm1 hown1 hrow hlen hao hv hvl
      cases hq : profB nm (famR num den rs j)
      · rw [doneR_f hq] at hs
        have he := HBAD.out j hlt hq
        rw [he]
        have HS := Lib.hid hs; clear hs
        clear he
        go_wp2_with (go_at_call 44; refine (sizeP_c _ _ _ _).mono ?_; rintro _ _ ⟨rfl, rfl⟩)
        refine (HS.out _ _ HRD.out).mono ?_
        rintro _ w5 ⟨x5, rfl, n5, r5⟩
        obtain ⟨a5, p5, rfl⟩ := own_shape n5
        have b5 := hb.trans (r5.mono hb.size)
        go_wp2
        go_returns
        exact ⟨_, [], rfl, OwnPS.nil _ _ _, b5.alloc b5.size _⟩
      · rw [doneR_t hq] at hs
        have HS := Lib.hid hs; clear hs
        go_wp2_with (go_at_call 44; refine (sizeP_c _ _ _ _).mono ?_; rintro _ _ ⟨rfl, rfl⟩)
        refine (HS.out _ _ HRD.out).mono ?_
        rintro _ w5 ⟨x5, rfl, n5, r5⟩
        obtain ⟨a5, p5, rfl⟩ := own_shape n5
        have b5 := hb.trans (r5.mono hb.size)
        have kb : Below w5.heap.size w5 (w5.alloc (.cells #[.string nm, .slice a5 (famR num den rs j).length p5] 31)) := (Below.refl _ _).alloc (Nat.le_refl _) _
        have ho6 := (HO.out.later r5).later kb
        have n6 := own_later n5 kb
        have b6 := b5.trans (kb.mono b5.size)
        have z6 : wr.heap.size ≤ (w5.alloc (.cells #[.string nm, .slice a5 (famR num den rs j).length p5] 31)).heap.size := by have := r5.size; simp; omega
        have hrow6 := ho6.row
        rw [famL_len] at hrow6
        have HROW6 := Lib.hid hrow6; clear hrow6
        have HO6 := Lib.hid ho6; clear ho6
        have N6 := Lib.hid n6; clear n6
        have HQ := Lib.hid hq; clear hq
        clear n5
        go_wp2_with (at_builtin; refine app_PS (.tmp 56) (.tmp 58) (w5.alloc (.cells #[.string nm, .slice a5 (famR num den rs j).length p5] 31)) w1.heap.size _ j us nm a5 _ p5 (w5.heap.size + 1) (by simp) (by rfl) (by rfl) (by rfl) (by rfl) HROW6.out (by omega) (by omega) ?_; intro v9 w9 o9 q9 hat; have hsn := HO6.out.snoc (nm := nm) (row := famR num den rs j) z6 hlw N6.out (by rw [famL_len]; exact o9) q9 hat; have b9 : Below w.heap.size w w9 := Only.below b6 q9 b6.size (fun b e => by have := own_lo HROW6.out b e; omega); have z9 := q9.size; obtain ⟨a9, c9, rfl⟩ := own_shape o9; have HSN := Lib.hid hsn; clear hsn; clear o9 q9 hat)
        go_roundw
        case rel => exact ⟨j + 1, _, by omega, by omega, by rw [HFS.out]; exact HSN.out, fun i hi => HALL.out i (by omega), by rw [show j + 1 - 1 = j by omega]; exact HQ.out, b9, by omega, _, _, rfl⟩
        case measure => simp; omega
    · obtain rfl : j = c := by omega
      have t1 : decide (j < j) = false := by simp
      have he := HGOOD.out hall
      have HE := Lib.hid he; clear he
      have hfin := ho.wide hlo1 (Nat.le_refl _)
      have HFIN := Lib.hid hfin; clear hfin
      clear ho hv hvl hall
      go_wp2_with (go_at_call 44; refine (sizeP_c _ _ _ _).mono ?_; rintro _ _ ⟨rfl, rfl⟩)
      go_returns
      rw [HE.out]
      exact ⟨_, us, rfl, HFIN.out, hb⟩

end Go.Proofs.Ytmeeibcbhjifbaa

/- Scaling: the plain laws. -/
namespace Go.Proofs.Ytmeeibcbhjifbaa
set_option linter.unusedVariables false
open Go.RowKit Go.Proofs.Bell Go.BigFrame

theorem rnd_mul {x f : Int} (h0 : 0 ≤ x) (h1 : 1 ≤ f) : rnd (x * f) f = x := by
  have hx : 0 ≤ x * f := Int.mul_nonneg h0 (by omega)
  unfold rnd
  rw [if_neg (by omega), show 2 * (x * f) + f = f + x * (2 * f) by rw [Int.mul_left_comm]; omega, Int.add_mul_ediv_right _ _ (by omega), Int.ediv_eq_zero_of_lt (by omega) (by omega)]
  omega
theorem sc_same {nm : ByteArray} {ps : List (Int × Int × Int)} {f : Int} (hp : profB nm ps = true) (h1 : 1 ≤ f) : mapK (scT f f) ps ps.length = ps := mapK_id fun k hk => by
  have := ringT_t (((profB_iff nm ps).1 hp).2.2.2.1 k hk)
  simp only [scT]
  rw [rnd_mul (by omega) h1, rnd_mul (by omega) h1, rnd_mul (by omega) h1]
theorem pitch_same {nm : ByteArray} {ps : List (Int × Int × Int)} {f : Int} (hp : profB nm ps = true) (h1 : 10000 ≤ f) (h2 : f ≤ 20000000) : pitchPI nm ps f f = (nm, ps, 0) := by
  have : freqB f = true := inB_mk ⟨h1, h2⟩
  simp [pitchPI, hp, this, sc_same hp (show 1 ≤ f by omega), doneR_t hp]
theorem scale_same {nm : ByteArray} {ps : List (Int × Int × Int)} {f : Int} (hp : profB nm ps = true) (h1 : 1 ≤ f) (h2 : f ≤ 1000) : scaleI nm ps f f = (nm, ps, 0) := by
  have : sclB f = true := inB_mk ⟨h1, h2⟩
  simp [scaleI, scl2B, hp, this, sc_same hp h1, doneR_t hp]
theorem scale_fam {nm : ByteArray} {ps : List (Int × Int × Int)} {n : Int} (hp : profB nm ps = true) (h1 : 1 ≤ n) (h2 : n ≤ 1000) : scaleI nm ps n 100 = doneR nm (famR n 100 ps 1) := by
  have a : sclB n = true := inB_mk ⟨h1, h2⟩
  have b : sclB 100 = true := rfl
  simp [scaleI, scl2B, hp, a, b, famR]
theorem pitch_up {f n : Int} (h1 : 100000 ≤ f) (h2 : f ≤ 1299980) (h3 : 60 ≤ n) (h4 : n ≤ 99) : pitchI f n 100 = (rnd (f * 100) n, 0) ∧ f ≤ rnd (f * 100) n ∧ rnd (f * 100) n ≤ 20000000 := by
  have key : f ≤ rnd (f * 100) n ∧ rnd (f * 100) n ≤ 20000000 := by
    unfold rnd
    rw [if_neg (by omega)]
    constructor
    · refine (Int.le_ediv_iff_mul_le (by omega)).2 ?_
      have : f * n ≤ f * 99 := Int.mul_le_mul_of_nonneg_left h4 (by omega)
      have e : f * (2 * n) = 2 * (f * n) := Int.mul_left_comm _ _ _
      omega
    · refine Int.lt_add_one_iff.mp (Int.ediv_lt_of_lt_mul (by omega) ?_)
      omega
  refine ⟨?_, key⟩
  have a : freqB f = true := inB_mk (by omega)
  have b : sclB n = true := inB_mk (by omega)
  have c : freqB (rnd (f * 100) n) = true := inB_mk (by omega)
  have d : sclB 100 = true := rfl
  simp [pitchI, a, b, c, d]
theorem heightI_app (xs ys : List (Int × Int × Int)) : heightI (xs ++ ys) = heightI xs + heightI ys := by simp [heightI]
theorem mapK_hle {T : Nat → Int × Int × Int → Int × Int × Int} {ps : List (Int × Int × Int)} : ∀ n, n ≤ ps.length → (∀ k, k < n → (T k (rg ps k)).2.2 ≤ (rg ps k).2.2) → heightI (mapK T ps n) ≤ heightI (ps.take n)
  | 0, _, _ => by simp [mapK, heightI]
  | n + 1, hn, h => by
    have ih := mapK_hle n (by omega) (fun k hk => h k (by omega))
    have h1 := h n (by omega)
    rw [mapK, heightI_app, List.take_succ_eq_append_getElem (by omega), heightI_app, ← rg_eq (by omega)]
    have e : ∀ x : Int × Int × Int, heightI [x] = x.2.2 := fun x => by simp [heightI]
    rw [e, e]
    omega
theorem small_h {nm : ByteArray} {ps : List (Int × Int × Int)} {n : Int} (hp : profB nm ps = true) (h1 : 1 ≤ n) (h2 : n ≤ 100) : heightI (famR n 100 ps 1) ≤ heightI ps := by
  have := mapK_hle (T := scT n 100) (ps := ps) ps.length (Nat.le_refl _) (fun k hk => by
    have r := ringT_t (((profB_iff nm ps).1 hp).2.2.2.1 k hk)
    have a : (rg ps k).2.2 * n ≤ (rg ps k).2.2 * 100 := Int.mul_le_mul_of_nonneg_left h2 (by omega)
    have b : 0 ≤ (rg ps k).2.2 * n := Int.mul_nonneg (by omega) (by omega)
    simp only [scT, rnd]
    rw [if_neg (by omega)]
    omega)
  rwa [List.take_of_length_le (Nat.le_refl _)] at this
theorem fam3 {nm : ByteArray} {ps : List (Int × Int × Int)} {n : Int} (hp : profB nm ps = true) : famOk nm n 100 ps 3 = (profB nm (famR n 100 ps 1) && profB nm (famR n 100 ps 2)) := by
  have : profB nm (famR n 100 ps 0) = true := hp
  simp [famOk, List.range, List.range.loop, this]

end Go.Proofs.Ytmeeibcbhjifbaa

