/- Several texts of the proofs in one: Cat, Cat2, Spl, SplP. -/
import Derived.Test.YtgdadbmhdljcdaaGreatDoorGD
import Derived.Test.YtgdadbmhdljcdaaGreatDoorGF
import Derived.Test.YtgdadbmhdljcdaaGreatDoorUC
/- Lists of rings joined: slices.Grow and slices.Concat. -/
namespace Go.Proofs.YtgdadbmhdljcdaaGreatDoor
set_option linter.unusedVariables false
open Go.RowKit Go.Proofs.Bell Go.BigFrame

set_option maxRecDepth 100000 in
set_option maxHeartbeats 1600000 in
theorem GrowR_c (n : Nat) (w : World) (h0 : 1 ≤ n) (hn : n ≤ 1000) :
    Calls Tryz.prog 112 #[.slice none 0 0, .int .i64 n] w (RetOwnR [] w) := by
  obtain ⟨i0, hi0, hz0, hz1, hz2⟩ := info_parts info_Ring
  obtain ⟨G, hG⟩ : ∃ G, G = grownCap w n 0 37 := ⟨_, rfl⟩
  obtain ⟨ROW, hROW⟩ : ∃ ROW : Array Value, ROW = Builtin.zeroCells (Value.agg #[.int .i64 0, .int .i64 0, .int .i64 0]).cells n ++ Builtin.zeroCells (Value.agg #[.int .i64 0, .int .i64 0, .int .i64 0]).cells (G - n) := ⟨_, rfl⟩
  have hrz : ∀ ty, (Builtin.append_ #[24, 3] ty #[.slice none 0 0, .int .i64 n]).run Tryz.prog w = .ok (.slice (some ⟨w.heap.size, 0, none⟩) n G) (w.drew.alloc (.cells ROW 37)) := fun ty => by
    rw [hROW, hG]
    exact Lib.run_append_nil_zeros w 24 3 ty 37 i0 _ .i64 .i64 Tryz.underlying24 Tryz.underlying3 hi0 hz0 n (by omega) (by omega) (by omega) (by rw [hz2]; omega)
  have hGn : n ≤ G := by rw [hG]; exact grownCap_ge w _ _ _
  have hGm : G ≤ maxLen := by rw [hG]; exact grownCap_le_maxLen w n 0 37 (by unfold maxLen; omega)
  have hRs : ROW.size = G * 3 := by
    rw [hROW]
    simp only [Array.size_append, zeros_len, Value.cells]
    simp
    omega
  have hown : (w.drew.alloc (.cells ROW 37)).ownsRow w.heap.size 37 3 (.slice (some ⟨w.heap.size, 0, none⟩) 0 G) 0 [] := World.ownsRow_made w.drew ROW G (Nat.le_refl _) hGm hRs
  have hb : Below w.heap.size w (w.drew.alloc (.cells ROW 37)) := by go_grown
  have t1 : decide ((n : Int) < 0) = false := decide_eq_false (by omega)
  have t2 : decide (0 < n) = true := decide_eq_true (by omega)
  have hw : IntKind.i64.wrap (n : Int) = n := IntWalk.i64_in _ (by omega)
  have hG63 : G ≤ 9223372036854775807 := by unfold maxLen at hGm; omega
  clear hG hROW hRs hi0 hz0 hz1 hz2
  have HOWN := Lib.hid hown; clear hown
  go_enter Tryz.func112, Tryz.ntmps112
  go_wp2_with (at_builtin; refine Lib.wpList_append_run _ rfl _ _ _ _ rfl _ _ rfl rfl _ _ (hrz _) ?_)
  go_returns
  exact ⟨_, rfl, HOWN.out, hb⟩

/-- the first k lists joined -/
def catK (R : Nat → List (Int × Int × Int)) : Nat → List (Int × Int × Int)
  | 0 => []
  | k + 1 => catK R k ++ R k
def sumN (N : Nat → Nat) : Nat → Nat
  | 0 => 0
  | k + 1 => sumN N k + N k
theorem catK_len (R : Nat → List (Int × Int × Int)) : ∀ k, (catK R k).length = sumN (fun j => (R j).length) k
  | 0 => rfl
  | k + 1 => by rw [catK, List.length_append, catK_len R k]; rfl

end Go.Proofs.YtgdadbmhdljcdaaGreatDoor

/- slices.Concat at rings: three lists. -/
namespace Go.Proofs.YtgdadbmhdljcdaaGreatDoor
set_option linter.unusedVariables false
open Go.RowKit Go.Proofs.Bell Go.BigFrame

theorem cells_RingS : Tryz.prog.cellsOf 24 = 1 := by kernel_rfl
theorem has_RingS : (Tryz.prog.info? 24).isSome = true := by kernel_rfl
set_option maxRecDepth 100000 in
set_option maxHeartbeats 3200000 in
theorem ConcatR_c (vb m : Nat) (A : Nat → Addr) (C : Nat → Nat) (R : Nat → List (Int × Int × Int)) (w : World)
    (hv : ∀ j, j < m → w.cell? ⟨vb, j, none⟩ = some (.slice (some (A j)) (R j).length (C j))) (hm : 1 ≤ m) (hm2 : m ≤ 10)
    (hrd : ∀ j, j < m → ∀ w', Below w.heap.size w w' → ∀ t u, (trips (R j))[t]? = some u → w'.cell? ((A j).add t) = some u)
    (hl : ∀ k, k ≤ m → sumN (fun j => (R j).length) k ≤ 1000) (h1 : 1 ≤ sumN (fun j => (R j).length) m) :
    Calls Tryz.prog 54 #[.slice (some ⟨vb, 0, none⟩) m m] w (RetOwnR (catK R m) w) := by
  have hlen := catK_len R
  have hst : ∀ k, sumN (fun j => (R j).length) (k + 1) = sumN (fun j => (R j).length) k + (R k).length := fun k => rfl
  have hgr := fun w' => GrowR_c (sumN (fun j => (R j).length) m) w' h1 (hl m (Nat.le_refl _))
  have hck : ∀ k, catK R k ++ R k = catK R (k + 1) := fun k => rfl
  have HLEN := Lib.hid hlen; clear hlen
  have HST := Lib.hid hst; clear hst
  have HGR := Lib.hid hgr; clear hgr
  have HL := Lib.hid hl; clear hl
  have HRD := Lib.hid hrd; clear hrd
  have HCK := Lib.hid hck; clear hck
  have HV := Lib.hid hv; clear hv
  go_enter Tryz.func54, Tryz.ntmps54
  have b0 : Below w.heap.size w w := Below.refl _ _
  have z0 : w.heap.size ≤ w.heap.size := Nat.le_refl _
  go_wp2_with fail
  go_loop [11, 3] (fun i s => ∃ (k : Nat), k ≤ m ∧ i = .int .i64 k ∧ s = .int .i64 (sumN (fun j => (R j).length) k : Nat)) (fun i _ => m - (intOf i).toNat)
  case atStart => exact ⟨0, Nat.zero_le _, rfl, rfl⟩
  case round =>
    obtain ⟨k, hk, rfl, rfl⟩ := hrel
    by_cases hlt : k < m
    · have hx := HV.out k hlt
      have hs := HST.out k
      have hq := HL.out (k + 1) hlt
      rw [hs] at hq
      have hix := ix (P := Tryz.prog) (T := 156) (n := m) (cap := m) Tryz.underlying156 cells_RingS has_RingS (ao := some ⟨vb, 0, none⟩) (b := vb) (off := 0) (fun _ => rfl) (k := k) hlt _ rfl
      rw [Nat.mul_one, Nat.zero_add] at hix
      have hs3 : Value.int .i64 ((sumN (fun j => (R j).length) k + (R k).length : Nat) : Int) = Value.int .i64 ((sumN (fun j => (R j).length) (k + 1) : Nat) : Int) := by rw [hs]
      have HS3 := Lib.hid hs3; clear hs3
      clear hs
      generalize sumN (fun j => (R j).length) k = s at *
      generalize (R k).length = q at *
      have hw : IntKind.i64.wrap ((s : Int) + (q : Int)) = ((s + q : Nat) : Int) := by rw [IntWalk.i64_in _ (by omega)]; omega
      have t1 : decide (((s + q : Nat) : Int) < 0) = false := decide_eq_false (by omega)
      have t2 : decide ((s : Int) + (q : Int) < 0) = false := decide_eq_false (by omega)
      go_wp2
      go_round
      case rel => exact ⟨k + 1, by omega, by go_num, by first | exact HS3.out | (rw [← HS3.out]; simp)⟩
      case measure => simp [intOf]; omega
    · obtain rfl : k = m := by omega
      obtain ⟨m', rfl⟩ : ∃ m', m' = k := ⟨_, rfl⟩
      go_wp2_with fail
      refine (HGR.out _).mono ?_
      rintro _ w1 ⟨u1, rfl, o1, b1⟩
      clear hk hlt
      go_wp2_with fail
      go_loopw [27, 6] (fun i v wr => ∃ (k : Nat) (u : Value), k ≤ m' ∧ i = .int .i64 k ∧ v = u ∧ OwnR w.heap.size wr u (catK R k) ∧ Below w.heap.size w wr) (fun i _ _ => m' - (intOf i).toNat)
      case atStart => exact ⟨0, _, Nat.zero_le _, rfl, rfl, o1, b1⟩
      case round =>
        obtain ⟨k, u, hk, rfl, rfl, o2, b2⟩ := hrel
        have z2 := b2.size
        by_cases hlt : k < m'
        · have hx := below_cell b2 (HV.out k hlt)
          have hq := HL.out (k + 1) hlt
          have hq0 := HL.out k (by omega)
          have hle := HLEN.out k
          rw [HST.out k] at hq
          have hix := ix (P := Tryz.prog) (T := 156) (n := m') (cap := m') Tryz.underlying156 cells_RingS has_RingS (ao := some ⟨vb, 0, none⟩) (b := vb) (off := 0) (fun _ => rfl) (k := k) hlt _ rfl
          rw [Nat.mul_one, Nat.zero_add] at hix
          have hsr := HRD.out k hlt wr b2
          have O2 := Lib.hid o2; clear o2
          have HSR := Lib.hid hsr; clear hsr
          go_wp2_with (at_builtin; refine appA_R (.tmp 31) (.tmp 32) wr w.heap.size _ (catK R k) (R k) (A k) (R k).length (C k) (by rfl) (by rfl) (by rfl) (by rfl) rfl O2.out HSR.out (by omega) (by omega) z2 ?_; intro v3 w3 o3 q3)
          have b3 := Only.below b2 q3 z2 (fun b e => own_lo O2.out b e)
          rw [HCK.out k] at o3
          go_roundw
          case rel => exact ⟨k + 1, _, by omega, by go_num, rfl, o3, b3⟩
          case measure => simp [intOf]; omega
        · obtain rfl : k = m' := by omega
          go_wp2
          go_returns
          exact ⟨_, rfl, o2, b2⟩

end Go.Proofs.YtgdadbmhdljcdaaGreatDoor

/- A ring is divided: the plain words; three lists joined. -/
namespace Go.Proofs.YtgdadbmhdljcdaaGreatDoor
set_option linter.unusedVariables false
open Go.RowKit Go.Proofs.Bell Go.BigFrame

theorem Concat3_c (vb : Nat) (a0 a1 a2 : Addr) (c0 c1 c2 : Nat) (l0 l1 l2 : List (Int × Int × Int)) (w : World)
    (h0 : w.cell? ⟨vb, 0, none⟩ = some (.slice (some a0) l0.length c0)) (h1 : w.cell? ⟨vb, 1, none⟩ = some (.slice (some a1) l1.length c1)) (h2 : w.cell? ⟨vb, 2, none⟩ = some (.slice (some a2) l2.length c2))
    (r0 : ∀ w', Below w.heap.size w w' → ∀ t u, (trips l0)[t]? = some u → w'.cell? (a0.add t) = some u) (r1 : ∀ w', Below w.heap.size w w' → ∀ t u, (trips l1)[t]? = some u → w'.cell? (a1.add t) = some u) (r2 : ∀ w', Below w.heap.size w w' → ∀ t u, (trips l2)[t]? = some u → w'.cell? (a2.add t) = some u)
    (hl : l0.length + l1.length + l2.length ≤ 1000) (hp : 1 ≤ l0.length + l1.length + l2.length) :
    Calls Tryz.prog 54 #[.slice (some ⟨vb, 0, none⟩) 3 3] w (RetOwnR (l0 ++ l1 ++ l2) w) := by
  have h := ConcatR_c vb 3 (fun j => if j = 0 then a0 else if j = 1 then a1 else a2) (fun j => if j = 0 then c0 else if j = 1 then c1 else c2) (fun j => if j = 0 then l0 else if j = 1 then l1 else l2) w
    (fun j hj => by match j, hj with
      | 0, _ => simpa using h0
      | 1, _ => simpa using h1
      | 2, _ => simpa using h2)
    (by omega) (by omega)
    (fun j hj => by match j, hj with
      | 0, _ => simpa using r0
      | 1, _ => simpa using r1
      | 2, _ => simpa using r2)
    (fun k hk => by match k, hk with
      | 0, _ => simp [sumN]
      | 1, _ => simp [sumN]; omega
      | 2, _ => simp [sumN]; omega
      | 3, _ => simp [sumN]; omega)
    (by simp [sumN]; omega)
  have e : catK (fun j => if j = 0 then l0 else if j = 1 then l1 else l2) 3 = l0 ++ l1 ++ l2 := by simp [catK]
  rw [e] at h
  exact h

def sprL (ps : List (Int × Int × Int)) (k : Nat) (o : Int) : List (Int × Int × Int) := ps.take k ++ [((rg ps k).1, (rg ps k).2.1, o), ((rg ps k).1, (rg ps k).2.1, (rg ps k).2.2 - o)] ++ ps.drop (k + 1)
def splI (nm : ByteArray) (ps : List (Int × Int × Int)) (h : Int) : ByteArray × List (Int × Int × Int) × Int :=
  if askI nm ps h = 0 then (if ps.length = 32 then (⟨#[]⟩, [], 5) else (if h - heightI (ps.take (atK ps h)) < 10 ∨ (rg ps (atK ps h)).2.2 - (h - heightI (ps.take (atK ps h))) < 10 then (⟨#[]⟩, [], 6) else (nm, sprL ps (atK ps h) (h - heightI (ps.take (atK ps h))), 0))) else (⟨#[]⟩, [], askI nm ps h)
theorem sprL_len {ps : List (Int × Int × Int)} {k : Nat} (h : k < ps.length) (o : Int) : (sprL ps k o).length = ps.length + 1 := by
  simp [sprL]; omega
theorem splI_len (nm : ByteArray) (ps : List (Int × Int × Int)) (h : Int) : (splI nm ps h).2.1.length ≤ 33 := by
  unfold splI
  split
  · rename_i h0
    obtain ⟨hal, hl1, hl2, h1, h2⟩ := askI_zero h0
    split
    · simp
    · split
      · simp
      · have := sprL_len (atK_lt hl1 h2) (h - heightI (ps.take (atK ps h)))
        show (sprL ps (atK ps h) (h - heightI (ps.take (atK ps h)))).length ≤ 33
        omega
  · simp
/-- the reference's way: the lower part put in, the upper one shortened -/
theorem spl_put {ps : List (Int × Int × Int)} {k : Nat} (h : k < ps.length) (o : Int) :
    (insL ps k ((rg ps k).1, (rg ps k).2.1, o)).set (k + 1) ((rg ps k).1, (rg ps k).2.1, (rg ps k).2.2 - o) = sprL ps k o := by
  have hd : ps.drop k = rg ps k :: ps.drop (k + 1) := by rw [rg_eq h]; exact List.drop_eq_getElem_cons h
  have hl : (ps.take k).length = k := by rw [List.length_take]; omega
  unfold insL sprL
  rw [Int.toNat_natCast, hd, List.set_append_right _ _ (by omega), hl, show k + 1 - k = 1 by omega]
  simp
theorem ins_at {ps : List (Int × Int × Int)} {k : Nat} (h : k < ps.length) (r : Int × Int × Int) : rg (insL ps k r) (k + 1) = rg ps k := by
  have hd : ps.drop k = rg ps k :: ps.drop (k + 1) := by rw [rg_eq h]; exact List.drop_eq_getElem_cons h
  have hl : (ps.take k).length = k := by rw [List.length_take]; omega
  unfold insL
  rw [Int.toNat_natCast, hd]
  unfold rg
  rw [List.getD_eq_getElem?_getD, List.getElem?_append_right (by omega), hl, show k + 1 - k = 1 by omega]
  simp [rg]
theorem trips_put2 : ∀ (qs : List (Int × Int × Int)) (k : Nat) (z : Int), k < qs.length → (trips qs).set (k * 3 + 2) (.int .i64 z) = trips (qs.set k ((rg qs k).1, (rg qs k).2.1, z))
  | [], _, _, h => by simp at h
  | a :: qs, 0, z, _ => by simp [trips_cons, rg]
  | a :: qs, k + 1, z, h => by
    rw [show (k + 1) * 3 + 2 = (k * 3 + 2) + 1 + 1 + 1 by omega, trips_cons, List.set_cons_succ, List.set_cons_succ, List.set_cons_succ, trips_put2 qs k z (by simpa using h), List.set_cons_succ, trips_cons]
    simp [rg]

end Go.Proofs.YtgdadbmhdljcdaaGreatDoor

/- A ring is divided: the program's side. -/
namespace Go.Proofs.YtgdadbmhdljcdaaGreatDoor
set_option linter.unusedVariables false
open Go.RowKit Go.Proofs.Bell Go.BigFrame

structure SpSt (R P g1 g2 : Nat) (nm : ByteArray) (u : Value) (x0 x1 h1 h2 : Int) (w wr : World) : Prop where
  below : Below w.heap.size w wr
  r0 : wr.cell? ⟨R, 0, none⟩ = some (.string ⟨#[]⟩)
  r1 : wr.cell? ⟨R, 1, none⟩ = some (.slice none 0 0)
  rf : ∀ j, wr.frozen? ⟨R, j, none⟩ = false
  p0 : wr.cell? ⟨P, 0, none⟩ = some (.string nm)
  p1 : wr.cell? ⟨P, 1, none⟩ = some u
  a0 : wr.cell? ⟨g1, 0, none⟩ = some (.int .i64 x0)
  a1 : wr.cell? ⟨g1, 1, none⟩ = some (.int .i64 x1)
  a2 : wr.cell? ⟨g1, 2, none⟩ = some (.int .i64 h1)
  af : ∀ j, wr.frozen? ⟨g1, j, none⟩ = false
  b0 : wr.cell? ⟨g2, 0, none⟩ = some (.int .i64 x0)
  b1 : wr.cell? ⟨g2, 1, none⟩ = some (.int .i64 x1)
  b2 : wr.cell? ⟨g2, 2, none⟩ = some (.int .i64 h2)
  bf : ∀ j, wr.frozen? ⟨g2, j, none⟩ = false
  ne : g1 ≠ g2
  l1 : R < g1
  l2 : R < g2
  lP : P < R
  lw : w.heap.size ≤ R
theorem SpSt.new {R P : Nat} {nm : ByteArray} {u : Value} {x0 x1 x2 : Int} {w w2 : World} (b : Below w.heap.size w w2) (r0 : w2.cell? ⟨R, 0, none⟩ = some (.string ⟨#[]⟩)) (r1 : w2.cell? ⟨R, 1, none⟩ = some (.slice none 0 0)) (rf : ∀ j, w2.frozen? ⟨R, j, none⟩ = false) (p0 : w2.cell? ⟨P, 0, none⟩ = some (.string nm)) (p1 : w2.cell? ⟨P, 1, none⟩ = some u)
    (hR : R < w2.heap.size) (hP : P < R) (hw : w.heap.size ≤ R) :
    SpSt R P w2.heap.size (w2.heap.size + 1) nm u x0 x1 x2 x2 w (((w2.alloc (.cells #[.int .i64 x0, .int .i64 x1, .int .i64 x2] 37)).alloc (.cells #[.int .i64 x0, .int .i64 x1, .int .i64 x2] 37)).drew) ∧
    SpSt R P (w2.heap.size + 1) w2.heap.size nm u x0 x1 x2 x2 w (((w2.alloc (.cells #[.int .i64 x0, .int .i64 x1, .int .i64 x2] 37)).alloc (.cells #[.int .i64 x0, .int .i64 x1, .int .i64 x2] 37)).drew) := by
  have hb : Below w.heap.size w (((w2.alloc (.cells #[.int .i64 x0, .int .i64 x1, .int .i64 x2] 37)).alloc (.cells #[.int .i64 x0, .int .i64 x1, .int .i64 x2] 37)).drew) := ((b.alloc b.size _).alloc (by have := b.size; simp; omega) _).drew
  have q0 := alloc_cell (.cells #[.int .i64 x0, .int .i64 x1, .int .i64 x2] 37) (alloc_cell (.cells #[.int .i64 x0, .int .i64 x1, .int .i64 x2] 37) r0)
  have q1 := alloc_cell (.cells #[.int .i64 x0, .int .i64 x1, .int .i64 x2] 37) (alloc_cell (.cells #[.int .i64 x0, .int .i64 x1, .int .i64 x2] 37) r1)
  have q2 := alloc_cell (.cells #[.int .i64 x0, .int .i64 x1, .int .i64 x2] 37) (alloc_cell (.cells #[.int .i64 x0, .int .i64 x1, .int .i64 x2] 37) p0)
  have q3 := alloc_cell (.cells #[.int .i64 x0, .int .i64 x1, .int .i64 x2] 37) (alloc_cell (.cells #[.int .i64 x0, .int .i64 x1, .int .i64 x2] 37) p1)
  have qf : ∀ j, (((w2.alloc (.cells #[.int .i64 x0, .int .i64 x1, .int .i64 x2] 37)).alloc (.cells #[.int .i64 x0, .int .i64 x1, .int .i64 x2] 37)).drew).frozen? ⟨R, j, none⟩ = false := fun j => ((alloc_frozen _ (show R < _ by simp; omega)).trans (alloc_frozen _ (show R < _ by omega))).trans (rf j)
  have hc : ∀ j, (((w2.alloc (.cells #[.int .i64 x0, .int .i64 x1, .int .i64 x2] 37)).alloc (.cells #[.int .i64 x0, .int .i64 x1, .int .i64 x2] 37)).drew).cell? ⟨w2.heap.size, j, none⟩ = #[Value.int .i64 x0, .int .i64 x1, .int .i64 x2][j]? ∧ (((w2.alloc (.cells #[.int .i64 x0, .int .i64 x1, .int .i64 x2] 37)).alloc (.cells #[.int .i64 x0, .int .i64 x1, .int .i64 x2] 37)).drew).cell? ⟨w2.heap.size + 1, j, none⟩ = #[Value.int .i64 x0, .int .i64 x1, .int .i64 x2][j]? := fun j => ⟨by simp [go_sem], by simp [go_sem]⟩
  have hf : ∀ j, (((w2.alloc (.cells #[.int .i64 x0, .int .i64 x1, .int .i64 x2] 37)).alloc (.cells #[.int .i64 x0, .int .i64 x1, .int .i64 x2] 37)).drew).frozen? ⟨w2.heap.size, j, none⟩ = false ∧ (((w2.alloc (.cells #[.int .i64 x0, .int .i64 x1, .int .i64 x2] 37)).alloc (.cells #[.int .i64 x0, .int .i64 x1, .int .i64 x2] 37)).drew).frozen? ⟨w2.heap.size + 1, j, none⟩ = false := fun j => ⟨by simp [go_sem], by simp [go_sem]⟩
  exact ⟨⟨hb, q0, q1, qf, q2, q3, (hc 0).1, (hc 1).1, (hc 2).1, fun j => (hf j).1, (hc 0).2, (hc 1).2, (hc 2).2, fun j => (hf j).2, by omega, by omega, by omega, hP, hw⟩,
    ⟨hb, q0, q1, qf, q2, q3, (hc 0).2, (hc 1).2, (hc 2).2, fun j => (hf j).2, (hc 0).1, (hc 1).1, (hc 2).1, fun j => (hf j).1, by omega, by omega, by omega, hP, hw⟩⟩
theorem SpSt.put1 {R P g1 g2 : Nat} {nm : ByteArray} {u : Value} {x0 x1 y1 y2 : Int} {w wr : World} (h : SpSt R P g1 g2 nm u x0 x1 y1 y2 w wr) (z : Int) : SpSt R P g1 g2 nm u x0 x1 z y2 w (wr.setCell ⟨g1, 2, none⟩ (.int .i64 z)) := by
  have e1 := h.ne; have e2 := h.l1; have e3 := h.l2; have e4 := h.lP; have e5 := h.lw
  have k : ∀ {b j v}, wr.cell? ⟨b, j, none⟩ = some v → (b ≠ g1 ∨ j ≠ 2) → (wr.setCell ⟨g1, 2, none⟩ (.int .i64 z)).cell? ⟨b, j, none⟩ = some v := fun {b j v} e hn => by
    rw [World.cell?_setCell_other _ _ _ _ (by first | (intro he; simp at he; omega))]; exact e
  have f : ∀ {b : Nat}, (∀ j, wr.frozen? ⟨b, j, none⟩ = false) → ∀ j, (wr.setCell ⟨g1, 2, none⟩ (.int .i64 z)).frozen? ⟨b, j, none⟩ = false := fun hb j => by rw [World.frozen?_setCell]; exact hb j
  exact ⟨h.below.setCell (by show w.heap.size ≤ g1; omega) _, k h.r0 (.inl (by omega)), k h.r1 (.inl (by omega)), f h.rf, k h.p0 (.inl (by omega)), k h.p1 (.inl (by omega)), k h.a0 (.inr (by omega)), k h.a1 (.inr (by omega)), World.cell?_setCell_same _ _ _ h.a2, f h.af, k h.b0 (.inl (by omega)), k h.b1 (.inl (by omega)), k h.b2 (.inl (by omega)), f h.bf, e1, e2, e3, e4, e5⟩
theorem SpSt.flip {R P g1 g2 : Nat} {nm : ByteArray} {u : Value} {x0 x1 y1 y2 : Int} {w wr : World} (h : SpSt R P g1 g2 nm u x0 x1 y1 y2 w wr) : SpSt R P g2 g1 nm u x0 x1 y2 y1 w wr :=
  ⟨h.below, h.r0, h.r1, h.rf, h.p0, h.p1, h.b0, h.b1, h.b2, h.bf, h.a0, h.a1, h.a2, h.af, h.ne.symm, h.l2, h.l1, h.lP, h.lw⟩
theorem two_rings {w5 W : World} {a b c d e f : Int} (hW : Below (w5.alloc (.cells #[.int .i64 a, .int .i64 b, .int .i64 c, .int .i64 d, .int .i64 e, .int .i64 f] 37)).heap.size (w5.alloc (.cells #[.int .i64 a, .int .i64 b, .int .i64 c, .int .i64 d, .int .i64 e, .int .i64 f] 37)) W) :
    ∀ w', Below W.heap.size W w' → ∀ t u, (trips [(a, b, c), (d, e, f)])[t]? = some u → w'.cell? ((⟨w5.heap.size, 0, none⟩ : Addr).add t) = some u := fun w' q t u hu => by
  refine below_cell q (below_cell hW ?_)
  rw [add_norm _ rfl, Nat.zero_add, cell_of_row _ w5.heap.size t _ _ _ (heap_alloc_new w5 _)]
  simpa [trips] using hu
set_option maxRecDepth 100000 in
set_option maxHeartbeats 3200000 in
theorem implSplitRing_c (nm : ByteArray) (sv : Value) (ps : List (Int × Int × Int)) (h : Int) (w : World) (hnm : nm.size ≤ maxLen) (hr : Rd w sv ps.length (trips ps)) :
    Calls Tryz.prog 16 #[.agg #[.string nm, sv], .int .i64 h] w (RetP2 (splI nm ps h).1 (splI nm ps h).2.1 (.int .i64 (splI nm ps h).2.2) w) := by
  have hok := fun w' (hb : Below w.heap.size w w') => atHeight_c nm sv ps h w' hnm (hr.later hb)
  by_cases t0 : ¬ askI nm ps h = 0
  · have he : splI nm ps h = (⟨#[]⟩, [], askI nm ps h) := by simp [splI, t0]
    rw [he]
    have HOK := Lib.hid hok; clear hok
    clear he hr
    generalize askI nm ps h = code at *
    go_enter Tryz.func16, Tryz.ntmps16
    have b0 : Below w.heap.size w w := Below.refl _ _
    have z0 : w.heap.size ≤ w.heap.size := Nat.le_refl _
    go_wp2_with fail
    refine (HOK.out _ (by go_grown)).mono ?_
    rintro _ w1 ⟨rfl, r1⟩
    have s1 : Below w.heap.size w w1 := Below.trans (by go_grown) (r1.mono (by simp; try omega))
    have b1 := b0.trans (s1.mono z0)
    have z1 := b1.size
    have y1 := s1.size
    have v1 : w.heap.size + 2 ≤ w1.heap.size := by have := r1.size; simp only [World.size_alloc] at this; omega
    have c0_0_1 := below_cell r1 (p := ⟨w.heap.size, 0, none⟩) (v := .string nm) (by simp [go_sem])
    have c0_1_1 := below_cell r1 (p := ⟨w.heap.size, 1, none⟩) (v := sv) (by simp [go_sem])
    have c1_0_1 := below_cell r1 (p := ⟨w.heap.size + 1, 0, none⟩) (v := .string ⟨#[]⟩) (by simp [go_sem])
    have c1_1_1 := below_cell r1 (p := ⟨w.heap.size + 1, 1, none⟩) (v := .slice none 0 0) (by simp [go_sem])
    have f0_1 : ∀ j, w1.frozen? ⟨w.heap.size, j, none⟩ = false := fun j => (r1.frozen (p := ⟨w.heap.size, j, none⟩) (by simp [go_sem])).trans (by simp [go_sem])
    have f1_1 : ∀ j, w1.frozen? ⟨w.heap.size + 1, j, none⟩ = false := fun j => (r1.frozen (p := ⟨w.heap.size + 1, j, none⟩) (by simp [go_sem])).trans (by simp [go_sem])
    clear r1
    go_wp2
    refine bodyPost_ret (v := .tuple #[.agg #[.string ⟨#[]⟩, .slice none 0 0], .int .i64 code]) (by simp [results, Tryz.results16, go_sem, c1_0_1, c1_1_1]) rfl ?_
    exact RetP2.nil (Below.setCell (Below.setCell b1 (show w.heap.size ≤ w.heap.size + 1 by omega) _) (show w.heap.size ≤ w.heap.size + 1 by omega) _)
  · have t0 : askI nm ps h = 0 := Classical.not_not.1 t0
    obtain ⟨hal, hl1, hl2, h1, h2⟩ := askI_zero t0
    rw [t0] at hok
    have HOK := Lib.hid hok; clear hok
    have hk := atK_lt hl1 h2
    by_cases t2 : ps.length = 32
    · have he : splI nm ps h = (⟨#[]⟩, [], 5) := by simp [splI, t0, t2]
      rw [he]
      have t3 : decide ((32 : Int) ≤ (ps.length : Int)) = true := decide_eq_true (by omega)
      obtain ⟨_, ao, cap, _, _, rfl, _, _⟩ := hr.open
      clear he hr t2 hk
      go_enter Tryz.func16, Tryz.ntmps16
      have b0 : Below w.heap.size w w := Below.refl _ _
      have z0 : w.heap.size ≤ w.heap.size := Nat.le_refl _
      go_wp2_with fail
      refine (HOK.out _ (by go_grown)).mono ?_
      rintro _ w1 ⟨rfl, r1⟩
      have s1 : Below w.heap.size w w1 := Below.trans (by go_grown) (r1.mono (by simp; try omega))
      have b1 := b0.trans (s1.mono z0)
      have z1 := b1.size
      have y1 := s1.size
      have v1 : w.heap.size + 2 ≤ w1.heap.size := by have := r1.size; simp only [World.size_alloc] at this; omega
      have c0_0_1 := below_cell r1 (p := ⟨w.heap.size, 0, none⟩) (v := .string nm) (by simp [go_sem])
      have c0_1_1 := below_cell r1 (p := ⟨w.heap.size, 1, none⟩) (v := .slice ao ps.length cap) (by simp [go_sem])
      have c1_0_1 := below_cell r1 (p := ⟨w.heap.size + 1, 0, none⟩) (v := .string ⟨#[]⟩) (by simp [go_sem])
      have c1_1_1 := below_cell r1 (p := ⟨w.heap.size + 1, 1, none⟩) (v := .slice none 0 0) (by simp [go_sem])
      have f0_1 : ∀ j, w1.frozen? ⟨w.heap.size, j, none⟩ = false := fun j => (r1.frozen (p := ⟨w.heap.size, j, none⟩) (by simp [go_sem])).trans (by simp [go_sem])
      have f1_1 : ∀ j, w1.frozen? ⟨w.heap.size + 1, j, none⟩ = false := fun j => (r1.frozen (p := ⟨w.heap.size + 1, j, none⟩) (by simp [go_sem])).trans (by simp [go_sem])
      clear r1
      go_wp2
      refine bodyPost_ret (v := .tuple #[.agg #[.string ⟨#[]⟩, .slice none 0 0], .int .i64 5]) (by simp [results, Tryz.results16, go_sem, c1_0_1, c1_1_1]) rfl ?_
      exact RetP2.nil (Below.setCell (Below.setCell b1 (show w.heap.size ≤ w.heap.size + 1 by omega) _) (show w.heap.size ≤ w.heap.size + 1 by omega) _)
    · have hat := fun w' (hb : Below w.heap.size w w') => ringAt_c nm sv ps h w' (hr.later hb) hal hl1 hl2 h1 h2
      have t3 : decide ((32 : Int) ≤ (ps.length : Int)) = false := decide_eq_false (by omega)
      have r := ringT_t (all_at hal hk)
      have he : splI nm ps h = if h - heightI (ps.take (atK ps h)) < 10 ∨ (rg ps (atK ps h)).2.2 - (h - heightI (ps.take (atK ps h))) < 10 then (⟨#[]⟩, [], 6) else (nm, sprL ps (atK ps h) (h - heightI (ps.take (atK ps h))), 0) := by unfold splI; rw [if_pos t0, if_neg t2]
      have hhb := height_bd hal (atK ps h)
      have hob : -10000000 ≤ h - heightI (ps.take (atK ps h)) ∧ h - heightI (ps.take (atK ps h)) ≤ 10000000 := by
        have h3 := height_bd hal ps.length
        rw [List.take_length] at h3
        omega
      rw [he]
      clear he hhb
      generalize heightI (ps.take (atK ps h)) = base at *
      generalize atK ps h = k at *
      obtain ⟨o, ho⟩ : ∃ o, h - base = o := ⟨_, rfl⟩
      rw [ho] at hob ⊢
      have hwo : IntKind.i64.wrap (h - base) = o := by rw [ho]; exact IntWalk.i64_in _ (by omega)
      have hwz : IntKind.i64.wrap ((rg ps k).2.2 - o) = (rg ps k).2.2 - o := IntWalk.i64_in _ (by omega)
      have hsl := sprL_len hk o
      have hspl : sprL ps k o = ps.take k ++ [((rg ps k).1, (rg ps k).2.1, o), ((rg ps k).1, (rg ps k).2.1, (rg ps k).2.2 - o)] ++ ps.drop (k + 1) := rfl
      obtain ⟨RES, hres⟩ : ∃ RES, RES = (if o < 10 ∨ (rg ps k).2.2 - o < 10 then (⟨#[]⟩, [], 6) else (nm, sprL ps k o, 0) : ByteArray × List (Int × Int × Int) × Int) := ⟨_, rfl⟩
      rw [← hres]
      have HAT := Lib.hid hat; clear hat
      have HRES := Lib.hid hres; clear hres
      have HSPL := Lib.hid hspl; clear hspl
      have HSL := Lib.hid hsl; clear hsl
      clear ho hob
      have hrc := fun ao cap (e : sv = .slice ao ps.length cap) => rd_cap (ao := ao) (cap := cap) (n := ps.length) (n' := ps.length) (xs := trips ps) (w := w) (by rw [← e]; exact hr)
      obtain ⟨hcap, ao, cap, bb, off, rfl, hao, hcell⟩ := hr.open
      have hnc := hrc _ _ rfl
      obtain rfl : ao = some ⟨bb, off, none⟩ := hao (by omega)
      have hrt := rd_take (w := w) (ps := ps) (fun w' hb j u h1 h2 => hcell w' hb j u (by omega) h2) k
      have hrd := rd_drop (w := w) (ps := ps) (fun w' hb j u h1 h2 => hcell w' hb j u (by omega) h2) (k + 1)
      have HRT := Lib.hid hrt; clear hrt
      have HRD := Lib.hid hrd; clear hrd
      clear hrc hr hal
      go_enter Tryz.func16, Tryz.ntmps16
      have b0 : Below w.heap.size w w := Below.refl _ _
      have z0 : w.heap.size ≤ w.heap.size := Nat.le_refl _
      go_wp2_with fail
      refine (HOK.out _ (by go_grown)).mono ?_
      rintro _ w1 ⟨rfl, r1⟩
      have s1 : Below w.heap.size w w1 := Below.trans (by go_grown) (r1.mono (by simp; try omega))
      have b1 := b0.trans (s1.mono z0)
      have z1 := b1.size
      have y1 := s1.size
      have v1 : w.heap.size + 2 ≤ w1.heap.size := by have := r1.size; simp only [World.size_alloc] at this; omega
      have c0_0_1 := below_cell r1 (p := ⟨w.heap.size, 0, none⟩) (v := .string nm) (by simp [go_sem])
      have c0_1_1 := below_cell r1 (p := ⟨w.heap.size, 1, none⟩) (v := .slice (some ⟨bb, off, none⟩) ps.length cap) (by simp [go_sem])
      have c1_0_1 := below_cell r1 (p := ⟨w.heap.size + 1, 0, none⟩) (v := .string ⟨#[]⟩) (by simp [go_sem])
      have c1_1_1 := below_cell r1 (p := ⟨w.heap.size + 1, 1, none⟩) (v := .slice none 0 0) (by simp [go_sem])
      have f0_1 : ∀ j, w1.frozen? ⟨w.heap.size, j, none⟩ = false := fun j => (r1.frozen (p := ⟨w.heap.size, j, none⟩) (by simp [go_sem])).trans (by simp [go_sem])
      have f1_1 : ∀ j, w1.frozen? ⟨w.heap.size + 1, j, none⟩ = false := fun j => (r1.frozen (p := ⟨w.heap.size + 1, j, none⟩) (by simp [go_sem])).trans (by simp [go_sem])
      clear r1
      go_wp2_with fail
      refine (HAT.out _ b1).mono ?_
      rintro _ w2 ⟨rfl, r2⟩
      have s2 := r2
      have b2 := b1.trans (s2.mono z1)
      have z2 := b2.size
      have y2 := s2.size
      have k0_2 := c0_0_1
      have c0_0_2 := below_cell s2 c0_0_1; clear c0_0_1
      have c0_1_2 := below_cell s2 c0_1_1; clear c0_1_1
      have k1_2 := c1_0_1
      have c1_0_2 := below_cell s2 c1_0_1; clear c1_0_1
      have c1_1_2 := below_cell s2 c1_1_1; clear c1_1_1
      have f0_2 : ∀ j, w2.frozen? ⟨w.heap.size, j, none⟩ = false := fun j => (s2.frozen (p := ⟨w.heap.size, j, none⟩) (show w.heap.size < _ from World.block_lt_of_cell? _ ⟨w.heap.size, 0, none⟩ k0_2)).trans (f0_1 j); clear f0_1
      have f1_2 : ∀ j, w2.frozen? ⟨w.heap.size + 1, j, none⟩ = false := fun j => (s2.frozen (p := ⟨w.heap.size + 1, j, none⟩) (show w.heap.size + 1 < _ from World.block_lt_of_cell? _ ⟨w.heap.size + 1, 0, none⟩ k1_2)).trans (f1_1 j); clear f1_1
      clear r2
      have hp0 : w2.cell? ⟨bb, off + k * 3, none⟩ = some (.int .i64 (rg ps k).1) := by rw [rg_eq hk]; exact hcell _ b2 _ _ (by omega) (trips_at hk).1
      have hp1 : w2.cell? ⟨bb, off + k * 3 + 1, none⟩ = some (.int .i64 (rg ps k).2.1) := by rw [rg_eq hk]; exact hcell _ b2 _ _ (by omega) (trips_at hk).2.1
      have hp2 : w2.cell? ⟨bb, off + k * 3 + 2, none⟩ = some (.int .i64 (rg ps k).2.2) := by rw [rg_eq hk]; exact hcell _ b2 _ _ (by omega) (trips_at hk).2.2
      have hix := ix (P := Tryz.prog) (T := 24) (cap := cap) Tryz.underlying24 cells_Ring has_Ring (ao := some ⟨bb, off, none⟩) (b := bb) (off := off) (n := ps.length) (fun _ => rfl) (k := k) hk _ rfl
      clear hcell hao
      generalize hy0 : (rg ps k).1 = x0 at *
      generalize hy1 : (rg ps k).2.1 = x1 at *
      generalize hy2 : (rg ps k).2.2 = x2 at *
      have HY0 := Lib.hid hy0; clear hy0
      have HY1 := Lib.hid hy1; clear hy1
      have HY2 := Lib.hid hy2; clear hy2
      have ap0 := fun o => alloc_cell o hp0
      have ap1 := fun o => alloc_cell o hp1
      have ap2 := fun o => alloc_cell o hp2
      have aq0 := fun o o' => alloc_cell o' (alloc_cell o hp0)
      have aq1 := fun o o' => alloc_cell o' (alloc_cell o hp1)
      have aq2 := fun o o' => alloc_cell o' (alloc_cell o hp2)
      have ab1 := fun o => alloc_cell o c0_1_2
      have ad1 := fun o o' => alloc_cell o' (alloc_cell o c0_1_2)
      have hnew := SpSt.new (x0 := x0) (x1 := x1) (x2 := x2) b2 c1_0_2 c1_1_2 f1_2 c0_0_2 c0_1_2 (show w.heap.size + 1 < _ from World.block_lt_of_cell? _ ⟨w.heap.size + 1, 0, none⟩ c1_0_2) (by omega) (by omega)
      have HNEW := Lib.hid hnew; clear hnew
      go_upto_region 7 with fail
      go_cut [9, 10] from 29 (fun s9 s10 wx => ∃ g1 g2, s9 = .pointer (some ⟨g1, 0, none⟩) ∧ s10 = .pointer (some ⟨g2, 0, none⟩) ∧ SpSt (w.heap.size + 1) w.heap.size g1 g2 nm (.slice (some ⟨bb, off, none⟩) ps.length cap) x0 x1 x2 x2 w wx)
      case first =>
        go_region
        all_goals (go_wp2_with fail; go_meet; first | exact ⟨_, _, rfl, rfl, HNEW.out.1⟩ | exact ⟨_, _, rfl, rfl, HNEW.out.2⟩)
      case rest =>
      obtain ⟨g1, g2, rfl, rfl, st⟩ := hcut
      generalize wc = w3 at *
      clear HNEW ap0 ap1 ap2 aq0 aq1 aq2 ab1 ad1 hp0 hp1 hp2 c0_0_2 c0_1_2 c1_0_2 c1_1_2 f0_2 f1_2 hix
      have st1 := st.put1 o
      have a2 := st.a2
      have af := st.af
      have ST1 := Lib.hid st1; clear st1
      clear st
      go_upto_region 9 with fail
      clear a2 af
      generalize w3.setCell ⟨g1, 2, none⟩ (.int .i64 o) = w4 at *
      have st2 := (ST1.out.flip.put1 (x2 - o)).flip
      have a2 := ST1.out.a2
      have b2 := ST1.out.b2
      have bf := ST1.out.bf
      have ST2 := Lib.hid st2; clear st2
      clear ST1
      go_upto_region 10 with fail
      clear a2 b2 bf
      generalize w4.setCell ⟨g2, 2, none⟩ (.int .i64 (x2 - o)) = w5 at *
      have a0 := ST2.out.a0
      have a1 := ST2.out.a1
      have a2 := ST2.out.a2
      have b0 := ST2.out.b0
      have b1 := ST2.out.b1
      have b2 := ST2.out.b2
      have p0 := ST2.out.p0
      have p1 := ST2.out.p1
      have r0 := ST2.out.r0
      have r1 := ST2.out.r1
      have rf := ST2.out.rf
      have hbel := ST2.out.below
      by_cases t4 : o < 10
      · have t5 : decide (o < 10) = true := decide_eq_true t4
        have e := HRES.out
        rw [if_pos (Or.inl t4)] at e
        subst e
        go_wp2
        refine bodyPost_ret (v := .tuple #[.agg #[.string ⟨#[]⟩, .slice none 0 0], .int .i64 6]) (by simp [results, Tryz.results16, go_sem, r0, r1]) rfl ?_
        exact RetP2.nil (Below.setCell (Below.setCell hbel (show w.heap.size ≤ w.heap.size + 1 by omega) _) (show w.heap.size ≤ w.heap.size + 1 by omega) _)
      · have t5 : decide (o < 10) = false := decide_eq_false t4
        by_cases t6 : x2 - o < 10
        · have t7 : decide (x2 - o < 10) = true := decide_eq_true t6
          have e := HRES.out
          rw [if_pos (Or.inr t6)] at e
          subst e
          go_wp2
          refine bodyPost_ret (v := .tuple #[.agg #[.string ⟨#[]⟩, .slice none 0 0], .int .i64 6]) (by simp [results, Tryz.results16, go_sem, r0, r1]) rfl ?_
          exact RetP2.nil (Below.setCell (Below.setCell hbel (show w.heap.size ≤ w.heap.size + 1 by omega) _) (show w.heap.size ≤ w.heap.size + 1 by omega) _)
        · have t7 : decide (x2 - o < 10) = false := decide_eq_false t6
          have e := HRES.out
          rw [if_neg (by omega)] at e
          subst e
          have hlt : (ps.take k).length = k := by rw [List.length_take]; omega
          have hld : (ps.drop (k + 1)).length = ps.length - (k + 1) := by rw [List.length_drop]
          obtain ⟨A, hA, hra⟩ : ∃ A : Addr, (if cap = k + 1 then some (⟨bb, off, none⟩ : Addr) else some ⟨bb, off + (k + 1) * 3, none⟩) = some A ∧ Hid (∀ w', Below w.heap.size w w' → ∀ j u, (trips (ps.drop (k + 1)))[j]? = some u → w'.cell? (A.add j) = some u) := by
            by_cases hc : cap = k + 1
            · refine ⟨⟨bb, off, none⟩, by simp [hc], Lib.hid fun w' _ j u hj => ?_⟩
              rw [List.drop_of_length_le (by omega)] at hj
              simp [trips] at hj
            · exact ⟨_, by rw [if_neg hc], Lib.hid HRD.out⟩
          have hcc := fun vb W (h0 : W.cell? ⟨vb, 0, none⟩ = some (.slice (some ⟨bb, off, none⟩) k cap)) (h1 : W.cell? ⟨vb, 1, none⟩ = some (.slice (some ⟨w5.heap.size, 0, none⟩) 2 2)) (h2 : W.cell? ⟨vb, 2, none⟩ = some (.slice (some A) (ps.length - (k + 1)) (cap - (k + 1)))) (hb : Below w.heap.size w W) hr1 =>
            Concat3_c vb ⟨bb, off, none⟩ ⟨w5.heap.size, 0, none⟩ A cap 2 (cap - (k + 1)) (ps.take k) [(x0, x1, o), (x0, x1, x2 - o)] (ps.drop (k + 1)) W (by rw [hlt]; exact h0) h1 (by rw [hld]; exact h2) (fun w' q => HRT.out w' (hb.trans (q.mono hb.size))) hr1 (fun w' q => hra.out w' (hb.trans (q.mono hb.size))) (by rw [hlt, hld]; simp; omega) (by rw [hlt, hld]; simp; omega)
          rw [← HSPL.out] at hcc
          have hg1 := ST2.out.l1
          have hg2 := ST2.out.l2
          have hn0 : w.heap.size ≠ w.heap.size + 1 := by omega
          have hn1 : g1 ≠ w.heap.size + 1 := by omega
          have hn2 : g2 ≠ w.heap.size + 1 := by omega
          have hkc : k ≤ cap := by omega
          have hkc1 : k + 1 ≤ cap := by omega
          have hwk : IntKind.i64.wrap ((k : Int) + 1) = (k : Int) + 1 := IntWalk.i64_in _ (by omega)
          have hA1 : (0 : Int) ≤ (k : Int) + 1 := by omega
          have hA2 : (k : Int) + 1 ≤ (ps.length : Int) := by omega
          have hA3 : ((k : Int) + 1).toNat = k + 1 := by omega
          have hRw : w.heap.size + 1 < w5.heap.size := World.block_lt_of_cell? _ ⟨w.heap.size + 1, 0, none⟩ r0
          have HCC := Lib.hid hcc; clear hcc
          have HLT := Lib.hid hlt; clear hlt
          have HLD := Lib.hid hld; clear hld
          generalize sprL ps k o = qs at *
          go_upto_region 12 with fail
          go_region_held3 (fun w' => w'.cell? ⟨w.heap.size, 0, none⟩ = some (.string nm) ∧ w'.cell? ⟨w.heap.size, 1, none⟩ = some (.slice (some ⟨bb, off, none⟩) ps.length cap) ∧ w'.cell? ⟨g1, 0, none⟩ = some (.int .i64 x0) ∧ w'.cell? ⟨g1, 1, none⟩ = some (.int .i64 x1) ∧ w'.cell? ⟨g1, 2, none⟩ = some (.int .i64 o) ∧ w'.cell? ⟨g2, 0, none⟩ = some (.int .i64 x0) ∧ w'.cell? ⟨g2, 1, none⟩ = some (.int .i64 x1) ∧ w'.cell? ⟨g2, 2, none⟩ = some (.int .i64 (x2 - o)))
            (first | with_reducible exact ⟨p0, p1, a0, a1, a2, b0, b1, b2⟩ | with_reducible exact ⟨two_keep p0 hn0, two_keep p1 hn0, two_keep a0 hn1, two_keep a1 hn1, two_keep a2 hn1, two_keep b0 hn2, two_keep b1 hn2, two_keep b2 hn2⟩ | exact ⟨below_cell (by go_grown) p0, below_cell (by go_grown) p1, below_cell (by go_grown) a0, below_cell (by go_grown) a1, below_cell (by go_grown) a2, below_cell (by go_grown) b0, below_cell (by go_grown) b1, below_cell (by go_grown) b2⟩)
            ((go_at_call 54; refine (HCC.out _ _ (by simp [go_sem]) (by simp [go_sem]) (by simp [go_sem]) (hbel.trans (Below.mono (by go_grown) hbel.size)) (two_rings (by go_grown))).mono ?_; rintro _ w6 ⟨v6, rfl, o6, q6⟩; have s6 : Below w5.heap.size w5 w6 := Below.trans (by go_grown) (q6.mono (by simp; try omega)); have p0 := below_cell s6 p0; have p1 := below_cell s6 p1; have a0 := below_cell s6 a0; have a1 := below_cell s6 a1; have a2 := below_cell s6 a2; have b0 := below_cell s6 b0; have b1 := below_cell s6 b1; have b2 := below_cell s6 b2; have r0 := below_cell s6 r0; have r1 := below_cell s6 r1; have rf : ∀ j, w6.frozen? ⟨w.heap.size + 1, j, none⟩ = false := (fun j => (s6.frozen (p := ⟨w.heap.size + 1, j, none⟩) hRw).trans (rf j)); have b6 := hbel.trans (s6.mono hbel.size); have o7 : OwnR w5.heap.size w6 v6 qs := own_base o6 (by simp; try omega); obtain ⟨a6, c6, hv⟩ := own_shape o7; rw [HSL.out] at hv; subst hv; have O7 := Lib.hid o7; clear o7; clear o6 q6))
          all_goals (
            have lo7 := own_lo O7.out
            go_wp2
            refine bodyPost_ret (v := .tuple #[.agg #[.string nm, .slice a6 (ps.length + 1) c6], .int .i64 0]) (by simp [results, Tryz.results16, go_sem, r0, r1]) rfl ?_
            have o11 := own_set O7.out (a := ⟨w.heap.size + 1, 0, none⟩) (fun q hq => by have h8 := lo7 q hq; show w.heap.size + 1 ≠ q; omega) (.string nm)
            have o12 := own_set o11 (a := ⟨w.heap.size + 1, 1, none⟩) (fun q hq => by have h8 := lo7 q hq; show w.heap.size + 1 ≠ q; omega) (.slice a6 (ps.length + 1) c6)
            exact ⟨_, rfl, own_base o12 (by omega), (b6.setCell (show w.heap.size ≤ w.heap.size + 1 by omega) _).setCell (show w.heap.size ≤ w.heap.size + 1 by omega) _⟩)

end Go.Proofs.YtgdadbmhdljcdaaGreatDoor

