/- A profile, thickened. -/
import Derived.Test.YtmickkodcclocaaGE
import Derived.Test.YtmickkodcclocaaRen
namespace Go.Proofs.Ytmickkodcclocaa
set_option linter.unusedVariables false
open Go.RowKit Go.Proofs.Bell Go.BigFrame

def thickT (d : Int) (_ : Nat) (r : Int × Int × Int) : Int × Int × Int := (r.1 + d, r.2.1, r.2.2)
def thickI (nm : ByteArray) (ps : List (Int × Int × Int)) (d : Int) : ByteArray × List (Int × Int × Int) × Int := if profB nm ps then (if inB d (-150000) 150000 then doneR nm (mapK (thickT d) ps ps.length) else (⟨#[]⟩, [], 2)) else (⟨#[]⟩, [], 1)
theorem doneR_len (nm : ByteArray) (qs : List (Int × Int × Int)) : (doneR nm qs).2.1.length ≤ 32 := by
  unfold doneR
  split
  · rename_i h; exact (profB_t h).2.1
  · simp
theorem thickI_len (nm : ByteArray) (ps : List (Int × Int × Int)) (d : Int) : (thickI nm ps d).2.1.length ≤ 32 := by
  unfold thickI
  split
  · split
    · exact doneR_len _ _
    · simp
  · simp

set_option maxHeartbeats 800000 in
theorem Thicken1_c (k : Nat) (p : Int × Int × Int) (d : Int) (a : Nat) (w : World) (c : w.cell? ⟨a, 0, none⟩ = some (.int .i64 d)) (h1 : -1000000 ≤ p.1 + d) (h2 : p.1 + d ≤ 1000000) :
    Calls Try.prog 158 #[.int .i64 k, ringV p, .pointer (some ⟨a, 0, none⟩)] w (RetB (ringV (thickT d k p)) w) := by
  have ha := World.block_lt_of_cell? w _ c
  simp only at ha
  obtain ⟨p0, p1, p2⟩ := p
  simp only [ringV, thickT] at *
  have ac := fun o => alloc_cell o c
  have ac2 := fun o o' => alloc_cell o' (alloc_cell o c)
  go_enter Try.func158, Try.ntmps158
  go_wp2
  go_returns
  exact RetB.mk rfl (by go_grown)

set_option maxRecDepth 100000 in
set_option maxHeartbeats 1600000 in
theorem implThickenProfile_c (nm : ByteArray) (sv : Value) (ps : List (Int × Int × Int)) (d : Int) (w : World) (hnm : nm.size ≤ maxLen) (hr : Rd w sv ps.length (trips ps)) :
    Calls Try.prog 76 #[.agg #[.string nm, sv], .int .i64 d] w (RetP2 (thickI nm ps d).1 (thickI nm ps d).2.1 (.int .i64 (thickI nm ps d).2.2) w) := by
  have hok := fun w' (hb : Below w.heap.size w w') => ValidProfile_c nm sv ps w' hnm (hr.later hb)
  have hin := fun w' => within_c d (-150000) 150000 w'
  cases t0 : profB nm ps <;> rw [t0] at hok
  · have he : thickI nm ps d = (⟨#[]⟩, [], 1) := by simp [thickI, t0]
    rw [he]
    have HOK := Lib.hid hok; clear hok
    clear he hr hin
    go_enter Try.func76, Try.ntmps76
    have b0 : Below w.heap.size w w := Below.refl _ _
    have z0 : w.heap.size ≤ w.heap.size := Nat.le_refl _
    go_wp2_with fail
    refine (HOK.out _ (by go_grown)).mono ?_
    rintro _ w1 ⟨rfl, r1⟩
    have s1 : Below w.heap.size w w1 := Below.trans (by go_grown) (r1.mono (by simp; try omega))
    have b1 := b0.trans (s1.mono z0)
    have z1 := b1.size
    have y1 := s1.size
    have v1 : w.heap.size + 3 ≤ w1.heap.size := by have := r1.size; simp only [World.size_alloc] at this; omega
    have c0_0_1 := below_cell r1 (p := ⟨w.heap.size, 0, none⟩) (v := .string nm) (by simp [go_sem])
    have c0_1_1 := below_cell r1 (p := ⟨w.heap.size, 1, none⟩) (v := sv) (by simp [go_sem])
    have c1_0_1 := below_cell r1 (p := ⟨w.heap.size + 1, 0, none⟩) (v := .int .i64 d) (by simp [go_sem])
    have c2_0_1 := below_cell r1 (p := ⟨w.heap.size + 1 + 1, 0, none⟩) (v := .string ⟨#[]⟩) (by simp [go_sem])
    have c2_1_1 := below_cell r1 (p := ⟨w.heap.size + 1 + 1, 1, none⟩) (v := .slice none 0 0) (by simp [go_sem])
    have f0_1 : ∀ j, w1.frozen? ⟨w.heap.size, j, none⟩ = false := fun j => (r1.frozen (p := ⟨w.heap.size, j, none⟩) (by simp [go_sem])).trans (by simp [go_sem])
    have f1_1 : ∀ j, w1.frozen? ⟨w.heap.size + 1, j, none⟩ = false := fun j => (r1.frozen (p := ⟨w.heap.size + 1, j, none⟩) (by simp [go_sem])).trans (by simp [go_sem])
    have f2_1 : ∀ j, w1.frozen? ⟨w.heap.size + 1 + 1, j, none⟩ = false := fun j => (r1.frozen (p := ⟨w.heap.size + 1 + 1, j, none⟩) (by simp [go_sem])).trans (by simp [go_sem])
    clear r1
    go_wp2
    refine bodyPost_ret (v := .tuple #[.agg #[.string ⟨#[]⟩, .slice none 0 0], .int .i64 1]) (by simp [results, Try.results76, go_sem, c2_0_1, c2_1_1]) rfl ?_
    exact RetP2.nil (Below.setCell (Below.setCell b1 (show w.heap.size ≤ w.heap.size + 1 + 1 by omega) _) (show w.heap.size ≤ w.heap.size + 1 + 1 by omega) _)
  · have HOK := Lib.hid hok; clear hok
    obtain ⟨hl1, hl2, hal, hht⟩ := profB_t t0
    cases t1 : inB d (-150000) 150000 <;> rw [t1] at hin
    · have he : thickI nm ps d = (⟨#[]⟩, [], 2) := by simp [thickI, t0, t1]
      rw [he]
      have HIN := Lib.hid hin; clear hin
      clear he hr
      go_enter Try.func76, Try.ntmps76
      have b0 : Below w.heap.size w w := Below.refl _ _
      have z0 : w.heap.size ≤ w.heap.size := Nat.le_refl _
      go_wp2_with fail
      refine (HOK.out _ (by go_grown)).mono ?_
      rintro _ w1 ⟨rfl, r1⟩
      have s1 : Below w.heap.size w w1 := Below.trans (by go_grown) (r1.mono (by simp; try omega))
      have b1 := b0.trans (s1.mono z0)
      have z1 := b1.size
      have y1 := s1.size
      have v1 : w.heap.size + 3 ≤ w1.heap.size := by have := r1.size; simp only [World.size_alloc] at this; omega
      have c0_0_1 := below_cell r1 (p := ⟨w.heap.size, 0, none⟩) (v := .string nm) (by simp [go_sem])
      have c0_1_1 := below_cell r1 (p := ⟨w.heap.size, 1, none⟩) (v := sv) (by simp [go_sem])
      have c1_0_1 := below_cell r1 (p := ⟨w.heap.size + 1, 0, none⟩) (v := .int .i64 d) (by simp [go_sem])
      have c2_0_1 := below_cell r1 (p := ⟨w.heap.size + 1 + 1, 0, none⟩) (v := .string ⟨#[]⟩) (by simp [go_sem])
      have c2_1_1 := below_cell r1 (p := ⟨w.heap.size + 1 + 1, 1, none⟩) (v := .slice none 0 0) (by simp [go_sem])
      have f0_1 : ∀ j, w1.frozen? ⟨w.heap.size, j, none⟩ = false := fun j => (r1.frozen (p := ⟨w.heap.size, j, none⟩) (by simp [go_sem])).trans (by simp [go_sem])
      have f1_1 : ∀ j, w1.frozen? ⟨w.heap.size + 1, j, none⟩ = false := fun j => (r1.frozen (p := ⟨w.heap.size + 1, j, none⟩) (by simp [go_sem])).trans (by simp [go_sem])
      have f2_1 : ∀ j, w1.frozen? ⟨w.heap.size + 1 + 1, j, none⟩ = false := fun j => (r1.frozen (p := ⟨w.heap.size + 1 + 1, j, none⟩) (by simp [go_sem])).trans (by simp [go_sem])
      clear r1
      go_wp2_with fail
      refine (HIN.out _).mono ?_
      rintro _ _ ⟨rfl, rfl⟩
      go_wp2
      refine bodyPost_ret (v := .tuple #[.agg #[.string ⟨#[]⟩, .slice none 0 0], .int .i64 2]) (by simp [results, Try.results76, go_sem, c2_0_1, c2_1_1]) rfl ?_
      exact RetP2.nil (Below.setCell (Below.setCell b1 (show w.heap.size ≤ w.heap.size + 1 + 1 by omega) _) (show w.heap.size ≤ w.heap.size + 1 + 1 by omega) _)
    · have he : thickI nm ps d = doneR nm (mapK (thickT d) ps ps.length) := by simp [thickI, t0, t1]
      rw [he]
      have hd1 : -150000 ≤ d ∧ d ≤ 150000 := by simpa [inB] using t1
      have hrs := fun w' (hb : Below w.heap.size w w') (a : Nat) (c : w'.cell? ⟨a, 0, none⟩ = some (.int .i64 d)) => reshaped_c 158 #[.pointer (some ⟨a, 0, none⟩)] (thickT d) nm sv ps w' hnm (hr.later hb) (by omega) (enters Try.func158 (by kernel_rfl) rfl)
        (fun k hk w'' hb'' => by
          have hq := ringT_t (all_at hal hk)
          exact Thicken1_c k (rg ps k) d a w'' (below_cell hb'' c) (by omega) (by omega))
      generalize doneR nm (mapK (thickT d) ps ps.length) = RES at *
      have HIN := Lib.hid hin; clear hin
      have HRS := Lib.hid hrs; clear hrs
      clear he hr hal
      go_enter Try.func76, Try.ntmps76
      have b0 : Below w.heap.size w w := Below.refl _ _
      have z0 : w.heap.size ≤ w.heap.size := Nat.le_refl _
      go_wp2_with fail
      refine (HOK.out _ (by go_grown)).mono ?_
      rintro _ w1 ⟨rfl, r1⟩
      have s1 : Below w.heap.size w w1 := Below.trans (by go_grown) (r1.mono (by simp; try omega))
      have b1 := b0.trans (s1.mono z0)
      have z1 := b1.size
      have y1 := s1.size
      have v1 : w.heap.size + 3 ≤ w1.heap.size := by have := r1.size; simp only [World.size_alloc] at this; omega
      have c0_0_1 := below_cell r1 (p := ⟨w.heap.size, 0, none⟩) (v := .string nm) (by simp [go_sem])
      have c0_1_1 := below_cell r1 (p := ⟨w.heap.size, 1, none⟩) (v := sv) (by simp [go_sem])
      have c1_0_1 := below_cell r1 (p := ⟨w.heap.size + 1, 0, none⟩) (v := .int .i64 d) (by simp [go_sem])
      have c2_0_1 := below_cell r1 (p := ⟨w.heap.size + 1 + 1, 0, none⟩) (v := .string ⟨#[]⟩) (by simp [go_sem])
      have c2_1_1 := below_cell r1 (p := ⟨w.heap.size + 1 + 1, 1, none⟩) (v := .slice none 0 0) (by simp [go_sem])
      have f0_1 : ∀ j, w1.frozen? ⟨w.heap.size, j, none⟩ = false := fun j => (r1.frozen (p := ⟨w.heap.size, j, none⟩) (by simp [go_sem])).trans (by simp [go_sem])
      have f1_1 : ∀ j, w1.frozen? ⟨w.heap.size + 1, j, none⟩ = false := fun j => (r1.frozen (p := ⟨w.heap.size + 1, j, none⟩) (by simp [go_sem])).trans (by simp [go_sem])
      have f2_1 : ∀ j, w1.frozen? ⟨w.heap.size + 1 + 1, j, none⟩ = false := fun j => (r1.frozen (p := ⟨w.heap.size + 1 + 1, j, none⟩) (by simp [go_sem])).trans (by simp [go_sem])
      clear r1
      go_wp2_with fail
      refine (HIN.out _).mono ?_
      rintro _ _ ⟨rfl, rfl⟩
      go_wp2_with fail
      refine (HRS.out _ b1 _ c1_0_1).mono ?_
      rintro _ w2 ⟨x2, rfl, n2, r2⟩
      have s2 := r2
      have b2 := b1.trans (s2.mono z1)
      have z2 := b2.size
      have y2 := s2.size
      have k0_2 := c0_0_1
      have c0_0_2 := below_cell s2 c0_0_1; clear c0_0_1
      have c0_1_2 := below_cell s2 c0_1_1; clear c0_1_1
      have k1_2 := c1_0_1
      have c1_0_2 := below_cell s2 c1_0_1; clear c1_0_1
      have k2_2 := c2_0_1
      have c2_0_2 := below_cell s2 c2_0_1; clear c2_0_1
      have c2_1_2 := below_cell s2 c2_1_1; clear c2_1_1
      have f0_2 : ∀ j, w2.frozen? ⟨w.heap.size, j, none⟩ = false := fun j => (s2.frozen (p := ⟨w.heap.size, j, none⟩) (show w.heap.size < _ from World.block_lt_of_cell? _ ⟨w.heap.size, 0, none⟩ k0_2)).trans (f0_1 j); clear f0_1
      have f1_2 : ∀ j, w2.frozen? ⟨w.heap.size + 1, j, none⟩ = false := fun j => (s2.frozen (p := ⟨w.heap.size + 1, j, none⟩) (show w.heap.size + 1 < _ from World.block_lt_of_cell? _ ⟨w.heap.size + 1, 0, none⟩ k1_2)).trans (f1_1 j); clear f1_1
      have f2_2 : ∀ j, w2.frozen? ⟨w.heap.size + 1 + 1, j, none⟩ = false := fun j => (s2.frozen (p := ⟨w.heap.size + 1 + 1, j, none⟩) (show w.heap.size + 1 + 1 < _ from World.block_lt_of_cell? _ ⟨w.heap.size + 1 + 1, 0, none⟩ k2_2)).trans (f2_1 j); clear f2_1
      clear r2
      obtain ⟨a2, p2, rfl⟩ := own_shape n2
      have lo2 := own_lo n2
      go_wp2
      refine bodyPost_ret (v := .tuple #[.agg #[.string RES.1, .slice a2 RES.2.1.length p2], .int .i64 RES.2.2]) (by simp [results, Try.results76, go_sem, *]) rfl ?_
      have o11 := own_set n2 (a := ⟨w.heap.size + 1 + 1, 0, none⟩) (fun k hk => by have := lo2 k hk; simp; omega) (.string RES.1)
      have o12 := own_set o11 (a := ⟨w.heap.size + 1 + 1, 1, none⟩) (fun k hk => by have := lo2 k hk; simp; omega) (.slice a2 RES.2.1.length p2)
      exact ⟨_, rfl, own_base o12 z1, (b2.setCell (show w.heap.size ≤ w.heap.size + 1 + 1 by omega) _).setCell (show w.heap.size ≤ w.heap.size + 1 + 1 by omega) _⟩

end Go.Proofs.Ytmickkodcclocaa
