/- A ring is removed: the program's side. -/
import Derived.Test.YtmickkodcclocaaGF
import Derived.Test.YtmickkodcclocaaRem2
import Derived.Test.YtmickkodcclocaaThick
namespace Go.Proofs.Ytmickkodcclocaa
set_option linter.unusedVariables false
open Go.RowKit Go.Proofs.Bell Go.BigFrame

def remL (ps : List (Int × Int × Int)) (k : Int) : List (Int × Int × Int) := ps.take k.toNat ++ ps.drop (k.toNat + 1)
def remI (nm : ByteArray) (ps : List (Int × Int × Int)) (k : Int) : ByteArray × List (Int × Int × Int) × Int := if profB nm ps then (if inB k 0 ((ps.length : Int) - 1) then doneR nm (remL ps k) else (⟨#[]⟩, [], 2)) else (⟨#[]⟩, [], 1)
theorem remI_len (nm : ByteArray) (ps : List (Int × Int × Int)) (k : Int) : (remI nm ps k).2.1.length ≤ 32 := by
  unfold remI
  split
  · split
    · exact doneR_len _ _
    · simp
  · simp

set_option maxRecDepth 100000 in
set_option maxHeartbeats 1600000 in
theorem implRemoveRing_c (nm : ByteArray) (sv : Value) (ps : List (Int × Int × Int)) (k : Int) (w : World) (hnm : nm.size ≤ maxLen) (hr : Rd w sv ps.length (trips ps)) :
    Calls Try.prog 38 #[.agg #[.string nm, sv], .int .i64 k] w (RetP2 (remI nm ps k).1 (remI nm ps k).2.1 (.int .i64 (remI nm ps k).2.2) w) := by
  have hok := fun w' (hb : Below w.heap.size w w') => ValidProfile_c nm sv ps w' hnm (hr.later hb)
  cases t0 : profB nm ps <;> rw [t0] at hok
  · have he : remI nm ps k = (⟨#[]⟩, [], 1) := by simp [remI, t0]
    rw [he]
    have HOK := Lib.hid hok; clear hok
    clear he hr
    go_enter Try.func38, Try.ntmps38
    have b0 : Below w.heap.size w w := Below.refl _ _
    have z0 : w.heap.size ≤ w.heap.size := Nat.le_refl _
    go_wp2_with fail
    refine (HOK.out _ (by go_grown)).mono ?_
    rintro _ w1 ⟨rfl, r1⟩
    have s1 : Below w.heap.size w w1 := Below.trans (by go_grown) (r1.mono (by simp; try omega))
    have b1 := b0.trans (s1.mono z0)
    have z1 := b1.size
    have y1 := s1.size
    have v1 : w.heap.size + 2 ≤ w1.heap.size := by have := r1.size; simp only [World.size_alloc] at this; omega
    have c0_0_1 := below_cell r1 (p := ⟨w.heap.size, 0, none⟩) (v := .string nm) (by simp [go_sem])
    have c0_1_1 := below_cell r1 (p := ⟨w.heap.size, 1, none⟩) (v := sv) (by simp [go_sem])
    have c1_0_1 := below_cell r1 (p := ⟨w.heap.size + 1, 0, none⟩) (v := .string ⟨#[]⟩) (by simp [go_sem])
    have c1_1_1 := below_cell r1 (p := ⟨w.heap.size + 1, 1, none⟩) (v := .slice none 0 0) (by simp [go_sem])
    have f0_1 : ∀ j, w1.frozen? ⟨w.heap.size, j, none⟩ = false := fun j => (r1.frozen (p := ⟨w.heap.size, j, none⟩) (by simp [go_sem])).trans (by simp [go_sem])
    have f1_1 : ∀ j, w1.frozen? ⟨w.heap.size + 1, j, none⟩ = false := fun j => (r1.frozen (p := ⟨w.heap.size + 1, j, none⟩) (by simp [go_sem])).trans (by simp [go_sem])
    clear r1
    go_wp2
    refine bodyPost_ret (v := .tuple #[.agg #[.string ⟨#[]⟩, .slice none 0 0], .int .i64 1]) (by simp [results, Try.results38, go_sem, c1_0_1, c1_1_1]) rfl ?_
    exact RetP2.nil (Below.setCell (Below.setCell b1 (show w.heap.size ≤ w.heap.size + 1 by omega) _) (show w.heap.size ≤ w.heap.size + 1 by omega) _)
  · have HOK := Lib.hid hok; clear hok
    obtain ⟨hl1, hl2, hal, hht⟩ := profB_t t0
    have hin := fun w' => within_c k 0 ((ps.length : Int) - 1) w'
    have hsz := fun w' (hb : Below w.heap.size w w') => sizeR_c sv ps.length (trips ps) w' (hr.later hb)
    have hw1 : IntKind.i64.wrap ((ps.length : Int) - 1) = (ps.length : Int) - 1 := IntWalk.i64_in _ (by omega)
    cases t1 : inB k 0 ((ps.length : Int) - 1) <;> rw [t1] at hin
    · have he : remI nm ps k = (⟨#[]⟩, [], 2) := by simp [remI, t0, t1]
      rw [he]
      have HIN := Lib.hid hin; clear hin
      have HSZ := Lib.hid hsz; clear hsz
      clear he hr
      go_enter Try.func38, Try.ntmps38
      have b0 : Below w.heap.size w w := Below.refl _ _
      have z0 : w.heap.size ≤ w.heap.size := Nat.le_refl _
      go_wp2_with fail
      refine (HOK.out _ (by go_grown)).mono ?_
      rintro _ w1 ⟨rfl, r1⟩
      have s1 : Below w.heap.size w w1 := Below.trans (by go_grown) (r1.mono (by simp; try omega))
      have b1 := b0.trans (s1.mono z0)
      have z1 := b1.size
      have y1 := s1.size
      have v1 : w.heap.size + 2 ≤ w1.heap.size := by have := r1.size; simp only [World.size_alloc] at this; omega
      have c0_0_1 := below_cell r1 (p := ⟨w.heap.size, 0, none⟩) (v := .string nm) (by simp [go_sem])
      have c0_1_1 := below_cell r1 (p := ⟨w.heap.size, 1, none⟩) (v := sv) (by simp [go_sem])
      have c1_0_1 := below_cell r1 (p := ⟨w.heap.size + 1, 0, none⟩) (v := .string ⟨#[]⟩) (by simp [go_sem])
      have c1_1_1 := below_cell r1 (p := ⟨w.heap.size + 1, 1, none⟩) (v := .slice none 0 0) (by simp [go_sem])
      have f0_1 : ∀ j, w1.frozen? ⟨w.heap.size, j, none⟩ = false := fun j => (r1.frozen (p := ⟨w.heap.size, j, none⟩) (by simp [go_sem])).trans (by simp [go_sem])
      have f1_1 : ∀ j, w1.frozen? ⟨w.heap.size + 1, j, none⟩ = false := fun j => (r1.frozen (p := ⟨w.heap.size + 1, j, none⟩) (by simp [go_sem])).trans (by simp [go_sem])
      clear r1
      go_wp2_with fail
      refine (HSZ.out _ b1).mono ?_
      rintro _ _ ⟨rfl, rfl⟩
      go_wp2_with fail
      refine (HIN.out _).mono ?_
      rintro _ _ ⟨rfl, rfl⟩
      go_wp2
      refine bodyPost_ret (v := .tuple #[.agg #[.string ⟨#[]⟩, .slice none 0 0], .int .i64 2]) (by simp [results, Try.results38, go_sem, c1_0_1, c1_1_1]) rfl ?_
      exact RetP2.nil (Below.setCell (Below.setCell b1 (show w.heap.size ≤ w.heap.size + 1 by omega) _) (show w.heap.size ≤ w.heap.size + 1 by omega) _)
    · have he : remI nm ps k = doneR nm (remL ps k) := by simp [remI, t0, t1]
      rw [he]
      have hk2 : 0 ≤ k ∧ k ≤ (ps.length : Int) - 1 := by simpa [inB] using t1
      obtain ⟨i, rfl⟩ : ∃ i : Nat, k = (i : Int) := ⟨k.toNat, by omega⟩
      have hi : i < ps.length := by omega
      have hw2 : IntKind.i64.wrap ((i : Int) + 1) = ((i + 1 : Nat) : Int) := by rw [IntWalk.i64_in _ (by omega)]; omega
      have hcl := fun w' (hb : Below w.heap.size w w') => CloneR_c sv ps w' (hr.later hb) hl1 (by omega)
      have hdel := fun base g cap w' (ho : OwnR base w' (.slice (some ⟨g, 0, none⟩) ps.length cap) ps) => DeleteR_c base g cap i (i + 1) ps w' ho hi rfl (by omega)
      have hdone := fun base w' v (ho : OwnR base w' v (remL ps i)) => orState_c base nm v _ w' hnm ho
      have hrl : ps.take i ++ ps.drop (i + 1) = remL ps i := rfl
      rw [hrl] at hdel
      have hll : (remL ps i).length = ps.length - 1 := by simp [remL]; omega
      have HLL := Lib.hid hll; clear hll
      generalize doneR nm (remL ps i) = RES at *
      generalize remL ps i = qs at *
      have HIN := Lib.hid hin; clear hin
      have HSZ := Lib.hid hsz; clear hsz
      have HCL := Lib.hid hcl; clear hcl
      have HDEL := Lib.hid hdel; clear hdel
      have HDONE := Lib.hid hdone; clear hdone
      have HL1 := Lib.hid hl1; clear hl1
      obtain ⟨_, ao, cap, _, _, rfl, _, _⟩ := hr.open
      clear he hr hal hrl
      go_enter Try.func38, Try.ntmps38
      have b0 : Below w.heap.size w w := Below.refl _ _
      have z0 : w.heap.size ≤ w.heap.size := Nat.le_refl _
      go_wp2_with fail
      refine (HOK.out _ (by go_grown)).mono ?_
      rintro _ w1 ⟨rfl, r1⟩
      have s1 : Below w.heap.size w w1 := Below.trans (by go_grown) (r1.mono (by simp; try omega))
      have b1 := b0.trans (s1.mono z0)
      have z1 := b1.size
      have y1 := s1.size
      have v1 : w.heap.size + 2 ≤ w1.heap.size := by have := r1.size; simp only [World.size_alloc] at this; omega
      have c0_0_1 := below_cell r1 (p := ⟨w.heap.size, 0, none⟩) (v := .string nm) (by simp [go_sem])
      have c0_1_1 := below_cell r1 (p := ⟨w.heap.size, 1, none⟩) (v := .slice ao ps.length cap) (by simp [go_sem])
      have c1_0_1 := below_cell r1 (p := ⟨w.heap.size + 1, 0, none⟩) (v := .string ⟨#[]⟩) (by simp [go_sem])
      have c1_1_1 := below_cell r1 (p := ⟨w.heap.size + 1, 1, none⟩) (v := .slice none 0 0) (by simp [go_sem])
      have f0_1 : ∀ j, w1.frozen? ⟨w.heap.size, j, none⟩ = false := fun j => (r1.frozen (p := ⟨w.heap.size, j, none⟩) (by simp [go_sem])).trans (by simp [go_sem])
      have f1_1 : ∀ j, w1.frozen? ⟨w.heap.size + 1, j, none⟩ = false := fun j => (r1.frozen (p := ⟨w.heap.size + 1, j, none⟩) (by simp [go_sem])).trans (by simp [go_sem])
      clear r1
      go_wp2_with fail
      refine (HSZ.out _ b1).mono ?_
      rintro _ _ ⟨rfl, rfl⟩
      go_wp2_with fail
      refine (HIN.out _).mono ?_
      rintro _ _ ⟨rfl, rfl⟩
      go_wp2_with fail
      have e0 := c0_0_1
      have e1 := c0_1_1
      have r0 := c1_0_1
      have r1 := c1_1_1
      have rf := f1_1
      clear c0_0_1 c0_1_1 c1_0_1 c1_1_1 f1_1
      go_region_held3 (fun w' => w'.cell? ⟨w.heap.size, 0, none⟩ = some (.string nm) ∧ w'.cell? ⟨w.heap.size, 1, none⟩ = some (.slice ao ps.length cap)) (first | exact ⟨e0, e1⟩ | (refine ⟨?_, ?_⟩ <;> (rw [World.cell?_setCell_other _ _ _ _ (by simp; try omega), World.cell?_setCell_other _ _ _ _ (by simp; try omega)]; assumption)) | go_keep) ((first | (go_at_call 114; refine (HCL.out _ (b1.trans (Below.mono (by go_grown) z1))).mono ?_; rintro _ w2 ⟨v2, rfl, o2, q2⟩; have q3 : Below w1.heap.size w1 w2 := Below.trans (by go_grown) (q2.mono (by simp; try omega)); have e0 := below_cell q3 e0; have e1 := below_cell q3 e1; have r0 := below_cell q3 r0; have r1 := below_cell q3 r1; have rf : ∀ j, w2.frozen? ⟨w.heap.size + 1, j, none⟩ = false := fun j => (q3.frozen (p := ⟨w.heap.size + 1, j, none⟩) (show w.heap.size + 1 < _ by omega)).trans (rf j); have o3 : OwnR w1.heap.size w2 v2 ps := own_base o2 (by simp); obtain ⟨g2, cap2, rfl, hg2, hg3⟩ := World.ownsRow.form o3 HL1.out; have b2 := b1.trans (q3.mono z1); have O3 := Lib.hid o3; clear o3; clear o2 q2) | (go_at_call 113; refine (HDEL.out w1.heap.size g2 cap2 _ (by first | exact O3.out | exact own_later O3.out (by go_grown))).mono ?_; rintro _ w3 ⟨rfl, o4, q4⟩; have q5 := (Only.of_below (S := fun b => b = g2) (show Below w2.heap.size w2 _ by go_grown)).trans q4; have e0 := cell_only q5 e0 (by show ¬ w.heap.size = g2; omega); have e1 := cell_only q5 e1 (by show ¬ w.heap.size = g2; omega); have r0 := cell_only q5 r0 (by show ¬ w.heap.size + 1 = g2; omega); have r1 := cell_only q5 r1 (by show ¬ w.heap.size + 1 = g2; omega); have rf : ∀ j, w3.frozen? ⟨w.heap.size + 1, j, none⟩ = false := fun j => (frozen_only q5 (p := ⟨w.heap.size + 1, j, none⟩) (by show w.heap.size + 1 < _; omega) (by show ¬ w.heap.size + 1 = g2; omega)).trans (rf j); have b3 := Only.below b2 q5 (by omega) (fun b e => by omega); have y3 := q5.size; have O4 := Lib.hid o4; clear o4; clear q4 q5) | (go_at_call 112; refine (HDONE.out w1.heap.size _ _ (by rw [← HLL.out]; first | exact O4.out | exact own_later O4.out (by go_grown))).mono ?_; rintro _ w4 ⟨v4, rfl, o5, q6⟩; have q7 : Below w3.heap.size w3 w4 := Below.trans (by go_grown) (q6.mono (by simp; try omega)); have e0 := below_cell q7 e0; have e1 := below_cell q7 e1; have r0 := below_cell q7 r0; have r1 := below_cell q7 r1; have rf : ∀ j, w4.frozen? ⟨w.heap.size + 1, j, none⟩ = false := fun j => (q7.frozen (p := ⟨w.heap.size + 1, j, none⟩) (by show w.heap.size + 1 < _; omega)).trans (rf j); have b4 := b3.trans (q7.mono (by omega)); obtain ⟨a4, p4, rfl⟩ := own_shape o5; have O5 := Lib.hid o5; clear o5; clear q6 q7)))
      have lo5 := own_lo O5.out
      go_wp2
      refine bodyPost_ret (v := .tuple #[.agg #[.string RES.1, .slice a4 RES.2.1.length p4], .int .i64 RES.2.2]) (by simp [results, Try.results38, go_sem, r0, r1]) rfl ?_
      have o11 := own_set O5.out (a := ⟨w.heap.size + 1, 0, none⟩) (fun k hk => by have := lo5 k hk; simp; omega) (.string RES.1)
      have o12 := own_set o11 (a := ⟨w.heap.size + 1, 1, none⟩) (fun k hk => by have := lo5 k hk; simp; omega) (.slice a4 RES.2.1.length p4)
      exact ⟨_, rfl, own_base o12 z1, (b4.setCell (by simp) _).setCell (by simp) _⟩

end Go.Proofs.Ytmickkodcclocaa
