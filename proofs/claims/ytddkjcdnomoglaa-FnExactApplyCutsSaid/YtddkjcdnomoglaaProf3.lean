/- Profiles copied, tested, renamed. -/
import Derived.Test.YtddkjcdnomoglaaProf2
import Derived.Test.YtddkjcdnomoglaaInts
namespace Go.Proofs.Ytddkjcdnomoglaa
set_option linter.unusedVariables false
open Go.RowKit Go.Proofs.Bell Go.BigFrame

set_option maxRecDepth 100000 in
set_option maxHeartbeats 1600000 in
theorem copyProfile_c (nm : ByteArray) (sv : Value) (rs : List (Int × Int × Int)) (w : World) (hr : Rd w sv rs.length (trips rs)) (h1 : 1 ≤ rs.length) (hl : rs.length ≤ 1000) :
    Calls Try.prog 143 #[.agg #[.string nm, sv]] w (RetOwnP nm rs w) := by
  have hc := fun w' (hb : Below w.heap.size w w') => CloneR_c sv rs w' (hr.later hb) h1 hl
  obtain ⟨hn, ao, cap, b, off, rfl, hao, hcell⟩ := hr.open
  clear hcell hao hr
  have HC := Lib.hid hc; clear hc
  go_enter Try.func143, Try.ntmps143
  go_wp2_with fail
  go_region_held3 (fun w' => w'.cell? ⟨w.heap.size, 0, none⟩ = some (.string nm) ∧ w'.cell? ⟨w.heap.size, 1, none⟩ = some (.slice ao rs.length cap)) (first | exact ⟨e0, e1⟩ | (refine ⟨?_, ?_⟩ <;> (rw [World.cell?_setCell_other _ _ _ _ (by simp; try omega), World.cell?_setCell_other _ _ _ _ (by simp; try omega)]; assumption)) | (refine ⟨?_, ?_⟩ <;> (simp [go_sem]; done)) | go_keep) (first | (go_at_call 96; refine (HC.out _ (by go_grown)).mono ?_; rintro _ w2 ⟨v2, rfl, o2, q2⟩; have e0 := below_cell q2 (p := ⟨w.heap.size, 0, none⟩) (v := .string nm) (by simp [go_sem]); have e1 := below_cell q2 (p := ⟨w.heap.size, 1, none⟩) (v := .slice ao rs.length cap) (by simp [go_sem]); have r0 := below_cell q2 (p := ⟨w.heap.size + 1, 0, none⟩) (v := .string ⟨#[]⟩) (by simp [go_sem]); have r1 := below_cell q2 (p := ⟨w.heap.size + 1, 1, none⟩) (v := .slice none 0 0) (by simp [go_sem]); have rf : ∀ j, w2.frozen? ⟨w.heap.size + 1, j, none⟩ = false := fun j => (q2.frozen (p := ⟨w.heap.size + 1, j, none⟩) (by simp [go_sem])).trans (by simp [go_sem]); obtain ⟨a2, p2, rfl⟩ := own_shape o2; have y2 := q2.size; simp only [World.size_alloc, World.size_drew] at y2; have o3 : OwnR (w.heap.size + 2) w2 (.slice a2 rs.length p2) rs := own_base o2 (by simp); clear o2; have O3 := Lib.hid o3; clear o3; have b2 : Below w.heap.size w w2 := Below.trans (by go_grown) (q2.mono (by simp; try omega)); clear q2))
  go_wp2
  refine bodyPost_ret (v := .agg #[.string nm, .slice a2 rs.length p2]) (by simp [results, Try.results143, go_sem, r0, r1]) rfl ?_
  refine ⟨_, rfl, own_base (ownsRow_setCell_below (ownsRow_setCell_below O3.out (by simp) _) (by simp) _) (by omega), (b2.setCell (by simp) _).setCell (by simp) _⟩

theorem RetP2.nil {w w' : World} {c : Value} (h : Below w.heap.size w w') : RetP2 ⟨#[]⟩ [] c w (.returned (.tuple #[.agg #[.string ⟨#[]⟩, .slice none 0 0], c])) w' := ⟨_, rfl, World.ownsRow_nil _ _ _ _, h⟩
theorem alloc_frozen {w : World} {p : Addr} (o : Obj) (h : p.block < w.heap.size) : (w.alloc o).frozen? p = w.frozen? p := ((Below.refl _ _).alloc (Nat.le_refl _) o).frozen h
theorem own_set {w : World} {base : Nat} {e : TypeId} {size : Nat} {v : Value} {n : Nat} {xs : List Value} (h : w.ownsRow base e size v n xs) {a : Addr} (hne : ∀ k, v.ownBlock = some k → a.block ≠ k) (u : Value) : (w.setCell a u).ownsRow base e size v n xs :=
  own_only h ((Only.refl (fun b => b = a.block) w).setCell rfl u) (fun k hk e => hne k hk e.symm)
set_option maxHeartbeats 800000 in
theorem orState_t (nm : ByteArray) (sv : Value) (rs : List (Int × Int × Int)) (w : World) (hnm : nm.size ≤ maxLen) (hr : Rd w sv rs.length (trips rs)) (h : profB nm rs = true) :
    Calls Try.prog 94 #[.agg #[.string nm, sv]] w (RetB (.tuple #[.agg #[.string nm, sv], .int .i64 0]) w) := by
  have hok := fun w' (hb : Below w.heap.size w w') => ValidProfile_c nm sv rs w' hnm (hr.later hb)
  rw [h] at hok
  obtain ⟨hn, ao, cap, b, off, rfl, hao, hcell⟩ := hr.open
  clear hcell hao hr h
  have HOK := Lib.hid hok; clear hok
  go_enter Try.func94, Try.ntmps94
  have b0 : Below w.heap.size w w := Below.refl _ _
  have z0 : w.heap.size ≤ w.heap.size := Nat.le_refl _
  go_wp2_with fail
  refine (HOK.out _ (by go_grown)).mono ?_
  rintro _ w1 ⟨rfl, r1⟩
  have s1 : Below w.heap.size w w1 := Below.trans (by go_grown) (r1.mono (by simp; try omega))
  have b1 := b0.trans (s1.mono z0)
  have z1 := b1.size
  have y1 := s1.size
  have v1 : w.heap.size + 2 ≤ w1.heap.size := by have := r1.size; simp only [World.size_alloc] at this; omega
  have c0_0_1 := below_cell r1 (p := ⟨w.heap.size, 0, none⟩) (v := .string nm) (by simp [go_sem])
  have c0_1_1 := below_cell r1 (p := ⟨w.heap.size, 1, none⟩) (v := .slice ao rs.length cap) (by simp [go_sem])
  have c1_0_1 := below_cell r1 (p := ⟨w.heap.size + 1, 0, none⟩) (v := .string ⟨#[]⟩) (by simp [go_sem])
  have c1_1_1 := below_cell r1 (p := ⟨w.heap.size + 1, 1, none⟩) (v := .slice none 0 0) (by simp [go_sem])
  have f0_1 : ∀ j, w1.frozen? ⟨w.heap.size, j, none⟩ = false := fun j => (r1.frozen (p := ⟨w.heap.size, j, none⟩) (by simp [go_sem])).trans (by simp [go_sem])
  have f1_1 : ∀ j, w1.frozen? ⟨w.heap.size + 1, j, none⟩ = false := fun j => (r1.frozen (p := ⟨w.heap.size + 1, j, none⟩) (by simp [go_sem])).trans (by simp [go_sem])
  clear r1
  go_wp2
  refine bodyPost_ret (v := .tuple #[.agg #[.string nm, .slice ao rs.length cap], .int .i64 0]) (by simp [results, Try.results94, go_sem, c1_0_1, c1_1_1]) rfl ?_
  exact RetB.mk rfl ((b1.setCell (by simp) _).setCell (by simp) _)
set_option maxHeartbeats 800000 in
theorem orState_f (nm : ByteArray) (sv : Value) (rs : List (Int × Int × Int)) (w : World) (hnm : nm.size ≤ maxLen) (hr : Rd w sv rs.length (trips rs)) (h : profB nm rs = false) :
    Calls Try.prog 94 #[.agg #[.string nm, sv]] w (RetB (.tuple #[.agg #[.string ⟨#[]⟩, .slice none 0 0], .int .i64 6]) w) := by
  have hok := fun w' (hb : Below w.heap.size w w') => ValidProfile_c nm sv rs w' hnm (hr.later hb)
  rw [h] at hok
  obtain ⟨hn, ao, cap, b, off, rfl, hao, hcell⟩ := hr.open
  clear hcell hao hr h
  have HOK := Lib.hid hok; clear hok
  go_enter Try.func94, Try.ntmps94
  have b0 : Below w.heap.size w w := Below.refl _ _
  have z0 : w.heap.size ≤ w.heap.size := Nat.le_refl _
  go_wp2_with fail
  refine (HOK.out _ (by go_grown)).mono ?_
  rintro _ w1 ⟨rfl, r1⟩
  have s1 : Below w.heap.size w w1 := Below.trans (by go_grown) (r1.mono (by simp; try omega))
  have b1 := b0.trans (s1.mono z0)
  have z1 := b1.size
  have y1 := s1.size
  have v1 : w.heap.size + 2 ≤ w1.heap.size := by have := r1.size; simp only [World.size_alloc] at this; omega
  have c0_0_1 := below_cell r1 (p := ⟨w.heap.size, 0, none⟩) (v := .string nm) (by simp [go_sem])
  have c0_1_1 := below_cell r1 (p := ⟨w.heap.size, 1, none⟩) (v := .slice ao rs.length cap) (by simp [go_sem])
  have c1_0_1 := below_cell r1 (p := ⟨w.heap.size + 1, 0, none⟩) (v := .string ⟨#[]⟩) (by simp [go_sem])
  have c1_1_1 := below_cell r1 (p := ⟨w.heap.size + 1, 1, none⟩) (v := .slice none 0 0) (by simp [go_sem])
  have f0_1 : ∀ j, w1.frozen? ⟨w.heap.size, j, none⟩ = false := fun j => (r1.frozen (p := ⟨w.heap.size, j, none⟩) (by simp [go_sem])).trans (by simp [go_sem])
  have f1_1 : ∀ j, w1.frozen? ⟨w.heap.size + 1, j, none⟩ = false := fun j => (r1.frozen (p := ⟨w.heap.size + 1, j, none⟩) (by simp [go_sem])).trans (by simp [go_sem])
  clear r1
  go_wp2
  refine bodyPost_ret (v := .tuple #[.agg #[.string ⟨#[]⟩, .slice none 0 0], .int .i64 6]) (by simp [results, Try.results94, go_sem, c1_0_1, c1_1_1]) rfl ?_
  exact RetB.mk rfl ((b1.setCell (by simp) _).setCell (by simp) _)
set_option maxHeartbeats 800000 in
theorem l07Done_t (nm : ByteArray) (sv : Value) (rs : List (Int × Int × Int)) (w : World) (hnm : nm.size ≤ maxLen) (hr : Rd w sv rs.length (trips rs)) (h : profB nm rs = true) :
    Calls Try.prog 77 #[.agg #[.string nm, sv]] w (RetB (.tuple #[.agg #[.string nm, sv], .int .i64 0]) w) := by
  have hok := fun w' g hg c0 c1 (hb : Below w.heap.size w w') => l05Ok_c g nm sv rs w' hg hnm c0 c1 (hr.later hb)
  rw [h] at hok
  obtain ⟨hn, ao, cap, b, off, rfl, hao, hcell⟩ := hr.open
  clear hcell hao hr h
  have HOK := Lib.hid hok; clear hok
  go_enter Try.func77, Try.ntmps77
  have b0 : Below w.heap.size w w := Below.refl _ _
  have z0 : w.heap.size ≤ w.heap.size := Nat.le_refl _
  go_wp2_with fail
  refine (HOK.out _ _ (by simp; try omega) (by simp [go_sem]) (by simp [go_sem]) (by go_grown)).mono ?_
  rintro _ w1 ⟨rfl, d1⟩
  have r1 := Dr.below d1; clear d1
  have s1 : Below w.heap.size w w1 := Below.trans (by go_grown) (r1.mono (by simp; try omega))
  have b1 := b0.trans (s1.mono z0)
  have z1 := b1.size
  have y1 := s1.size
  have v1 : w.heap.size + 2 ≤ w1.heap.size := by have := r1.size; simp only [World.size_alloc] at this; omega
  have c0_0_1 := below_cell r1 (p := ⟨w.heap.size, 0, none⟩) (v := .string nm) (by simp [go_sem])
  have c0_1_1 := below_cell r1 (p := ⟨w.heap.size, 1, none⟩) (v := .slice ao rs.length cap) (by simp [go_sem])
  have c1_0_1 := below_cell r1 (p := ⟨w.heap.size + 1, 0, none⟩) (v := .string ⟨#[]⟩) (by simp [go_sem])
  have c1_1_1 := below_cell r1 (p := ⟨w.heap.size + 1, 1, none⟩) (v := .slice none 0 0) (by simp [go_sem])
  have f0_1 : ∀ j, w1.frozen? ⟨w.heap.size, j, none⟩ = false := fun j => (r1.frozen (p := ⟨w.heap.size, j, none⟩) (by simp [go_sem])).trans (by simp [go_sem])
  have f1_1 : ∀ j, w1.frozen? ⟨w.heap.size + 1, j, none⟩ = false := fun j => (r1.frozen (p := ⟨w.heap.size + 1, j, none⟩) (by simp [go_sem])).trans (by simp [go_sem])
  clear r1
  go_wp2
  refine bodyPost_ret (v := .tuple #[.agg #[.string nm, .slice ao rs.length cap], .int .i64 0]) (by simp [results, Try.results77, go_sem, c1_0_1, c1_1_1]) rfl ?_
  exact RetB.mk rfl ((b1.setCell (by simp) _).setCell (by simp) _)
set_option maxHeartbeats 800000 in
theorem l07Done_f (nm : ByteArray) (sv : Value) (rs : List (Int × Int × Int)) (w : World) (hnm : nm.size ≤ maxLen) (hr : Rd w sv rs.length (trips rs)) (h : profB nm rs = false) :
    Calls Try.prog 77 #[.agg #[.string nm, sv]] w (RetB (.tuple #[.agg #[.string ⟨#[]⟩, .slice none 0 0], .int .i64 6]) w) := by
  have hok := fun w' g hg c0 c1 (hb : Below w.heap.size w w') => l05Ok_c g nm sv rs w' hg hnm c0 c1 (hr.later hb)
  rw [h] at hok
  obtain ⟨hn, ao, cap, b, off, rfl, hao, hcell⟩ := hr.open
  clear hcell hao hr h
  have HOK := Lib.hid hok; clear hok
  go_enter Try.func77, Try.ntmps77
  have b0 : Below w.heap.size w w := Below.refl _ _
  have z0 : w.heap.size ≤ w.heap.size := Nat.le_refl _
  go_wp2_with fail
  refine (HOK.out _ _ (by simp; try omega) (by simp [go_sem]) (by simp [go_sem]) (by go_grown)).mono ?_
  rintro _ w1 ⟨rfl, d1⟩
  have r1 := Dr.below d1; clear d1
  have s1 : Below w.heap.size w w1 := Below.trans (by go_grown) (r1.mono (by simp; try omega))
  have b1 := b0.trans (s1.mono z0)
  have z1 := b1.size
  have y1 := s1.size
  have v1 : w.heap.size + 2 ≤ w1.heap.size := by have := r1.size; simp only [World.size_alloc] at this; omega
  have c0_0_1 := below_cell r1 (p := ⟨w.heap.size, 0, none⟩) (v := .string nm) (by simp [go_sem])
  have c0_1_1 := below_cell r1 (p := ⟨w.heap.size, 1, none⟩) (v := .slice ao rs.length cap) (by simp [go_sem])
  have c1_0_1 := below_cell r1 (p := ⟨w.heap.size + 1, 0, none⟩) (v := .string ⟨#[]⟩) (by simp [go_sem])
  have c1_1_1 := below_cell r1 (p := ⟨w.heap.size + 1, 1, none⟩) (v := .slice none 0 0) (by simp [go_sem])
  have f0_1 : ∀ j, w1.frozen? ⟨w.heap.size, j, none⟩ = false := fun j => (r1.frozen (p := ⟨w.heap.size, j, none⟩) (by simp [go_sem])).trans (by simp [go_sem])
  have f1_1 : ∀ j, w1.frozen? ⟨w.heap.size + 1, j, none⟩ = false := fun j => (r1.frozen (p := ⟨w.heap.size + 1, j, none⟩) (by simp [go_sem])).trans (by simp [go_sem])
  clear r1
  go_wp2
  refine bodyPost_ret (v := .tuple #[.agg #[.string ⟨#[]⟩, .slice none 0 0], .int .i64 6]) (by simp [results, Try.results77, go_sem, c1_0_1, c1_1_1]) rfl ?_
  exact RetB.mk rfl ((b1.setCell (by simp) _).setCell (by simp) _)

end Go.Proofs.Ytddkjcdnomoglaa
