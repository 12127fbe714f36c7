/- The draws of the laws: a byte's number; a valid profile. -/
import Derived.Test.YtmickkodcclocaaDraw2
namespace Go.Proofs.Ytmickkodcclocaa
set_option linter.unusedVariables false
open Go.RowKit Go.Proofs.Bell Go.BigFrame

def bytesV (zs : List Int) : List Value := zs.map (.int .u8)
def Byte (z : Int) : Prop := 0 ≤ z ∧ z ≤ 255
theorem bytesV_at {zs : List Int} {k : Nat} (h : k < zs.length) : (bytesV zs)[k]? = some (.int .u8 zs[k]) := by simp [bytesV, h]

theorem r8Long_c (v v' : Value) (zs zs' : List Int) (w : World) (h : Rd w v zs.length (bytesV zs)) (h' : Rd w v' zs'.length (bytesV zs')) (hl : zs.length ≤ 1048576) : Calls Try.prog 47 #[v, v'] w (RetS (.bool (decide (1048576 < zs'.length))) w) := by
  obtain ⟨hn, ao, cap, b, off, rfl, hao, hcell⟩ := h.open
  obtain ⟨hn', ao', cap', b', off', rfl, hao', hcell'⟩ := h'.open
  clear hcell hcell' h h' hao hao'
  generalize zs.length = n at *
  generalize zs'.length = m at *
  have t0 : decide ((1048576 : Int) < (n : Int)) = false := decide_eq_false (by omega)
  cases t1 : decide (1048576 < m)
  · have t2 : decide ((1048576 : Int) < (m : Int)) = false := decide_eq_false (by have := of_decide_eq_false t1; omega)
    go_enter Try.func47, Try.ntmps47
    go_wp2
    go_returns
    exact RetS.mk rfl
  · have t2 : decide ((1048576 : Int) < (m : Int)) = true := decide_eq_true (by have := of_decide_eq_true t1; omega)
    go_enter Try.func47, Try.ntmps47
    go_wp2
    go_returns
    exact RetS.mk rfl
theorem r8Long_t (v v' : Value) (zs zs' : List Int) (w : World) (h : Rd w v zs.length (bytesV zs)) (h' : Rd w v' zs'.length (bytesV zs')) (hl : ¬ zs.length ≤ 1048576) : Calls Try.prog 47 #[v, v'] w (RetS (.bool true) w) := by
  obtain ⟨hn, ao, cap, b, off, rfl, hao, hcell⟩ := h.open
  obtain ⟨hn', ao', cap', b', off', rfl, hao', hcell'⟩ := h'.open
  clear hcell hcell' h h' hao hao'
  generalize zs.length = n at *
  generalize zs'.length = m at *
  have t0 : decide ((1048576 : Int) < (n : Int)) = true := decide_eq_true (by omega)
  go_enter Try.func47, Try.ntmps47
  go_wp2
  go_returns
  exact RetS.mk rfl

def RetR (n : Int) (w : World) (e : Ending) (w' : World) : Prop := ∃ r : Int, e = .returned (.int .i64 r) ∧ 0 ≤ r ∧ r ≤ max 0 (n - 1) ∧ w = w'
set_option maxHeartbeats 800000 in
theorem r8At_c (v : Value) (zs : List Int) (k : Nat) (n : Int) (w : World) (h : Rd w v zs.length (bytesV zs)) (hz : ∀ z ∈ zs, Byte z) (hk : k ≤ 10) (hn : n ≤ 1000000) (hn0 : -10 ≤ n) : Calls Try.prog 50 #[v, .int .i64 k, .int .i64 n] w (RetR n w) := by
  obtain ⟨hl, ao, cap, b, off, rfl, hao, hcell⟩ := h.open
  have hcell := hcell w (Below.refl _ _)
  clear h
  by_cases h1 : n ≤ 1
  · have t1 : decide (n ≤ 1) = true := decide_eq_true h1
    go_enter Try.func50, Try.ntmps50
    go_wp2
    go_returns
    exact ⟨0, rfl, by omega, by omega, rfl⟩
  · have t1 : decide (n ≤ 1) = false := decide_eq_false h1
    by_cases h2 : zs.length ≤ k
    · have t2 : decide (zs.length ≤ k) = true := decide_eq_true h2
      generalize zs.length = m at *
      go_enter Try.func50, Try.ntmps50
      go_wp2
      go_returns
      exact ⟨0, rfl, by omega, by omega, rfl⟩
    · have t2 : decide (zs.length ≤ k) = false := decide_eq_false h2
      have hkl : k < zs.length := by omega
      obtain rfl : ao = some ⟨b, off, none⟩ := hao (by omega)
      have hc := hcell k _ (by omega) (bytesV_at hkl)
      have hb := hz _ (List.getElem_mem hkl)
      obtain ⟨hb0, hb1⟩ := hb
      have hix := ix (P := Try.prog) (T := 67) (sz := 1) (n := zs.length) (cap := cap) Try.underlying67 (by kernel_rfl) (by kernel_rfl) (ao := some ⟨b, off, none⟩) (b := b) (off := off) (fun _ => rfl) (k := k) hkl _ rfl
      rw [Nat.mul_one] at hix
      clear hcell hao hz
      generalize zs[k] = z at *
      generalize zs.length = m at *
      have e1 : 0 ≤ z % n := Int.emod_nonneg _ (by omega)
      have e2 : z % n < n := Int.emod_lt_of_pos _ (by omega)
      go_enter Try.func50, Try.ntmps50
      go_wp2
      go_returns
      exact ⟨_, rfl, e1, by omega, rfl⟩
set_option maxHeartbeats 800000 in
theorem r8Wide_c (v : Value) (zs : List Int) (k : Nat) (n : Int) (w : World) (h : Rd w v zs.length (bytesV zs)) (hz : ∀ z ∈ zs, Byte z) (hk : k ≤ 9) (hn : n ≤ 1000000) (hn1 : 1 ≤ n) : Calls Try.prog 49 #[v, .int .i64 k, .int .i64 n] w (RetR n w) := by
  have h1 := fun j (hj : j ≤ 10) => r8At_c v zs j 256 w h hz hj (by omega) (by omega)
  obtain ⟨hl, ao, cap, b, off, rfl, hao, hcell⟩ := h.open
  have h2 := h1 (k + 1) (by omega)
  rw [show ((k + 1 : Nat) : Int) = (k : Int) + 1 by omega] at h2
  have h1 := h1 k (by omega)
  have H1 := Lib.hid h1; clear h1
  have H2 := Lib.hid h2; clear h2
  clear h hcell hz hao
  generalize zs.length = m at *
  go_enter Try.func49, Try.ntmps49
  go_wp2_with fail
  refine H1.out.mono ?_
  rintro _ _ ⟨r1, rfl, l1, u1, rfl⟩
  go_wp2_with fail
  refine H2.out.mono ?_
  rintro _ _ ⟨r2, rfl, l2, u2, rfl⟩
  have u1' : r1 ≤ 255 := by omega
  have u2' : r2 ≤ 255 := by omega
  have e1 : 0 ≤ (256 * r1 + r2) % n := Int.emod_nonneg _ (by omega)
  have e2 : (256 * r1 + r2) % n < n := Int.emod_lt_of_pos _ (by omega)
  go_wp2
  go_returns
  exact ⟨_, rfl, e1, by omega, rfl⟩

theorem src_new (v : Value) (zs : List Int) (w : World) (h : Rd w v zs.length (bytesV zs)) (hz : ∀ z ∈ zs, Byte z) (hl : zs.length ≤ 1048576) (t : TypeId) : Src 0 w.heap.size (w.alloc (.cells #[v, .int .i64 0, .int .u64 0] t)) := by
  obtain ⟨h0, hc⟩ := h
  have kb : Below w.heap.size w (w.alloc (.cells #[v, .int .i64 0, .int .u64 0] t)) := (Below.refl _ _).alloc (Nat.le_refl _) _
  refine ⟨?_, ⟨0, Nat.le_refl _, by simp [go_sem]⟩, ⟨0, by simp [go_sem]⟩, fun j => by simp [go_sem]⟩
  rcases hc with ⟨h1, h2, ao, cap, rfl, _, _⟩ | ⟨h1, b, off, cap, rfl, h3, h4, h5, h6⟩
  · exact ⟨ao, 0, cap, 0, 0, by simp [go_sem], by omega, fun h => by omega, fun h => by omega, fun j hj => by omega⟩
  · refine ⟨_, zs.length, cap, b, off, by simp [go_sem], hl, fun _ => rfl, fun _ => h5, fun j hj => ?_⟩
    obtain ⟨q1, q2⟩ := hz _ (List.getElem_mem hj)
    exact ⟨zs[j], q1, q2, below_cell kb (h6 j _ (bytesV_at hj))⟩

def RetPr (w : World) (e : Ending) (w' : World) : Prop := ∃ (nm : ByteArray) (rs : List (Int × Int × Int)) (u : Value), e = .returned (.agg #[.string nm, u]) ∧ OwnR w.heap.size w' u rs ∧ profB nm rs = true ∧ nm.size ≤ maxLen ∧ 2 ≤ rs.length ∧ rs.length ≤ 9 ∧ Below w.heap.size w w'
set_option maxHeartbeats 800000 in
theorem R8Profile_c (v : Value) (zs : List Int) (w : World) (h : Rd w v zs.length (bytesV zs)) (hz : ∀ z ∈ zs, Byte z) (hl : zs.length ≤ 1048576) : Calls Try.prog 48 #[v] w (RetPr w) := by
  have kb : ∀ o, Below w.heap.size w (w.alloc o) := fun o => (Below.refl _ _).alloc (Nat.le_refl _) o
  have hsrc := fun o t => src_new v zs (w.alloc o) (h.later (kb o)) hz hl t
  obtain ⟨hn, ao, cap, b, off, rfl, hao, hcell⟩ := h.open
  have hdr := fun w' g (hx : Src 0 g w') => l05Draw_c 0 g w' hx (by omega)
  have HDR := Lib.hid hdr; clear hdr
  have HSRC := Lib.hid hsrc; clear hsrc
  clear hao hcell h hz
  generalize zs.length = n at *
  have hfr : ∀ w' : World, Calls Try.prog 131 #[.slice ao n cap] w' (fun e w'' => e = .returned (.pointer (some ⟨w'.heap.size, 0, none⟩)) ∧ w'' = w'.alloc (.cells #[.slice ao n cap, .int .i64 0, .int .u64 0] 179)) := fun w' => by
    go_enter Try.func131, Try.ntmps131
    go_wp2
    go_returns
    exact ⟨rfl, rfl⟩
  have HFR := Lib.hid hfr; clear hfr
  go_enter Try.func48, Try.ntmps48
  go_wp2_with fail
  refine (HFR.out _).mono ?_
  rintro _ _ ⟨rfl, rfl⟩
  go_wp2_with fail
  refine (HDR.out _ _ (by simpa using HSRC.out _ _)).mono ?_
  rintro _ w2 ⟨nm, rs, u, rfl, o2, hp, hnm, h2, h9, _, q2⟩
  obtain ⟨au, pu, rfl⟩ := own_shape o2
  have e0 := cell_only (p := ⟨w.heap.size, 0, none⟩) (v := .string ⟨#[]⟩) q2 (by simp [go_sem]) (by simp)
  have e1 := cell_only (p := ⟨w.heap.size, 1, none⟩) (v := .slice none 0 0) q2 (by simp [go_sem]) (by simp)
  have ef : ∀ j, w2.frozen? ⟨w.heap.size, j, none⟩ = false := fun j => (frozen_only q2 (p := ⟨w.heap.size, j, none⟩) (by simp; try omega) (by simp)).trans (by simp [go_sem])
  have b2 : Below w.heap.size w w2 := Only.below (by go_grown) q2 (by simp; omega) (fun b e => by first | omega | (simp at e; omega))
  have lo2 := own_lo o2
  simp at lo2
  have O2 := Lib.hid o2; clear o2
  have HP := Lib.hid hp; clear hp
  have LO2 := Lib.hid lo2; clear lo2
  clear q2
  go_wp2
  refine bodyPost_ret (v := .agg #[.string nm, .slice au rs.length pu]) (by simp [results, Try.results48, go_sem, e0, e1]) rfl ?_
  have o11 := own_set O2.out (a := ⟨w.heap.size, 0, none⟩) (fun k hk => by have := LO2.out k hk; show w.heap.size ≠ k; omega) (.string nm)
  have o12 := own_set o11 (a := ⟨w.heap.size, 1, none⟩) (fun k hk => by have := LO2.out k hk; show w.heap.size ≠ k; omega) (.slice au rs.length pu)
  exact ⟨nm, rs, _, rfl, own_base o12 (by simp; try omega), HP.out, hnm, h2, h9, (b2.setCell (Nat.le_refl _) _).setCell (Nat.le_refl _) _⟩

end Go.Proofs.Ytmickkodcclocaa
