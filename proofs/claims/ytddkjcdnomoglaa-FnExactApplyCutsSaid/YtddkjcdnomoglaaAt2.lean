/- The ring at a height: the whole functions. -/
import Derived.Test.YtddkjcdnomoglaaAt
namespace Go.Proofs.Ytddkjcdnomoglaa
set_option linter.unusedVariables false
open Go.RowKit Go.Proofs.Bell Go.BigFrame

def ringAtI (nm : ByteArray) (rs : List (Int × Int × Int)) (h : Int) : Int × Int := if askI nm rs h = 0 then ((atK rs h : Int), 0) else (0, askI nm rs h)
theorem askI_zero {nm : ByteArray} {rs : List (Int × Int × Int)} {h : Int} (h0 : askI nm rs h = 0) : rs.all ringT = true ∧ 1 ≤ rs.length ∧ rs.length ≤ 32 ∧ 0 ≤ h ∧ h < heightI rs := by
  unfold askI at h0
  split at h0
  · rename_i hp
    obtain ⟨h1, h2, h3, _⟩ := profB_t hp
    split at h0
    · rename_i hi
      have := inB_t hi
      exact ⟨h3, h1, h2, by omega, by omega⟩
    · cases h0
  · cases h0

set_option maxHeartbeats 800000 in
theorem l05Ask_c (g : Nat) (nm : ByteArray) (sv : Value) (ps : List (Int × Int × Int)) (h : Int) (w : World) (hg : g < w.heap.size) (hnm : nm.size ≤ maxLen) (c0 : w.cell? ⟨g, 0, none⟩ = some (.string nm)) (c1 : w.cell? ⟨g, 1, none⟩ = some sv) (hr : Rd w sv ps.length (trips ps)) :
    Calls Try.prog 85 #[.pointer (some ⟨g, 0, none⟩), .int .i64 h] w (RetD (.int .i64 (askI nm ps h)) w) := by
  have hok := l05Ok_c g nm sv ps w hg hnm c0 c1 hr
  have hv := fun (hp : profB nm ps = true) => profB_t hp
  cases t0 : profB nm ps <;> rw [t0] at hok
  · have HOK := Lib.hid hok; clear hok
    go_enter Try.func85, Try.ntmps85
    go_wp2_with fail
    refine HOK.out.mono ?_
    rintro _ w1 ⟨rfl, hd⟩
    go_wp2
    go_returns
    exact RetD.mk (int_eq (by simp [askI, t0])) hd
  · obtain ⟨hl1, hl2, hal, hhm⟩ := hv t0
    have hh := fun w' (hb : Below w.heap.size w w') => l05Height_c g nm sv ps w' (below_cell hb c1) (hr.later hb) hal hl2
    have HH := Lib.hid hh; clear hh
    have HOK := Lib.hid hok; clear hok
    have hbd := (height_bd hal ps.length).1
    rw [List.take_length] at hbd
    clear hv hal hr c0 c1
    have ha : askI nm ps h = if inB h 0 (heightI ps - 1) then 0 else 2 := by simp [askI, t0]
    rw [ha]
    clear ha
    generalize heightI ps = hI at *
    cases t1 : inB h 0 (hI - 1) <;>
    · go_enter Try.func85, Try.ntmps85
      go_wp2_with fail
      refine HOK.out.mono ?_
      rintro _ w1 ⟨rfl, hd⟩
      have hb := Dr.below hd
      go_wp2_with (first | (go_at_call 129; refine (HH.out _ hb).mono ?_; rintro _ _ ⟨rfl, rfl⟩) | (go_at_call 61; refine (l00In_c _ _ _ _).mono ?_; rintro _ _ ⟨rfl, rfl⟩; rw [t1]))
      go_returns
      exact RetD.mk (int_eq (by simp)) hd

set_option maxHeartbeats 800000 in
theorem atHeight_c (nm : ByteArray) (sv : Value) (ps : List (Int × Int × Int)) (h : Int) (w : World) (hnm : nm.size ≤ maxLen) (hr : Rd w sv ps.length (trips ps)) :
    Calls Try.prog 88 #[.agg #[.string nm, sv], .int .i64 h] w (RetB (.int .i64 (askI nm ps h)) w) := by
  have hok := fun w' (hb : Below w.heap.size w w') => ValidProfile_c nm sv ps w' hnm (hr.later hb)
  have hv := fun (hp : profB nm ps = true) => profB_t hp
  cases t0 : profB nm ps <;> rw [t0] at hok
  · have HOK := Lib.hid hok; clear hok
    go_enter Try.func88, Try.ntmps88
    go_wp2_with fail
    refine (HOK.out _ (by go_grown)).mono ?_
    rintro _ w1 ⟨rfl, s1⟩
    have b1 : Below w.heap.size w w1 := Below.trans (by go_grown) (s1.mono (by simp))
    clear s1
    go_wp2
    go_returns
    exact RetB.mk (int_eq (by simp [askI, t0])) b1
  · obtain ⟨hl1, hl2, hal, hhm⟩ := hv t0
    have hh := fun w' (hb : Below w.heap.size w w') => height_c nm sv ps w' (hr.later hb) hal hl2
    have HH := Lib.hid hh; clear hh
    have HOK := Lib.hid hok; clear hok
    have hbd := (height_bd hal ps.length).1
    rw [List.take_length] at hbd
    clear hv hal hr
    have ha : askI nm ps h = if inB h 0 (heightI ps - 1) then 0 else 2 := by simp [askI, t0]
    rw [ha]
    clear ha
    generalize heightI ps = hI at *
    cases t1 : inB h 0 (hI - 1) <;>
    · go_enter Try.func88, Try.ntmps88
      go_wp2_with fail
      refine (HOK.out _ (by go_grown)).mono ?_
      rintro _ w1 ⟨rfl, s1⟩
      have b1 : Below w.heap.size w w1 := Below.trans (by go_grown) (s1.mono (by simp))
      have k0 := below_cell s1 (p := ⟨w.heap.size, 0, none⟩) (v := .string nm) (by simp [go_sem])
      have k1 := below_cell s1 (p := ⟨w.heap.size, 1, none⟩) (v := sv) (by simp [go_sem])
      clear s1
      go_wp2_with fail
      refine (HH.out _ b1).mono ?_
      rintro _ w2 ⟨rfl, s2⟩
      have b2 := b1.trans (s2.mono b1.size)
      clear s2
      go_wp2_with (go_at_call 65; refine (within_c _ _ _ _).mono ?_; rintro _ _ ⟨rfl, rfl⟩; rw [t1])
      go_returns
      exact RetB.mk (int_eq (by simp)) b2

end Go.Proofs.Ytddkjcdnomoglaa
