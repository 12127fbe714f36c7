/- The draws of a profile that is seldom not valid, and of a density. -/
import Derived.Test.YtmickkodcclocaaBent
namespace Go.Proofs.Ytmickkodcclocaa
set_option linter.unusedVariables false
open Go.RowKit Go.Proofs.Bell Go.BigFrame

def RetBr (w : World) (e : Ending) (w' : World) : Prop := ∃ (nm : ByteArray) (rs : List (Int × Int × Int)) (u : Value), e = .returned (.agg #[.string nm, u]) ∧ OwnR w.heap.size w' u rs ∧ nm.size ≤ maxLen ∧ rs.length ≤ 100 ∧ Below w.heap.size w w'
theorem from_c (ao : Option Addr) (n cap : Nat) (w' : World) : Calls Try.prog 131 #[.slice ao n cap] w' (fun e w'' => e = .returned (.pointer (some ⟨w'.heap.size, 0, none⟩)) ∧ w'' = w'.alloc (.cells #[.slice ao n cap, .int .i64 0, .int .u64 0] 179)) := by
  go_enter Try.func131, Try.ntmps131
  go_wp2
  go_returns
  exact ⟨rfl, rfl⟩

theorem DrawCentreOf_c (v : Value) (zs : List Int) (w : World) (h : Rd w v zs.length (bytesV zs)) (hz : ∀ z ∈ zs, Byte z) (hl : zs.length ≤ 1048576) : Calls Try.prog 56 #[v] w (RetBr w) := by
  have kb : ∀ o, Below w.heap.size w (w.alloc o) := fun o => (Below.refl _ _).alloc (Nat.le_refl _) o
  have hsrc := fun o t => src_new v zs (w.alloc o) (h.later (kb o)) hz hl t
  obtain ⟨hn, ao, cap, b, off, rfl, hao, hcell⟩ := h.open
  have hdr := fun w' g (hx : Src 0 g w') => l05Bent_c 0 g w' hx (by omega)
  have HDR := Lib.hid hdr; clear hdr
  have HSRC := Lib.hid hsrc; clear hsrc
  clear hao hcell h hz
  generalize zs.length = n at *
  have hfr := fun w' => from_c ao n cap w'
  have HFR := Lib.hid hfr; clear hfr
  go_enter Try.func56, Try.ntmps56
  go_wp2_with fail
  refine (HFR.out _).mono ?_
  rintro _ _ ⟨rfl, rfl⟩
  go_wp2_with fail
  refine (HDR.out _ _ (by simpa using HSRC.out _ _)).mono ?_
  rintro _ w2 ⟨nm, rs, u, rfl, o2, hnm, hrl, _, q2⟩
  obtain ⟨au, pu, rfl⟩ := own_shape o2
  have e0 := cell_only (p := ⟨w.heap.size, 0, none⟩) (v := .string ⟨#[]⟩) q2 (by simp [go_sem]) (by simp)
  have e1 := cell_only (p := ⟨w.heap.size, 1, none⟩) (v := .slice none 0 0) q2 (by simp [go_sem]) (by simp)
  have ef : ∀ j, w2.frozen? ⟨w.heap.size, j, none⟩ = false := fun j => (frozen_only q2 (p := ⟨w.heap.size, j, none⟩) (by simp; try omega) (by simp)).trans (by simp [go_sem])
  have b2 : Below w.heap.size w w2 := Only.below (by go_grown) q2 (by simp; omega) (fun b e => by first | omega | (simp at e; omega))
  have lo2 := own_lo o2
  simp at lo2
  have O2 := Lib.hid o2; clear o2
  have LO2 := Lib.hid lo2; clear lo2
  clear q2
  go_wp2
  refine bodyPost_ret (v := .agg #[.string nm, .slice au rs.length pu]) (by simp [results, Try.results56, go_sem, e0, e1]) rfl ?_
  have o11 := own_set O2.out (a := ⟨w.heap.size, 0, none⟩) (fun k hk => by have := LO2.out k hk; show w.heap.size ≠ k; omega) (.string nm)
  have o12 := own_set o11 (a := ⟨w.heap.size, 1, none⟩) (fun k hk => by have := LO2.out k hk; show w.heap.size ≠ k; omega) (.slice au rs.length pu)
  exact ⟨nm, rs, _, rfl, own_base o12 (by simp; try omega), hnm, hrl, (b2.setCell (Nat.le_refl _) _).setCell (Nat.le_refl _) _⟩

def RetZ (A g : Nat) (w : World) (e : Ending) (w' : World) : Prop := ∃ d : Int, e = .returned (.int .i64 d) ∧ Src A g w' ∧ Only (fun b => b = g) w w'
set_option maxHeartbeats 800000 in
theorem l06DrawDensity_c (A g : Nat) (w : World) (h : Src A g w) (hA : A ≤ 1000000000) : Calls Try.prog 138 #[.pointer (some ⟨g, 0, none⟩)] w (RetZ (A + 4) g w) := by
  have hone := fun n w' A' (h1 : n ≤ 60000) (h0 : -1000000 ≤ n) (hx : Src A' g w') (hA' : A' ≤ 100000000000) => one_c A' g n w' hx hA' h1 h0
  have hpk := fun n w' A' (h1 : n ≤ 60000) (h0 : -1000000 ≤ n) (hx : Src A' g w') (hA' : A' ≤ 100000000000) => pick_c A' g n w' hx hA' h1 h0
  have ham := fun A' W b a0 a1 a2 a3 (hx : Src A' g W) (hA' : A' ≤ 100000000000) hne c0 c1 c2 c3 => among4_c A' g b a0 a1 a2 a3 W hx hA' hne c0 c1 c2 c3
  have HONE := Lib.hid hone; clear hone
  have HPK := Lib.hid hpk; clear hpk
  have HAM := Lib.hid ham; clear ham
  go_enter Try.func138, Try.ntmps138
  go_wp2_with fail
  refine (HONE.out _ _ _ (by omega) (by omega) h (by omega)).mono ?_
  rintro _ w1 ⟨r, rfl, k1, q1⟩
  have hgl := k1.lt
  have K1 := Lib.hid k1; clear k1
  have Q1 := Lib.hid q1; clear q1
  clear h
  cases r
  · go_wp2_with fail
    refine (HPK.out _ _ _ (by omega) (by omega) K1.out (by omega)).mono ?_
    rintro _ w2 ⟨r, rfl, l2, u2, k2, q2⟩
    have qq := Q1.out.trans q2
    have K2 := Lib.hid k2; clear k2
    have QQ := Lib.hid qq; clear qq
    clear l2 u2 q2
    go_wp2
    go_returns
    exact ⟨_, rfl, K2.out, QQ.out⟩
  · go_wp2_with fail
    refine (HAM.out _ _ w1.heap.size 999 1000 20000 20001 (K1.out.later (by go_grown)) (by omega) (by omega) (by simp [go_sem]) (by simp [go_sem]) (by simp [go_sem]) (by simp [go_sem])).mono ?_
    rintro _ w2 ⟨x, rfl, hx, k2, q2⟩
    have qq := Q1.out.trans ((Only.of_below (S := fun b => b = g) (show Below w1.heap.size w1 _ by go_grown)).trans q2)
    have K2 := Lib.hid k2; clear k2
    have QQ := Lib.hid qq; clear qq
    clear q2 hx
    go_wp2
    go_returns
    exact ⟨_, rfl, K2.out, QQ.out⟩

end Go.Proofs.Ytmickkodcclocaa
