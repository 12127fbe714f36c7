/- Goals as texts: both functions, whole. -/
import Derived.Test.YtgdadbmhdljcdaaDoorTxtG
namespace Go.Proofs.YtgdadbmhdljcdaaDoor
set_option linter.unusedVariables false
open Go.RowKit Go.Proofs.Bell Go.BigFrame

set_option maxRecDepth 1000000 in
set_option maxHeartbeats 1600000 in
theorem specGoalText_c (a b c d f t m : Int) (w : World) : Calls Tryd.prog 25 #[.agg #[.int .i64 a, .int .i64 b, .int .i64 c, .int .i64 d, .int .i64 f, .int .i64 t, .int .i64 m]] w (RetB (.string (goalTI a b c d f t m)) w) := by
  have hok := fun w' g h0 h1 h2 h3 h4 h5 h6 => l10Goal_c a b c d f t m g w' h0 h1 h2 h3 h4 h5 h6
  have ht : goalB a b c d f t m = true → ∀ w' g h0 h1 h2 h3 h4 h5 h6, Calls Tryd.prog 67 #[.pointer (some ⟨g, 0, none⟩)] w' (RetB (.string (str (goalT a b c d f t m))) w') := fun h w' g h0 h1 h2 h3 h4 h5 h6 =>
    l10Text_c a b c d f t m g w' h0 h1 h2 h3 h4 h5 h6 (soundB_F (goalB_I h).1) (goalB_I h).2.1 (goalB_I h).2.2
  have HT := Lib.hid ht; clear ht
  cases t0 : goalB a b c d f t m <;> rw [t0] at hok
  · have he : goalTI a b c d f t m = ⟨#[]⟩ := by simp [goalTI, t0]
    rw [he]
    have HOK := Lib.hid hok; clear hok
    clear he t0
    go_enter Tryd.func25, Tryd.ntmps25
    go_wp2_with fail
    refine (HOK.out _ _ (by simp [go_sem]) (by simp [go_sem]) (by simp [go_sem]) (by simp [go_sem]) (by simp [go_sem]) (by simp [go_sem]) (by simp [go_sem])).mono ?_
    rintro _ w2 ⟨rfl, b1⟩
    have b2 : Below w.heap.size w w2 := Below.trans (by go_grown) (b1.mono (by simp))
    go_wp2
    go_returns
    exact RetB.mk rfl b2
  · have he : goalTI a b c d f t m = str (goalT a b c d f t m) := by simp [goalTI, t0]
    rw [he]
    have ht := HT.out t0
    generalize str (goalT a b c d f t m) = T at *
    have HOK := Lib.hid hok; clear hok
    have HT2 := Lib.hid ht; clear ht
    clear he HT t0
    go_enter Tryd.func25, Tryd.ntmps25
    go_wp2_with fail
    refine (HOK.out _ _ (by simp [go_sem]) (by simp [go_sem]) (by simp [go_sem]) (by simp [go_sem]) (by simp [go_sem]) (by simp [go_sem]) (by simp [go_sem])).mono ?_
    rintro _ w2 ⟨rfl, b1⟩
    have e0 := below_cell b1 (p := ⟨w.heap.size, 0, none⟩) (v := .int .i64 a) (by simp [go_sem])
    have e1 := below_cell b1 (p := ⟨w.heap.size, 1, none⟩) (v := .int .i64 b) (by simp [go_sem])
    have e2 := below_cell b1 (p := ⟨w.heap.size, 2, none⟩) (v := .int .i64 c) (by simp [go_sem])
    have e3 := below_cell b1 (p := ⟨w.heap.size, 3, none⟩) (v := .int .i64 d) (by simp [go_sem])
    have e4 := below_cell b1 (p := ⟨w.heap.size, 4, none⟩) (v := .int .i64 f) (by simp [go_sem])
    have e5 := below_cell b1 (p := ⟨w.heap.size, 5, none⟩) (v := .int .i64 t) (by simp [go_sem])
    have e6 := below_cell b1 (p := ⟨w.heap.size, 6, none⟩) (v := .int .i64 m) (by simp [go_sem])
    have b2 : Below w.heap.size w w2 := Below.trans (by go_grown) (b1.mono (by simp))
    clear b1
    go_wp2_with fail
    refine (HT2.out _ _ e0 e1 e2 e3 e4 e5 e6).mono ?_
    rintro _ w3 ⟨rfl, r3⟩
    go_wp2
    go_returns
    exact RetB.mk rfl (b2.trans (r3.mono b2.size))

set_option maxRecDepth 1000000 in
set_option maxHeartbeats 3200000 in
theorem implGoalText_c (a b c d f t m : Int) (w : World) (htab : Tab w) : Calls Tryd.prog 27 #[.agg #[.int .i64 a, .int .i64 b, .int .i64 c, .int .i64 d, .int .i64 f, .int .i64 t, .int .i64 m]] w (RetB (.string (goalTI a b c d f t m)) w) := by
  have hv := fun w' => implValidGoal_c a b c d f t m w'
  cases t0 : goalB a b c d f t m <;> rw [t0] at hv
  · have he : goalTI a b c d f t m = ⟨#[]⟩ := by simp [goalTI, t0]
    rw [he]
    have HV := Lib.hid hv; clear hv
    clear he t0 htab
    go_enter Tryd.func27, Tryd.ntmps27
    go_wp2_with fail
    refine (HV.out _).mono ?_
    rintro _ w2 ⟨rfl, b1⟩
    have b2 : Below w.heap.size w w2 := Below.trans (by go_grown) (b1.mono (by simp))
    go_wp2
    go_returns
    exact RetB.mk rfl b2
  · have he : goalTI a b c d f t m = str (goalT a b c d f t m) := by simp [goalTI, t0]
    rw [he]
    obtain ⟨h1, h2, h3⟩ := goalB_I t0
    have hsn := fun w' (hb : Below w.heap.size w w') => SoundText_c a b c d f w' h1 (htab.later hb)
    have hi0 : I64s t := by unfold I64s; omega
    have hi1 : I64s m := by unfold I64s; omega
    have hd : ∀ (x : Int) w', Below w.heap.size w w' → I64s x → Calls Tryd.prog 57 #[.int .i64 x] w' (RetB (.string (decB x)) w') := fun x w' hb h => Decimal_c x h.1 h.2 w' (htab.later hb)
    have l0 := Lib.itoa_length_le t hi0.1 hi0.2
    have l1 := Lib.itoa_length_le m hi1.1 hi1.2
    have s0 : (decB t).size ≤ 30 := by rw [decB_str, str_size]; omega
    have s1 : (decB m).size ≤ 30 := by rw [decB_str, str_size]; omega
    have sO : (str (outS [a, b, c, d, f] 5)).size ≤ 1000 := by rw [str_size]; have := outS_len (soundB_F h1) 5 (Nat.le_refl _); omega
    have hEq : str (outS [a, b, c, d, f] 5) ++ ⟨#[32]⟩ ++ decB t ++ ⟨#[32]⟩ ++ decB m = str (goalT a b c d f t m) := by
      unfold goalT
      rw [decB_str, decB_str, show (⟨#[32]⟩ : ByteArray) = str [32] from rfl]
      simp only [str_app]
    generalize str (outS [a, b, c, d, f] 5) = O at *
    generalize str (goalT a b c d f t m) = RES at *
    have HV := Lib.hid hv; clear hv
    have HSN := Lib.hid hsn; clear hsn
    have HD := Lib.hid hd; clear hd
    have HI0 := Lib.hid hi0; clear hi0
    have HI1 := Lib.hid hi1; clear hi1
    have HEQ := Lib.hid hEq; clear hEq
    clear he t0 htab h1 h2 h3 l0 l1
    go_enter Tryd.func27, Tryd.ntmps27
    go_wp2_with fail
    refine (HV.out _).mono ?_
    rintro _ w1 ⟨rfl, b1⟩
    have e0 := below_cell b1 (p := ⟨w.heap.size, 0, none⟩) (v := .int .i64 a) (by simp [go_sem])
    have e1 := below_cell b1 (p := ⟨w.heap.size, 1, none⟩) (v := .int .i64 b) (by simp [go_sem])
    have e2 := below_cell b1 (p := ⟨w.heap.size, 2, none⟩) (v := .int .i64 c) (by simp [go_sem])
    have e3 := below_cell b1 (p := ⟨w.heap.size, 3, none⟩) (v := .int .i64 d) (by simp [go_sem])
    have e4 := below_cell b1 (p := ⟨w.heap.size, 4, none⟩) (v := .int .i64 f) (by simp [go_sem])
    have e5 := below_cell b1 (p := ⟨w.heap.size, 5, none⟩) (v := .int .i64 t) (by simp [go_sem])
    have e6 := below_cell b1 (p := ⟨w.heap.size, 6, none⟩) (v := .int .i64 m) (by simp [go_sem])
    have b2 : Below w.heap.size w w1 := Below.trans (by go_grown) (b1.mono (by simp))
    clear b1
    have f0 : ∀ s : Lat w1, s.world.cell? ⟨w.heap.size, 0, none⟩ = some (.int .i64 a) := fun s => s.cell e0
    have f1 : ∀ s : Lat w1, s.world.cell? ⟨w.heap.size, 1, none⟩ = some (.int .i64 b) := fun s => s.cell e1
    have f2 : ∀ s : Lat w1, s.world.cell? ⟨w.heap.size, 2, none⟩ = some (.int .i64 c) := fun s => s.cell e2
    have f3 : ∀ s : Lat w1, s.world.cell? ⟨w.heap.size, 3, none⟩ = some (.int .i64 d) := fun s => s.cell e3
    have f4 : ∀ s : Lat w1, s.world.cell? ⟨w.heap.size, 4, none⟩ = some (.int .i64 f) := fun s => s.cell e4
    have f5 : ∀ s : Lat w1, s.world.cell? ⟨w.heap.size, 5, none⟩ = some (.int .i64 t) := fun s => s.cell e5
    have f6 : ∀ s : Lat w1, s.world.cell? ⟨w.heap.size, 6, none⟩ = some (.int .i64 m) := fun s => s.cell e6
    have hs2 : ∀ s : Lat w1, Calls Tryd.prog 70 #[.agg #[.int .i64 a, .int .i64 b, .int .i64 c, .int .i64 d, .int .i64 f]] s.world (RetB (.string O) s.world) := fun s => HSN.out _ (b2.trans (s.below.mono b2.size))
    have hd2 : ∀ (s : Lat w1) (x : Int), I64s x → Calls Tryd.prog 57 #[.int .i64 x] s.world (RetB (.string (decB x)) s.world) := fun s x h => HD.out x _ (b2.trans (s.below.mono b2.size)) h
    have HS2 := Lib.hid hs2; clear hs2
    have HD2 := Lib.hid hd2; clear hd2
    clear e0 e1 e2 e3 e4 e5 e6
    go_wp2_with fail
    refine wp_region_lat (by kernel_rfl) (by kernel_rfl) ?_
    repeat (go_big_quiet_step (first | (go_at_call 70; exact Lat.callB (HS2.out _)) | (go_at_call 57; exact Lat.callB (HD2.out _ _ (by first | exact HI0.out | exact HI1.out)))))
    refine wpQuiet_nil ?_
    rintro _ ⟨s, rfl⟩
    have b9 := b2.trans (s.below.mono b2.size)
    clear f0 f1 f2 f3 f4 f5 f6
    go_wp2
    go_returns
    exact RetB.mk (congrArg Value.string HEQ.out) b9

end Go.Proofs.YtgdadbmhdljcdaaDoor
