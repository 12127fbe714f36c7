/- Goals as texts: both functions. -/
import Derived.Test.YtgdadbmhdljcdaaDoorTxtS
namespace Go.Proofs.YtgdadbmhdljcdaaDoor
set_option linter.unusedVariables false
open Go.RowKit Go.Proofs.Bell Go.BigFrame

def goalT (a b c d f t m : Int) : List UInt8 := outS [a, b, c, d, f] 5 ++ [32] ++ Lib.itoa t ++ [32] ++ Lib.itoa m
def goalTI (a b c d f t m : Int) : ByteArray := if goalB a b c d f t m then str (goalT a b c d f t m) else ⟨#[]⟩
theorem goalB_I {a b c d f t m : Int} (h : goalB a b c d f t m = true) : soundB a b c d f = true ∧ (0 ≤ t ∧ t ≤ 20000) ∧ (0 ≤ m ∧ m ≤ 20) := by
  simp only [goalB, Bool.and_eq_true] at h
  exact ⟨h.1.1, inB_t h.1.2, inB_t h.2⟩

set_option maxRecDepth 1000000 in
set_option maxHeartbeats 3200000 in
theorem l10Text_c (a b c d f t m : Int) (g : Nat) (w : World) (h0 : w.cell? ⟨g, 0, none⟩ = some (.int .i64 a)) (h1 : w.cell? ⟨g, 1, none⟩ = some (.int .i64 b)) (h2 : w.cell? ⟨g, 2, none⟩ = some (.int .i64 c)) (h3 : w.cell? ⟨g, 3, none⟩ = some (.int .i64 d)) (h4 : w.cell? ⟨g, 4, none⟩ = some (.int .i64 f)) (h5 : w.cell? ⟨g, 5, none⟩ = some (.int .i64 t)) (h6 : w.cell? ⟨g, 6, none⟩ = some (.int .i64 m))
    (hF : Fq [a, b, c, d, f]) (ht : 0 ≤ t ∧ t ≤ 20000) (hm : 0 ≤ m ∧ m ≤ 20) : Calls Tryd.prog 67 #[.pointer (some ⟨g, 0, none⟩)] w (RetB (.string (str (goalT a b c d f t m))) w) := by
  have hs := fun s : Lat w => l04Text_c a b c d f g s.world (s.cell h0) (s.cell h1) (s.cell h2) (s.cell h3) (s.cell h4) hF
  have hd : ∀ (s : Lat w) (x : Int), I64s x → Calls Tryd.prog 91 #[.int .i64 x] s.world (RetB (.string (decB x)) s.world) := fun s x h => l01Dec_c x h.1 h.2 s.world
  have hi0 : I64s t := by unfold I64s; omega
  have hi1 : I64s m := by unfold I64s; omega
  have f5 : ∀ s : Lat w, s.world.cell? ⟨g, 5, none⟩ = some (.int .i64 t) := fun s => s.cell h5
  have f6 : ∀ s : Lat w, s.world.cell? ⟨g, 6, none⟩ = some (.int .i64 m) := fun s => s.cell h6
  have l0 := Lib.itoa_length_le t hi0.1 hi0.2
  have l1 := Lib.itoa_length_le m hi1.1 hi1.2
  have s0 : (decB t).size ≤ 30 := by rw [decB_str, str_size]; omega
  have s1 : (decB m).size ≤ 30 := by rw [decB_str, str_size]; omega
  have sO : (str (outS [a, b, c, d, f] 5)).size ≤ 1000 := by rw [str_size]; have := outS_len hF 5 (Nat.le_refl _); omega
  have hEq : str (outS [a, b, c, d, f] 5) ++ ⟨#[32]⟩ ++ decB t ++ ⟨#[32]⟩ ++ decB m = str (goalT a b c d f t m) := by
    unfold goalT
    rw [decB_str, decB_str, show (⟨#[32]⟩ : ByteArray) = str [32] from rfl]
    simp only [str_app]
  generalize str (outS [a, b, c, d, f] 5) = O at *
  generalize str (goalT a b c d f t m) = RES at *
  have HS := Lib.hid hs; clear hs
  have HD := Lib.hid hd; clear hd
  have HI0 := Lib.hid hi0; clear hi0
  have HI1 := Lib.hid hi1; clear hi1
  have HEQ := Lib.hid hEq; clear hEq
  clear h0 h1 h2 h3 h4 h5 h6 hF ht hm l0 l1
  go_enter Tryd.func67, Tryd.ntmps67
  go_wp2_with fail
  refine wp_region_lat (by kernel_rfl) (by kernel_rfl) ?_
  repeat (go_big_quiet_step (first | (go_at_call 110; exact Lat.callB (HS.out _)) | (go_at_call 91; exact Lat.callB (HD.out _ _ (by first | exact HI0.out | exact HI1.out)))))
  refine wpQuiet_nil ?_
  rintro _ ⟨s, rfl⟩
  have b9 := s.below
  go_wp2
  go_returns
  exact RetB.mk (congrArg Value.string HEQ.out) b9

end Go.Proofs.YtgdadbmhdljcdaaDoor
