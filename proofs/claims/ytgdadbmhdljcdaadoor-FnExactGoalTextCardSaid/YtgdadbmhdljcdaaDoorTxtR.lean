/- strings.Repeat of "0", none to twice. -/
import Derived.Test.YtgdadbmhdljcdaaDoorTxt2
import Derived.Test.YtgdadbmhdljcdaaDoorTxtShlR
namespace Go.Proofs.YtgdadbmhdljcdaaDoor
set_option linter.unusedVariables false
open Go.RowKit Go.Proofs.Bell Go.BigFrame

set_option maxRecDepth 1000000 in
set_option maxHeartbeats 1600000 in
theorem Repeat0_c (c : Nat) (hc : c ≤ 2) (w : World) : Calls Tryd.prog 152 #[.string ⟨#[48]⟩, .int .i64 c] w (RetB (.string (str (List.replicate c 48))) w) := by
  have h3 : c = 0 ∨ c = 1 ∨ c = 2 := by omega
  rcases h3 with rfl | rfl | rfl
  · go_enter Tryd.func152, Tryd.ntmps152
    go_wp2
    go_returns
    exact RetB.mk rfl (Below.refl _ _)
  · go_enter Tryd.func152, Tryd.ntmps152
    go_wp2
    go_returns
    exact RetB.mk rfl (Below.refl _ _)
  · have hm : ∀ w, Calls Tryd.prog 169 #[.int .u64 1, .int .u64 2] w (fun e w' => e = .returned (.tuple #[.int .u64 0, .int .u64 2]) ∧ w' = w) := fun w => Tryd.bits_Mul 1 2 (by decide) (by decide) w
    have HM := Lib.hid hm; clear hm
    have hp : ∀ (p : ByteArray) w, (p.data.toList.headD 0 = 48) → p.data.toList ≠ [] → Calls Tryd.prog 170 #[.string p, .string ⟨#[48]⟩] w (fun e w' => e = .returned (.bool true) ∧ w' = w) := fun p w h0 h1 => (Tryd.strings_HasPrefix p ⟨#[48]⟩ w).mono fun e w' ⟨h, h2⟩ => ⟨by rw [h]; congr 2; cases hx : p.data.toList with
      | nil => exact absurd hx h1
      | cons x r => rw [hx] at h0; simp at h0; subst h0; rfl, h2⟩
    have hq : ∀ (p : ByteArray) w, (p.data.toList.headD 48 ≠ 48) → Calls Tryd.prog 170 #[.string p, .string ⟨#[48]⟩] w (fun e w' => e = .returned (.bool false) ∧ w' = w) := fun p w h0 => (Tryd.strings_HasPrefix p ⟨#[48]⟩ w).mono fun e w' ⟨h, h2⟩ => ⟨by rw [h]; congr 2; cases hx : p.data.toList with
      | nil => rw [hx] at h0; exact absurd rfl h0
      | cons x r => rw [hx] at h0; simp only [List.headD_cons] at h0; show (((48 : UInt8) == x) && _) = false; rw [beq_eq_false_iff_ne.2 (Ne.symm h0)]; rfl, h2⟩
    have HQ := Lib.hid hq; clear hq
    have HP := Lib.hid hp; clear hp
    go_enter Tryd.func152, Tryd.ntmps152
    go_wp2_with fail
    refine (HM.out _).mono ?_
    rintro _ _ ⟨rfl, rfl⟩
    go_wp2_with fail
    refine (HQ.out _ _ (by decide)).mono ?_
    rintro _ _ ⟨rfl, rfl⟩
    go_wp2_with fail
    refine (HQ.out _ _ (by decide)).mono ?_
    rintro _ _ ⟨rfl, rfl⟩
    go_wp2_with fail
    refine (HP.out _ _ (by rfl) (by simp)).mono ?_
    rintro _ _ ⟨rfl, rfl⟩
    go_wp2
    go_returns
    exact RetB.mk rfl (Below.refl _ _)

end Go.Proofs.YtgdadbmhdljcdaaDoor
