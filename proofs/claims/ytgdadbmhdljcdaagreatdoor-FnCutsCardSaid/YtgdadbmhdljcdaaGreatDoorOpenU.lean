/- Bytes as an argument of a law; two equal profiles. -/
import Derived.Test.YtgdadbmhdljcdaaGreatDoorEqR
import Derived.Test.YtgdadbmhdljcdaaGreatDoorGC
import Derived.Test.YtgdadbmhdljcdaaGreatDoorGI
namespace Go.Proofs.YtgdadbmhdljcdaaGreatDoor
set_option linter.unusedVariables false
open Go.RowKit Go.Proofs.Bell Go.BigFrame

theorem bytes_flat (zs : List Int) : zs.flatMap (fun z => [Value.int .u8 z]) = bytesV zs := by
  unfold bytesV
  induction zs with
  | nil => rfl
  | cons z zs ih => rw [List.flatMap_cons, ih]; rfl
theorem byte_of_wf {z : Int} (h : (Lit.int .u8 z).wf = true) : Byte z := by
  have h1 : IntKind.u8.min = 0 := rfl
  have h2 : IntKind.u8.max = 255 := rfl
  simp only [Lit.wf, Bool.and_eq_true, decide_eq_true_eq] at h
  unfold Byte
  omega
set_option maxRecDepth 100000 in
theorem open_uint8S {H : Type} {enc : TypeId × Value → H} {w : World} {v : Value} {d : DataW H} {p : List MemPlace} {r : Reach} {b0 : Nat}
    (hv : Value.okWide Tryz.prog w r b0 22 v) (h : DataW.Trod enc Tryz.prog w 0 (fun _ => true) true 22 v d p) :
    ∃ zs : List Int, Rd w v zs.length (bytesV zs) ∧ ∀ z ∈ zs, Byte z := by
  obtain ⟨zs, h1, h2⟩ := open_elems (s := 1) (cells := fun z : Int => [Value.int .u8 z]) (Q := Byte) (fun _ => rfl) (by omega) Tryz.underlying22 (by kernel_rfl) (fun n cs x hx _ => by
    obtain ⟨z, rfl, _, hw⟩ := DataW.trod_int Tryz.underlying5 hx
    refine ⟨z, rfl, ?_⟩

    exact byte_of_wf hw) hv h
  exact ⟨zs, by rwa [bytes_flat] at h1, h2⟩

theorem toList_refl (nm : ByteArray) : (nm.toList == nm.toList) = true := by simp
set_option maxHeartbeats 800000 in
theorem specSame_c (nm : ByteArray) (v v' : Value) (ps : List (Int × Int × Int)) (w : World) (h : Rd w v ps.length (trips ps)) (h' : Rd w v' ps.length (trips ps)) :
    Calls Tryz.prog 11 #[.agg #[.string nm, v], .agg #[.string nm, v']] w (RetB (.bool true) w) := by
  have hs := fun w' g g' c0 c1 d0 d1 (hx : Below w.heap.size w w') => l05Same_c g g' nm nm (toList_refl nm) v v' ps ps w' c0 c1 d0 d1 (h.later hx) (h'.later hx) rfl
  rw [show eqT ps ps = true by simp [eqT]] at hs
  have HS := Lib.hid hs; clear hs
  obtain ⟨_, ao, cap, _, _, rfl, _, _⟩ := h.open
  obtain ⟨_, ao', cap', _, _, rfl, _, _⟩ := h'.open
  clear h h'
  go_enter Tryz.func11, Tryz.ntmps11
  go_wp2_with fail
  refine (HS.out _ w.heap.size (w.heap.size + 1) (by simp [go_sem]) (by simp [go_sem]) (by simp [go_sem]) (by simp [go_sem]) (by go_grown)).mono ?_
  rintro _ w1 ⟨rfl, n, rfl⟩
  go_wp2
  go_returns
  exact RetB.mk rfl (below_drewN (((Below.refl _ _).alloc (Nat.le_refl _) _).alloc (by simp) _) _)

end Go.Proofs.YtgdadbmhdljcdaaGreatDoor
