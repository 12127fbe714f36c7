/- Bytes as an argument of a law; two equal profiles. -/
import Derived.Test.YtmeeibcbhjifbaaEqR
import Derived.Test.YtmeeibcbhjifbaaGC
import Derived.Test.YtmeeibcbhjifbaaGI
namespace Go.Proofs.Ytmeeibcbhjifbaa
set_option linter.unusedVariables false
open Go.RowKit Go.Proofs.Bell Go.BigFrame

theorem bytes_flat (zs : List Int) : zs.flatMap (fun z => [Value.int .u8 z]) = bytesV zs := by
  unfold bytesV
  induction zs with
  | nil => rfl
  | cons z zs ih => rw [List.flatMap_cons, ih]; rfl
theorem byte_of_wf {z : Int} (h : (Lit.int .u8 z).wf = true) : Byte z := by
  have h1 : IntKind.u8.min = 0 := rfl
  have h2 : IntKind.u8.max = 255 := rfl
  simp only [Lit.wf, Bool.and_eq_true, decide_eq_true_eq] at h
  unfold Byte
  omega
set_option maxRecDepth 100000 in
theorem open_uint8S {H : Type} {enc : TypeId × Value → H} {w : World} {v : Value} {d : DataW H} {p : List MemPlace} {r : Reach} {b0 : Nat}
    (hv : Value.okWide Try.prog w r b0 54 v) (h : DataW.Trod enc Try.prog w 0 (fun _ => true) true 54 v d p) :
    ∃ zs : List Int, Rd w v zs.length (bytesV zs) ∧ ∀ z ∈ zs, Byte z := by
  obtain ⟨zs, h1, h2⟩ := open_elems (s := 1) (cells := fun z : Int => [Value.int .u8 z]) (Q := Byte) (fun _ => rfl) (by omega) Try.underlying54 (by kernel_rfl) (fun n cs x hx _ => by
    obtain ⟨z, rfl, _, hw⟩ := DataW.trod_int Try.underlying5 hx
    refine ⟨z, rfl, ?_⟩

    exact byte_of_wf hw) hv h
  exact ⟨zs, by rwa [bytes_flat] at h1, h2⟩

theorem toList_refl (nm : ByteArray) : (nm.toList == nm.toList) = true := by simp
end Go.Proofs.Ytmeeibcbhjifbaa
