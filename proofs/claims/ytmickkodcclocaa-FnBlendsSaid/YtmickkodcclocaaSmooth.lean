/- A profile, smoothed: the reference. -/
import Derived.Test.YtmickkodcclocaaGF
import Derived.Test.YtmickkodcclocaaThick
namespace Go.Proofs.Ytmickkodcclocaa
set_option linter.unusedVariables false
open Go.RowKit Go.Proofs.Bell Go.BigFrame

def smT (ps : List (Int × Int × Int)) (k : Nat) (r : Int × Int × Int) : Int × Int × Int :=
  if k = 0 ∨ k + 1 = ps.length then r else (rnd ((rg ps (k - 1)).1 + 2 * r.1 + (rg ps (k + 1)).1) 4, rnd ((rg ps (k - 1)).2.1 + 2 * r.2.1 + (rg ps (k + 1)).2.1) 4, r.2.2)
def smoothI (nm : ByteArray) (ps : List (Int × Int × Int)) : ByteArray × List (Int × Int × Int) × Int := if profB nm ps then doneR nm (mapK (smT ps) ps ps.length) else (⟨#[]⟩, [], 1)
theorem smoothI_len (nm : ByteArray) (ps : List (Int × Int × Int)) : (smoothI nm ps).2.1.length ≤ 32 := by
  unfold smoothI
  split
  · exact doneR_len _ _
  · simp
theorem mix_same {T : Nat → Int × Int × Int → Int × Int × Int} {ps : List (Int × Int × Int)} {k : Nat} (h : k < ps.length) (ht : T k (rg ps k) = rg ps k) : mixK T ps (k + 1) = mixK T ps k := by
  rw [← mix_set T h, ht]
  have h2 := mix_at T (Nat.le_refl k) h
  have hl := mix_len T (Nat.le_of_lt h)
  rw [← h2]
  have hk : k < (mixK T ps k).length := by omega
  rw [rg_eq hk]
  exact List.set_getElem_self hk
theorem rg_set {qs : List (Int × Int × Int)} {k : Nat} (h : k < qs.length) (x : Int × Int × Int) : rg (qs.set k x) k = x := by
  have hk : k < (qs.set k x).length := by simpa using h
  rw [rg_eq hk]
  simp

end Go.Proofs.Ytmickkodcclocaa
