/- Volumes of profiles. -/
import Derived.Test.YtddkjcdnomoglaaAt2
import Derived.Test.YtddkjcdnomoglaaRing2
namespace Go.Proofs.Ytddkjcdnomoglaa
set_option linter.unusedVariables false
open Go.RowKit Go.Proofs.Bell Go.BigFrame

def fsum (f : Int × Int × Int → Int) (rs : List (Int × Int × Int)) : Int := (rs.map f).sum
theorem fsum_snoc (f : Int × Int × Int → Int) (ps : List (Int × Int × Int)) {k : Nat} (h : k < ps.length) : fsum f (ps.take (k + 1)) = fsum f (ps.take k) + f (rg ps k) := by
  show ((ps.take (k + 1)).map f).sum = ((ps.take k).map f).sum + _
  rw [rg_eq h, List.take_succ_eq_append_getElem h, List.map_append, List.sum_append]; simp
theorem all_at {f : Int × Int × Int → Bool} {ps : List (Int × Int × Int)} (h : ps.all f = true) {k : Nat} (hk : k < ps.length) : f (rg ps k) = true := by
  rw [rg_eq hk]; exact List.all_eq_true.1 h ps[k] (List.getElem_mem hk)
theorem fsum_bd {f : Int × Int × Int → Int} {M : Int} {ps : List (Int × Int × Int)} (hM : 0 ≤ M) (hf : ∀ p, ringT p = true → 0 ≤ f p ∧ f p ≤ M) (h : ps.all ringT = true) : ∀ k, 0 ≤ fsum f (ps.take k) ∧ fsum f (ps.take k) ≤ M * k := by
  intro k
  induction k with
  | zero => simp [fsum]
  | succ k ih =>
    have e : M * ((k + 1 : Nat) : Int) = M * k + M := by rw [Int.natCast_add, Int.mul_add]; simp
    rcases Nat.lt_or_ge k ps.length with hk | hk
    · rw [fsum_snoc f ps hk, e]
      have h1 := hf _ (all_at h hk)
      omega
    · rw [List.take_of_length_le (by omega)] at ih ⊢; rw [e]; omega

def rvolT (p : Int × Int × Int) : Int := tubeI (secI p.1 p.2.1) p.2.2
def hvolT (p : Int × Int × Int) : Int := tubeI (p.2.1 * p.2.1) p.2.2
theorem rvolT_bd {p : Int × Int × Int} (h : ringT p = true) : 0 ≤ rvolT p ∧ rvolT p ≤ 21205752750 := by
  have a := secI_bd (o := p.1) (i := p.2.1) (h := p.2.2) h
  have r := ringT_t h
  have t := tube_bd (sq := secI p.1 p.2.1) (h := p.2.2) a.1 a.2.1 (by omega) (by omega)
  exact ⟨t.2.2.2.2.1, t.2.2.2.2.2⟩
theorem hvolT_bd {p : Int × Int × Int} (h : ringT p = true) : 0 ≤ hvolT p ∧ hvolT p ≤ 21205752750 := by
  have a := secI_bd (o := p.1) (i := p.2.1) (h := p.2.2) h
  have r := ringT_t h
  have t := tube_bd (sq := p.2.1 * p.2.1) (h := p.2.2) a.2.2.2.2.1 a.2.2.2.2.2 (by omega) (by omega)
  exact ⟨t.2.2.2.2.1, t.2.2.2.2.2⟩
def volI (rs : List (Int × Int × Int)) : Int := fsum rvolT rs
def holI (rs : List (Int × Int × Int)) : Int := fsum hvolT rs
def volumeI (nm : ByteArray) (rs : List (Int × Int × Int)) : Int × Int := if profB nm rs then (volI rs, 0) else (0, 1)
def hollowI (nm : ByteArray) (rs : List (Int × Int × Int)) : Int × Int := if profB nm rs then (holI rs, 0) else (0, 1)

end Go.Proofs.Ytddkjcdnomoglaa
