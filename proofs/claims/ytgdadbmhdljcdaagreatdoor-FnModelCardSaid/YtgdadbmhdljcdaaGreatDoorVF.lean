/- Several texts of the proofs in one: FitD, FitP. -/
import Derived.Test.YtgdadbmhdljcdaaGreatDoorVD
import Derived.Test.YtgdadbmhdljcdaaGreatDoorVG
import Derived.Test.YtgdadbmhdljcdaaGreatDoorWJ
import Derived.Test.YtgdadbmhdljcdaaGreatDoorWK
/- A model fitted to a sound: the plain words. -/
namespace Go.Proofs.YtgdadbmhdljcdaaGreatDoor
set_option linter.unusedVariables false
open Go.RowKit Go.Proofs.Bell Go.BigFrame

theorem OwnM.base {lo hi : Nat} {w w' : World} {zv wv bv : Value} {us : List Value} {zs : List Int} {ws : List (List Int)} {bs bs' : List Int} (h : OwnM lo hi w zv wv bv us zs ws bs) (hq : Only (fun b => bv.ownBlock = some b) w w') (hb : OwnI lo w' bv bs') : OwnM lo hi w' zv wv bv us zs ws bs' :=
  ⟨own_only h.z hq (fun b hb' hS => h.zb b hb' hS), h.zh, ⟨h.s.len, own_only h.s.row hq (fun b hb' hS => h.bc b hS hb'), h.s.rowh, fun k hk => own_only (h.s.own k hk) hq (fun b hb' hS => h.bu k hk b hb' hS), h.s.top, h.s.dis, h.s.cd⟩, hb, h.bh, h.zb, h.zc, h.zu, h.bu, h.bc⟩

def fitV (list sums : List Int) (area : Int) (k : Nat) : Int := rnd (list.getD k 0 * area) (sums.getD k 0)
def fitK (list sums : List Int) (area : Int) (bs : List Int) : Nat → List Int
  | 0 => bs
  | k + 1 => (fitK list sums area bs k).set k (fitV list sums area k)
def fitOkK (list sums : List Int) (area : Int) : Nat → Bool
  | 0 => true
  | k + 1 => fitOkK list sums area k && inB (fitV list sums area k) 1 1000000000
theorem fitK_len (list sums : List Int) (area : Int) (bs : List Int) : ∀ k, (fitK list sums area bs k).length = bs.length
  | 0 => rfl
  | k + 1 => by rw [fitK, List.length_set, fitK_len list sums area bs k]
theorem fitK_at (list sums : List Int) (area : Int) (bs : List Int) {k : Nat} (h : k < bs.length) : (fitK list sums area bs (k + 1)).getD k 0 = fitV list sums area k := by
  rw [fitK]
  simp [List.getD, List.getElem?_set_self (show k < (fitK list sums area bs k).length by rw [fitK_len]; exact h)]
/-- once it fails, it has failed -/
theorem fitOk_mono {list sums : List Int} {area : Int} : ∀ {k n : Nat}, k ≤ n → fitOkK list sums area k = false → fitOkK list sums area n = false
  | k, n, hkn, h => by
    induction n with
    | zero => have : k = 0 := by omega
              subst this; exact h
    | succ n ih =>
      rcases Nat.lt_or_ge n k with h1 | h1
      · have : k = n + 1 := by omega
        subst this; exact h
      · rw [fitOkK, ih h1]; rfl

end Go.Proofs.YtgdadbmhdljcdaaGreatDoor

/- The five frequencies of a sound as a list of one's own. -/
namespace Go.Proofs.YtgdadbmhdljcdaaGreatDoor
set_option linter.unusedVariables false
open Go.RowKit Go.Proofs.Bell Go.BigFrame

theorem listOfO_c (a b c d f : Int) (w : World) : Calls Tryz.prog 69 #[.agg #[.int .i64 a, .int .i64 b, .int .i64 c, .int .i64 d, .int .i64 f]] w (RetOwnI [a, b, c, d, f] w) := by
  go_enter Tryz.func69, Tryz.ntmps69
  go_wp2
  go_returns
  exact ⟨_, rfl, by
    have h := own_five (w.alloc (.cells #[.int .i64 a, .int .i64 b, .int .i64 c, .int .i64 d, .int .i64 f] 47)) a b c d f w.heap.size (by simp)
    simpa using h, by go_grown⟩
theorem l04ListO_c (a b c d f : Int) (g : Nat) (w : World) (h0 : w.cell? ⟨g, 0, none⟩ = some (.int .i64 a)) (h1 : w.cell? ⟨g, 1, none⟩ = some (.int .i64 b)) (h2 : w.cell? ⟨g, 2, none⟩ = some (.int .i64 c)) (h3 : w.cell? ⟨g, 3, none⟩ = some (.int .i64 d)) (h4 : w.cell? ⟨g, 4, none⟩ = some (.int .i64 f)) :
    Calls Tryz.prog 76 #[.pointer (some ⟨g, 0, none⟩)] w (RetOwnI [a, b, c, d, f] w) := by
  go_enter Tryz.func76, Tryz.ntmps76
  go_wp2_with fail
  go_region
  all_goals (try go_wp2)
  all_goals go_returns
  all_goals (exact ⟨_, rfl, own_five w a b c d f _ (Nat.le_refl _), by go_grown⟩)

end Go.Proofs.YtgdadbmhdljcdaaGreatDoor

