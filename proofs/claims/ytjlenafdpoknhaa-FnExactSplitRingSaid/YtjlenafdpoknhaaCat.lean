/- Lists of rings joined: slices.Grow and slices.Concat. -/
import Derived.Test.YtjlenafdpoknhaaInsR3
namespace Go.Proofs.Ytjlenafdpoknhaa
set_option linter.unusedVariables false
open Go.RowKit Go.Proofs.Bell Go.BigFrame

set_option maxRecDepth 100000 in
set_option maxHeartbeats 1600000 in
theorem GrowR_c (n : Nat) (w : World) (h0 : 1 ≤ n) (hn : n ≤ 1000) :
    Calls Try.prog 79 #[.slice none 0 0, .int .i64 n] w (RetOwnR [] w) := by
  obtain ⟨i0, hi0, hz0, hz1, hz2⟩ := info_parts info_Ring
  obtain ⟨G, hG⟩ : ∃ G, G = grownCap w n 0 38 := ⟨_, rfl⟩
  obtain ⟨ROW, hROW⟩ : ∃ ROW : Array Value, ROW = Builtin.zeroCells (Value.agg #[.int .i64 0, .int .i64 0, .int .i64 0]).cells n ++ Builtin.zeroCells (Value.agg #[.int .i64 0, .int .i64 0, .int .i64 0]).cells (G - n) := ⟨_, rfl⟩
  have hrz : ∀ ty, (Builtin.append_ #[26, 3] ty #[.slice none 0 0, .int .i64 n]).run Try.prog w = .ok (.slice (some ⟨w.heap.size, 0, none⟩) n G) (w.drew.alloc (.cells ROW 38)) := fun ty => by
    rw [hROW, hG]
    exact Lib.run_append_nil_zeros w 26 3 ty 38 i0 _ .i64 .i64 Try.underlying26 Try.underlying3 hi0 hz0 n (by omega) (by omega) (by omega) (by rw [hz2]; omega)
  have hGn : n ≤ G := by rw [hG]; exact grownCap_ge w _ _ _
  have hGm : G ≤ maxLen := by rw [hG]; exact grownCap_le_maxLen w n 0 38 (by unfold maxLen; omega)
  have hRs : ROW.size = G * 3 := by
    rw [hROW]
    simp only [Array.size_append, zeros_len, Value.cells]
    simp
    omega
  have hown : (w.drew.alloc (.cells ROW 38)).ownsRow w.heap.size 38 3 (.slice (some ⟨w.heap.size, 0, none⟩) 0 G) 0 [] := World.ownsRow_made w.drew ROW G (Nat.le_refl _) hGm hRs
  have hb : Below w.heap.size w (w.drew.alloc (.cells ROW 38)) := by go_grown
  have t1 : decide ((n : Int) < 0) = false := decide_eq_false (by omega)
  have t2 : decide (0 < n) = true := decide_eq_true (by omega)
  have hw : IntKind.i64.wrap (n : Int) = n := IntWalk.i64_in _ (by omega)
  have hG63 : G ≤ 9223372036854775807 := by unfold maxLen at hGm; omega
  clear hG hROW hRs hi0 hz0 hz1 hz2
  have HOWN := Lib.hid hown; clear hown
  go_enter Try.func79, Try.ntmps79
  go_wp2_with (at_builtin; refine Lib.wpList_append_run _ rfl _ _ _ _ rfl _ _ rfl rfl _ _ (hrz _) ?_)
  go_returns
  exact ⟨_, rfl, HOWN.out, hb⟩

/-- the first k lists joined -/
def catK (R : Nat → List (Int × Int × Int)) : Nat → List (Int × Int × Int)
  | 0 => []
  | k + 1 => catK R k ++ R k
def sumN (N : Nat → Nat) : Nat → Nat
  | 0 => 0
  | k + 1 => sumN N k + N k
theorem catK_len (R : Nat → List (Int × Int × Int)) : ∀ k, (catK R k).length = sumN (fun j => (R j).length) k
  | 0 => rfl
  | k + 1 => by rw [catK, List.length_append, catK_len R k]; rfl

end Go.Proofs.Ytjlenafdpoknhaa
