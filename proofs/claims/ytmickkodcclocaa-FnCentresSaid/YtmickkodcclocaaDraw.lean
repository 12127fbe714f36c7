/- The source of choices: one byte, a number below n, one of a list. -/
import Derived.Test.YtmickkodcclocaaGA
import Derived.Test.YtmickkodcclocaaGF
namespace Go.Proofs.Ytmickkodcclocaa
set_option linter.unusedVariables false
open Go.RowKit Go.Proofs.Bell Go.BigFrame

structure Src (A g : Nat) (w : World) : Prop where
  code : ∃ (ao : Option Addr) (n cap b off : Nat), w.cell? ⟨g, 0, none⟩ = some (.slice ao n cap) ∧ n ≤ 1048576 ∧ (0 < n → ao = some ⟨b, off, none⟩) ∧ (0 < n → b < g) ∧ ∀ j, j < n → ∃ u : Int, 0 ≤ u ∧ u ≤ 255 ∧ w.cell? ⟨b, off + j, none⟩ = some (.int .u8 u)
  pos : ∃ k : Nat, k ≤ A ∧ w.cell? ⟨g, 1, none⟩ = some (.int .i64 k)
  seed : ∃ s : Int, w.cell? ⟨g, 2, none⟩ = some (.int .u64 s)
  fz : ∀ j, w.frozen? ⟨g, j, none⟩ = false
theorem Src.lt {A g : Nat} {w : World} (h : Src A g w) : g < w.heap.size := by
  obtain ⟨_, _, h⟩ := h.pos
  exact World.block_lt_of_cell? _ _ h
theorem Src.only {S : Nat → Prop} {A g : Nat} {w w' : World} (h : Src A g w) (ho : Only S w w') (hs : ∀ b, S b → w.heap.size ≤ b) : Src A g w' := by
  have hb := Only.below (Below.refl w.heap.size w) ho (Nat.le_refl _) hs
  have hl := h.lt
  obtain ⟨ao, n, cap, b, off, c0, h1, h2, h3, h4⟩ := h.code
  obtain ⟨k, k1, k2⟩ := h.pos
  obtain ⟨s, s1⟩ := h.seed
  exact ⟨⟨ao, n, cap, b, off, below_cell hb c0, h1, h2, h3, fun j hj => by obtain ⟨u, u1, u2, u3⟩ := h4 j hj; exact ⟨u, u1, u2, below_cell hb u3⟩⟩, ⟨k, k1, below_cell hb k2⟩, ⟨s, below_cell hb s1⟩, fun j => (hb.frozen (p := ⟨g, j, none⟩) hl).trans (h.fz j)⟩
theorem Src.later {A g : Nat} {w w' : World} (h : Src A g w) (hb : Below w.heap.size w w') : Src A g w' := h.only (S := fun b => w.heap.size ≤ b) (Only.of_below hb) (fun _ h => h)
theorem Src.keep {S : Nat → Prop} {A g : Nat} {w w' : World} (h : Src A g w) (ho : Only S w w') (hs : ∀ b, S b → g < b) : Src A g w' := by
  have hl := h.lt
  obtain ⟨ao, n, cap, b, off, c0, h1, h2, h3, h4⟩ := h.code
  obtain ⟨k, k1, k2⟩ := h.pos
  obtain ⟨s, s1⟩ := h.seed
  have ng : ¬ S g := fun e => by have := hs g e; omega
  exact ⟨⟨ao, n, cap, b, off, cell_only ho c0 ng, h1, h2, h3, fun j hj => by obtain ⟨u, u1, u2, u3⟩ := h4 j hj; exact ⟨u, u1, u2, cell_only ho u3 (fun e => by have := hs b e; have := h3 (by omega); omega)⟩⟩, ⟨k, k1, cell_only ho k2 ng⟩, ⟨s, cell_only ho s1 ng⟩, fun j => (World.frozen?_of_block (ho.block g hl ng)).trans (h.fz j)⟩
theorem Src.mono {A B g : Nat} {w : World} (h : Src A g w) (hab : A ≤ B) : Src B g w := by
  obtain ⟨k, k1, k2⟩ := h.pos
  exact ⟨h.code, ⟨k, by omega, k2⟩, h.seed, h.fz⟩
theorem Src.step {A B g : Nat} {w : World} (h : Src A g w) (k : Nat) (hk : k ≤ B) (s : Int) : Src B g ((w.setCell ⟨g, 1, none⟩ (.int .i64 k)).setCell ⟨g, 2, none⟩ (.int .u64 s)) := by
  obtain ⟨ao, n, cap, b, off, c0, h1, h2, h3, h4⟩ := h.code
  obtain ⟨k0, k1, k2⟩ := h.pos
  obtain ⟨s0, s1⟩ := h.seed
  refine ⟨⟨ao, n, cap, b, off, ?_, h1, h2, h3, fun j hj => ?_⟩, ⟨k, hk, ?_⟩, ⟨s, ?_⟩, fun j => ?_⟩
  · rw [World.cell?_setCell_other _ _ _ _ (by simp), World.cell?_setCell_other _ _ _ _ (by simp)]; exact c0
  · obtain ⟨u, u1, u2, u3⟩ := h4 j hj
    refine ⟨u, u1, u2, ?_⟩
    have h5 := h3 (by omega)
    rw [World.cell?_setCell_other _ _ _ _ (by simp; try omega), World.cell?_setCell_other _ _ _ _ (by simp; try omega)]
    exact u3
  · rw [World.cell?_setCell_other _ _ _ _ (by simp)]; exact World.cell?_setCell_same _ _ _ k2
  · exact World.cell?_setCell_same _ _ _ ((World.cell?_setCell_other _ _ _ _ (by simp)).trans s1)
  · rw [World.frozen?_setCell, World.frozen?_setCell]; exact h.fz j

theorem Src.fin {A B g : Nat} {w : World} (h : Src A g w) (k : Nat) (hk : k ≤ B) (z : Int) (hz : z = (k : Int)) (s : Int) (m q : Nat) :
    Src B g ((((w.drewN m).setCell ⟨g, 1, none⟩ (.int .i64 z)).setCell ⟨g, 2, none⟩ (.int .u64 s)).drewN q) ∧ Only (fun b => b = g) w ((((w.drewN m).setCell ⟨g, 1, none⟩ (.int .i64 z)).setCell ⟨g, 2, none⟩ (.int .u64 s)).drewN q) := by
  subst hz
  exact ⟨((h.later (below_drewN (Below.refl _ _) m)).step k hk s).later (below_drewN (Below.refl _ _) q), (((Only.of_below (S := fun b => b = g) (below_drewN (Below.refl _ _) m)).setCell (p := ⟨g, 1, none⟩) rfl _).setCell (p := ⟨g, 2, none⟩) rfl _).trans (Only.of_below (below_drewN (Below.refl _ _) q))⟩
theorem wrapu (z : Int) : 0 ≤ IntKind.u64.wrap z ∧ IntKind.u64.wrap z ≤ 18446744073709551615 := by
  simp only [IntKind.wrap, IntKind.signed, IntKind.bits]
  simp
  omega
theorem and255 (z : Int) : 0 ≤ wrap64 (bits BinOp.and IntKind.u64 (IntKind.u64.wrap z / 1099511627776) 255) ∧ wrap64 (bits BinOp.and IntKind.u64 (IntKind.u64.wrap z / 1099511627776) 255) ≤ 255 := by
  have h0 := wrapu z
  have hx : 0 ≤ IntKind.u64.wrap z / 1099511627776 ∧ IntKind.u64.wrap z / 1099511627776 ≤ 18446744073709551615 := by omega
  generalize IntKind.u64.wrap z / 1099511627776 = x at *
  have h := bits_and_u64_nat x.toNat 255 (by omega) (by omega)
  rw [Int.toNat_of_nonneg hx.1] at h
  have h2 : x.toNat &&& 255 ≤ 255 := Nat.and_le_right
  have h3 : bits BinOp.and IntKind.u64 x 255 = ((x.toNat &&& 255 : Nat) : Int) := h
  rw [h3, IntWalk.wrap64_in _ (by omega)]
  omega

def RetN (lo hi : Int) (A g : Nat) (w : World) (e : Ending) (w' : World) : Prop := ∃ r : Int, e = .returned (.int .i64 r) ∧ lo ≤ r ∧ r ≤ hi ∧ Src A g w' ∧ Only (fun b => b = g) w w'

set_option maxRecDepth 100000 in
set_option maxHeartbeats 1600000 in
theorem next_c (A g : Nat) (w : World) (h : Src A g w) (hA : A ≤ 1000000000000) : Calls Try.prog 196 #[.pointer (some ⟨g, 0, none⟩)] w (RetN 0 255 (A + 1) g w) := by
  have hst := fun k hk z hz s m q => h.fin (B := A + 1) k hk z hz s m q
  obtain ⟨ao, n, cap, b, off, c0, h1, h2, h3, h4⟩ := h.code
  obtain ⟨k, k1, k2⟩ := h.pos
  obtain ⟨s, s1⟩ := h.seed
  have hf := h.fz
  have HST := Lib.hid hst; clear hst
  clear h
  by_cases hlt : k < n
  · obtain rfl := h2 (by omega)
    obtain ⟨u, u1, u2, u3⟩ := h4 k hlt
    have h3g := h3 (by omega)
    have h3n : b ≠ g := by omega
    have hix := ix (P := Try.prog) (T := 67) (sz := 1) (n := n) (cap := cap) Try.underlying67 (by kernel_rfl) (by kernel_rfl) (ao := some ⟨b, off, none⟩) (b := b) (off := off) (fun _ => rfl) (k := k) hlt _ rfl
    rw [Nat.mul_one] at hix
    have hl1 : decide (k < n) = true := decide_eq_true hlt
    have hl2 : decide (k + 1 ≤ n) = true := decide_eq_true hlt
    clear h4 h2
    go_enter Try.func196, Try.ntmps196
    go_wp2_with fail
    go_quiet (fail)
    go_wp2_with fail
    go_quiet (fail)
    go_wp2_with fail
    go_quiet (fail)
    go_wp2
    go_returns
    exact ⟨_, rfl, by omega, by omega, HST.out (k + 1) (by omega) _ (by omega) _ _ _⟩
  · have hl1 : decide (k < n) = false := decide_eq_false hlt
    have hl2 : decide (k + 1 ≤ n) = false := decide_eq_false (by omega)
    clear h4 h2
    go_enter Try.func196, Try.ntmps196
    go_wp2_with fail
    go_quiet (fail)
    go_wp2_with fail
    go_quiet (fail)
    go_wp2
    go_returns
    exact ⟨_, rfl, (and255 _).1, (and255 _).2, HST.out (k + 1) (by omega) _ (by omega) _ _ _⟩

set_option maxRecDepth 100000 in
set_option maxHeartbeats 1600000 in
theorem pick_c (A g : Nat) (n : Int) (w : World) (h : Src A g w) (hA : A ≤ 100000000000) (hn : n ≤ 60000) (hn0 : -1000000 ≤ n) : Calls Try.prog 148 #[.pointer (some ⟨g, 0, none⟩), .int .i64 n] w (RetN 0 (max 0 (n - 1)) (A + 2) g w) := by
  have hs1 := fun w' A' (hx : Src A' g w') (hA' : A' ≤ 1000000000000) => next_c A' g w' hx hA'
  have HS1 := Lib.hid hs1; clear hs1
  by_cases h1 : n ≤ 1
  · have hm := h.mono (show A ≤ A + 2 by omega)
    have HM := Lib.hid hm; clear hm
    clear h
    go_enter Try.func148, Try.ntmps148
    go_wp2
    go_returns
    exact ⟨0, rfl, by omega, by omega, HM.out, Only.refl _ _⟩
  · have H := Lib.hid h; clear h
    by_cases h2 : 200 < n
    · go_enter Try.func148, Try.ntmps148
      go_wp2_with fail
      refine (HS1.out _ _ H.out (by omega)).mono ?_
      rintro _ w1 ⟨r1, rfl, l1, u1, k1, q1⟩
      have K1 := Lib.hid k1; clear k1
      go_wp2_with fail
      refine (HS1.out _ _ K1.out (by omega)).mono ?_
      rintro _ w2 ⟨r2, rfl, l2, u2, k2, q2⟩
      have K2 := Lib.hid k2; clear k2
      have e1 : 0 ≤ (r1 * 256 + r2) % n := Int.emod_nonneg _ (by omega)
      have e2 : (r1 * 256 + r2) % n < n := Int.emod_lt_of_pos _ (by omega)
      go_wp2
      go_returns
      exact ⟨_, rfl, e1, by omega, K2.out, q1.trans q2⟩
    · go_enter Try.func148, Try.ntmps148
      go_wp2_with fail
      refine (HS1.out _ _ H.out (by omega)).mono ?_
      rintro _ w1 ⟨r1, rfl, l1, u1, k1, q1⟩
      have k1 := k1.mono (show A + 1 ≤ A + 2 by omega)
      have K1 := Lib.hid k1; clear k1
      have e1 : 0 ≤ r1 % n := Int.emod_nonneg _ (by omega)
      have e2 : r1 % n < n := Int.emod_lt_of_pos _ (by omega)
      go_wp2
      go_returns
      exact ⟨_, rfl, e1, by omega, K1.out, q1⟩

def RetB1 (A g : Nat) (w : World) (e : Ending) (w' : World) : Prop := ∃ r : Bool, e = .returned (.bool r) ∧ Src A g w' ∧ Only (fun b => b = g) w w'
set_option maxHeartbeats 800000 in
theorem one_c (A g : Nat) (n : Int) (w : World) (h : Src A g w) (hA : A ≤ 100000000000) (hn : n ≤ 60000) (hn0 : -1000000 ≤ n) : Calls Try.prog 147 #[.pointer (some ⟨g, 0, none⟩), .int .i64 n] w (RetB1 (A + 2) g w) := by
  have hp := pick_c A g n w h hA hn hn0
  have HP := Lib.hid hp; clear hp
  clear h
  go_enter Try.func147, Try.ntmps147
  go_wp2_with fail
  refine HP.out.mono ?_
  rintro _ w1 ⟨r1, rfl, l1, u1, k1, q1⟩
  have K1 := Lib.hid k1; clear k1
  go_wp2
  go_returns
  exact ⟨_, rfl, K1.out, q1⟩

/-- one of some numbers -/
def RetOf (zs : List Int) (A g : Nat) (w : World) (e : Ending) (w' : World) : Prop := ∃ r : Int, e = .returned (.int .i64 r) ∧ r ∈ zs ∧ Src A g w' ∧ Only (fun b => b = g) w w'
set_option maxHeartbeats 800000 in
theorem among_c (A g : Nat) (v : Value) (zs : List Int) (w : World) (h : Src A g w) (hA : A ≤ 100000000000) (hv : Rd w v zs.length (ints zs)) (h1 : 1 ≤ zs.length) (h2 : zs.length ≤ 1000) (hne : ∀ b, v.ownBlock = some b → b ≠ g) : Calls Try.prog 191 #[.pointer (some ⟨g, 0, none⟩), v] w (RetOf zs (A + 2) g w) := by
  have hp := pick_c A g zs.length w h hA (by omega) (by omega)
  obtain ⟨hn, ao, cap, b, off, rfl, hao, hcell⟩ := hv.open
  obtain rfl : ao = some ⟨b, off, none⟩ := hao (by omega)
  have hbg : b ≠ g := hne b rfl
  have hcell := hcell w (Below.refl _ _)
  have HC := Lib.hid hcell; clear hcell
  have HP := Lib.hid hp; clear hp
  clear h hv hao
  go_enter Try.func191, Try.ntmps191
  go_wp2_with fail
  refine HP.out.mono ?_
  rintro _ w1 ⟨r1, rfl, l1, u1, k1, q1⟩
  have K1 := Lib.hid k1; clear k1
  obtain ⟨k, rfl⟩ : ∃ k : Nat, r1 = (k : Int) := ⟨r1.toNat, by omega⟩
  have hk : k < zs.length := by omega
  have hix := ix (P := Try.prog) (T := 41) (n := zs.length) (cap := cap) Try.underlying41 cells_int64 has_int64 (ao := some ⟨b, off, none⟩) (b := b) (off := off) (fun _ => rfl) (k := k) hk _ rfl
  rw [Nat.mul_one] at hix
  have hc : w1.cell? ⟨b, off + k, none⟩ = some (.int .i64 zs[k]) := cell_only q1 (HC.out k _ (by omega) (intsAt hk)) hbg
  have hmem : zs[k] ∈ zs := List.getElem_mem hk
  have HMEM := Lib.hid hmem; clear hmem
  generalize zs[k] = z at *
  go_wp2
  go_returns
  exact ⟨_, rfl, HMEM.out, K1.out, q1⟩

end Go.Proofs.Ytmickkodcclocaa
