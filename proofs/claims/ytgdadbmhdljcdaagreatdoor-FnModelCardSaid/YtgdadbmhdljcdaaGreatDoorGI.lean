/- Several texts of the proofs in one: Draw, Draw2, R8. -/
import Derived.Test.YtgdadbmhdljcdaaGreatDoorGA
import Derived.Test.YtgdadbmhdljcdaaGreatDoorGE
import Derived.Test.YtgdadbmhdljcdaaGreatDoorGF
/- The source of choices: one byte, a number below n, one of a list. -/
namespace Go.Proofs.YtgdadbmhdljcdaaGreatDoor
set_option linter.unusedVariables false
open Go.RowKit Go.Proofs.Bell Go.BigFrame

structure Src (A g : Nat) (w : World) : Prop where
  code : ∃ (ao : Option Addr) (n cap b off : Nat), w.cell? ⟨g, 0, none⟩ = some (.slice ao n cap) ∧ n ≤ 1048576 ∧ (0 < n → ao = some ⟨b, off, none⟩) ∧ (0 < n → b < g) ∧ ∀ j, j < n → ∃ u : Int, 0 ≤ u ∧ u ≤ 255 ∧ w.cell? ⟨b, off + j, none⟩ = some (.int .u8 u)
  pos : ∃ k : Nat, k ≤ A ∧ w.cell? ⟨g, 1, none⟩ = some (.int .i64 k)
  seed : ∃ s : Int, w.cell? ⟨g, 2, none⟩ = some (.int .u64 s)
  fz : ∀ j, w.frozen? ⟨g, j, none⟩ = false
theorem Src.lt {A g : Nat} {w : World} (h : Src A g w) : g < w.heap.size := by
  obtain ⟨_, _, h⟩ := h.pos
  exact World.block_lt_of_cell? _ _ h
theorem Src.only {S : Nat → Prop} {A g : Nat} {w w' : World} (h : Src A g w) (ho : Only S w w') (hs : ∀ b, S b → w.heap.size ≤ b) : Src A g w' := by
  have hb := Only.below (Below.refl w.heap.size w) ho (Nat.le_refl _) hs
  have hl := h.lt
  obtain ⟨ao, n, cap, b, off, c0, h1, h2, h3, h4⟩ := h.code
  obtain ⟨k, k1, k2⟩ := h.pos
  obtain ⟨s, s1⟩ := h.seed
  exact ⟨⟨ao, n, cap, b, off, below_cell hb c0, h1, h2, h3, fun j hj => by obtain ⟨u, u1, u2, u3⟩ := h4 j hj; exact ⟨u, u1, u2, below_cell hb u3⟩⟩, ⟨k, k1, below_cell hb k2⟩, ⟨s, below_cell hb s1⟩, fun j => (hb.frozen (p := ⟨g, j, none⟩) hl).trans (h.fz j)⟩
theorem Src.later {A g : Nat} {w w' : World} (h : Src A g w) (hb : Below w.heap.size w w') : Src A g w' := h.only (S := fun b => w.heap.size ≤ b) (Only.of_below hb) (fun _ h => h)
theorem Src.keep {S : Nat → Prop} {A g : Nat} {w w' : World} (h : Src A g w) (ho : Only S w w') (hs : ∀ b, S b → g < b) : Src A g w' := by
  have hl := h.lt
  obtain ⟨ao, n, cap, b, off, c0, h1, h2, h3, h4⟩ := h.code
  obtain ⟨k, k1, k2⟩ := h.pos
  obtain ⟨s, s1⟩ := h.seed
  have ng : ¬ S g := fun e => by have := hs g e; omega
  exact ⟨⟨ao, n, cap, b, off, cell_only ho c0 ng, h1, h2, h3, fun j hj => by obtain ⟨u, u1, u2, u3⟩ := h4 j hj; exact ⟨u, u1, u2, cell_only ho u3 (fun e => by have := hs b e; have := h3 (by omega); omega)⟩⟩, ⟨k, k1, cell_only ho k2 ng⟩, ⟨s, cell_only ho s1 ng⟩, fun j => (World.frozen?_of_block (ho.block g hl ng)).trans (h.fz j)⟩
theorem Src.mono {A B g : Nat} {w : World} (h : Src A g w) (hab : A ≤ B) : Src B g w := by
  obtain ⟨k, k1, k2⟩ := h.pos
  exact ⟨h.code, ⟨k, by omega, k2⟩, h.seed, h.fz⟩
theorem Src.step {A B g : Nat} {w : World} (h : Src A g w) (k : Nat) (hk : k ≤ B) (s : Int) : Src B g ((w.setCell ⟨g, 1, none⟩ (.int .i64 k)).setCell ⟨g, 2, none⟩ (.int .u64 s)) := by
  obtain ⟨ao, n, cap, b, off, c0, h1, h2, h3, h4⟩ := h.code
  obtain ⟨k0, k1, k2⟩ := h.pos
  obtain ⟨s0, s1⟩ := h.seed
  refine ⟨⟨ao, n, cap, b, off, ?_, h1, h2, h3, fun j hj => ?_⟩, ⟨k, hk, ?_⟩, ⟨s, ?_⟩, fun j => ?_⟩
  · rw [World.cell?_setCell_other _ _ _ _ (by simp), World.cell?_setCell_other _ _ _ _ (by simp)]; exact c0
  · obtain ⟨u, u1, u2, u3⟩ := h4 j hj
    refine ⟨u, u1, u2, ?_⟩
    have h5 := h3 (by omega)
    rw [World.cell?_setCell_other _ _ _ _ (by simp; try omega), World.cell?_setCell_other _ _ _ _ (by simp; try omega)]
    exact u3
  · rw [World.cell?_setCell_other _ _ _ _ (by simp)]; exact World.cell?_setCell_same _ _ _ k2
  · exact World.cell?_setCell_same _ _ _ ((World.cell?_setCell_other _ _ _ _ (by simp)).trans s1)
  · rw [World.frozen?_setCell, World.frozen?_setCell]; exact h.fz j

theorem Src.fin {A B g : Nat} {w : World} (h : Src A g w) (k : Nat) (hk : k ≤ B) (z : Int) (hz : z = (k : Int)) (s : Int) (m q : Nat) :
    Src B g ((((w.drewN m).setCell ⟨g, 1, none⟩ (.int .i64 z)).setCell ⟨g, 2, none⟩ (.int .u64 s)).drewN q) ∧ Only (fun b => b = g) w ((((w.drewN m).setCell ⟨g, 1, none⟩ (.int .i64 z)).setCell ⟨g, 2, none⟩ (.int .u64 s)).drewN q) := by
  subst hz
  exact ⟨((h.later (below_drewN (Below.refl _ _) m)).step k hk s).later (below_drewN (Below.refl _ _) q), (((Only.of_below (S := fun b => b = g) (below_drewN (Below.refl _ _) m)).setCell (p := ⟨g, 1, none⟩) rfl _).setCell (p := ⟨g, 2, none⟩) rfl _).trans (Only.of_below (below_drewN (Below.refl _ _) q))⟩
theorem wrapu (z : Int) : 0 ≤ IntKind.u64.wrap z ∧ IntKind.u64.wrap z ≤ 18446744073709551615 := by
  simp only [IntKind.wrap, IntKind.signed, IntKind.bits]
  simp
  omega
theorem and255 (z : Int) : 0 ≤ wrap64 (bits BinOp.and IntKind.u64 (IntKind.u64.wrap z / 1099511627776) 255) ∧ wrap64 (bits BinOp.and IntKind.u64 (IntKind.u64.wrap z / 1099511627776) 255) ≤ 255 := by
  have h0 := wrapu z
  have hx : 0 ≤ IntKind.u64.wrap z / 1099511627776 ∧ IntKind.u64.wrap z / 1099511627776 ≤ 18446744073709551615 := by omega
  generalize IntKind.u64.wrap z / 1099511627776 = x at *
  have h := bits_and_u64_nat x.toNat 255 (by omega) (by omega)
  rw [Int.toNat_of_nonneg hx.1] at h
  have h2 : x.toNat &&& 255 ≤ 255 := Nat.and_le_right
  have h3 : bits BinOp.and IntKind.u64 x 255 = ((x.toNat &&& 255 : Nat) : Int) := h
  rw [h3, IntWalk.wrap64_in _ (by omega)]
  omega

def RetN (lo hi : Int) (A g : Nat) (w : World) (e : Ending) (w' : World) : Prop := ∃ r : Int, e = .returned (.int .i64 r) ∧ lo ≤ r ∧ r ≤ hi ∧ Src A g w' ∧ Only (fun b => b = g) w w'

set_option maxRecDepth 100000 in
set_option maxHeartbeats 1600000 in
theorem next_c (A g : Nat) (w : World) (h : Src A g w) (hA : A ≤ 1000000000000) : Calls Tryz.prog 128 #[.pointer (some ⟨g, 0, none⟩)] w (RetN 0 255 (A + 1) g w) := by
  have hst := fun k hk z hz s m q => h.fin (B := A + 1) k hk z hz s m q
  obtain ⟨ao, n, cap, b, off, c0, h1, h2, h3, h4⟩ := h.code
  obtain ⟨k, k1, k2⟩ := h.pos
  obtain ⟨s, s1⟩ := h.seed
  have hf := h.fz
  have HST := Lib.hid hst; clear hst
  clear h
  by_cases hlt : k < n
  · obtain rfl := h2 (by omega)
    obtain ⟨u, u1, u2, u3⟩ := h4 k hlt
    have h3g := h3 (by omega)
    have h3n : b ≠ g := by omega
    have hix := ix (P := Tryz.prog) (T := 22) (sz := 1) (n := n) (cap := cap) Tryz.underlying22 (by kernel_rfl) (by kernel_rfl) (ao := some ⟨b, off, none⟩) (b := b) (off := off) (fun _ => rfl) (k := k) hlt _ rfl
    rw [Nat.mul_one] at hix
    have hl1 : decide (k < n) = true := decide_eq_true hlt
    have hl2 : decide (k + 1 ≤ n) = true := decide_eq_true hlt
    clear h4 h2
    go_enter Tryz.func128, Tryz.ntmps128
    go_wp2_with fail
    go_quiet (fail)
    go_wp2_with fail
    go_quiet (fail)
    go_wp2_with fail
    go_quiet (fail)
    go_wp2
    go_returns
    exact ⟨_, rfl, by omega, by omega, HST.out (k + 1) (by omega) _ (by omega) _ _ _⟩
  · have hl1 : decide (k < n) = false := decide_eq_false hlt
    have hl2 : decide (k + 1 ≤ n) = false := decide_eq_false (by omega)
    clear h4 h2
    go_enter Tryz.func128, Tryz.ntmps128
    go_wp2_with fail
    go_quiet (fail)
    go_wp2_with fail
    go_quiet (fail)
    go_wp2
    go_returns
    exact ⟨_, rfl, (and255 _).1, (and255 _).2, HST.out (k + 1) (by omega) _ (by omega) _ _ _⟩

set_option maxRecDepth 100000 in
set_option maxHeartbeats 1600000 in
theorem pick_c (A g : Nat) (n : Int) (w : World) (h : Src A g w) (hA : A ≤ 100000000000) (hn : n ≤ 60000) (hn0 : -1000000 ≤ n) : Calls Tryz.prog 81 #[.pointer (some ⟨g, 0, none⟩), .int .i64 n] w (RetN 0 (max 0 (n - 1)) (A + 2) g w) := by
  have hs1 := fun w' A' (hx : Src A' g w') (hA' : A' ≤ 1000000000000) => next_c A' g w' hx hA'
  have HS1 := Lib.hid hs1; clear hs1
  by_cases h1 : n ≤ 1
  · have hm := h.mono (show A ≤ A + 2 by omega)
    have HM := Lib.hid hm; clear hm
    clear h
    go_enter Tryz.func81, Tryz.ntmps81
    go_wp2
    go_returns
    exact ⟨0, rfl, by omega, by omega, HM.out, Only.refl _ _⟩
  · have H := Lib.hid h; clear h
    by_cases h2 : 200 < n
    · go_enter Tryz.func81, Tryz.ntmps81
      go_wp2_with fail
      refine (HS1.out _ _ H.out (by omega)).mono ?_
      rintro _ w1 ⟨r1, rfl, l1, u1, k1, q1⟩
      have K1 := Lib.hid k1; clear k1
      go_wp2_with fail
      refine (HS1.out _ _ K1.out (by omega)).mono ?_
      rintro _ w2 ⟨r2, rfl, l2, u2, k2, q2⟩
      have K2 := Lib.hid k2; clear k2
      have e1 : 0 ≤ (r1 * 256 + r2) % n := Int.emod_nonneg _ (by omega)
      have e2 : (r1 * 256 + r2) % n < n := Int.emod_lt_of_pos _ (by omega)
      go_wp2
      go_returns
      exact ⟨_, rfl, e1, by omega, K2.out, q1.trans q2⟩
    · go_enter Tryz.func81, Tryz.ntmps81
      go_wp2_with fail
      refine (HS1.out _ _ H.out (by omega)).mono ?_
      rintro _ w1 ⟨r1, rfl, l1, u1, k1, q1⟩
      have k1 := k1.mono (show A + 1 ≤ A + 2 by omega)
      have K1 := Lib.hid k1; clear k1
      have e1 : 0 ≤ r1 % n := Int.emod_nonneg _ (by omega)
      have e2 : r1 % n < n := Int.emod_lt_of_pos _ (by omega)
      go_wp2
      go_returns
      exact ⟨_, rfl, e1, by omega, K1.out, q1⟩

def RetB1 (A g : Nat) (w : World) (e : Ending) (w' : World) : Prop := ∃ r : Bool, e = .returned (.bool r) ∧ Src A g w' ∧ Only (fun b => b = g) w w'
set_option maxHeartbeats 800000 in
theorem one_c (A g : Nat) (n : Int) (w : World) (h : Src A g w) (hA : A ≤ 100000000000) (hn : n ≤ 60000) (hn0 : -1000000 ≤ n) : Calls Tryz.prog 90 #[.pointer (some ⟨g, 0, none⟩), .int .i64 n] w (RetB1 (A + 2) g w) := by
  have hp := pick_c A g n w h hA hn hn0
  have HP := Lib.hid hp; clear hp
  clear h
  go_enter Tryz.func90, Tryz.ntmps90
  go_wp2_with fail
  refine HP.out.mono ?_
  rintro _ w1 ⟨r1, rfl, l1, u1, k1, q1⟩
  have K1 := Lib.hid k1; clear k1
  go_wp2
  go_returns
  exact ⟨_, rfl, K1.out, q1⟩

/-- one of some numbers -/
def RetOf (zs : List Int) (A g : Nat) (w : World) (e : Ending) (w' : World) : Prop := ∃ r : Int, e = .returned (.int .i64 r) ∧ r ∈ zs ∧ Src A g w' ∧ Only (fun b => b = g) w w'
set_option maxHeartbeats 800000 in
theorem among_c (A g : Nat) (v : Value) (zs : List Int) (w : World) (h : Src A g w) (hA : A ≤ 100000000000) (hv : Rd w v zs.length (ints zs)) (h1 : 1 ≤ zs.length) (h2 : zs.length ≤ 1000) (hne : ∀ b, v.ownBlock = some b → b ≠ g) : Calls Tryz.prog 82 #[.pointer (some ⟨g, 0, none⟩), v] w (RetOf zs (A + 2) g w) := by
  have hp := pick_c A g zs.length w h hA (by omega) (by omega)
  obtain ⟨hn, ao, cap, b, off, rfl, hao, hcell⟩ := hv.open
  obtain rfl : ao = some ⟨b, off, none⟩ := hao (by omega)
  have hbg : b ≠ g := hne b rfl
  have hcell := hcell w (Below.refl _ _)
  have HC := Lib.hid hcell; clear hcell
  have HP := Lib.hid hp; clear hp
  clear h hv hao
  go_enter Tryz.func82, Tryz.ntmps82
  go_wp2_with fail
  refine HP.out.mono ?_
  rintro _ w1 ⟨r1, rfl, l1, u1, k1, q1⟩
  have K1 := Lib.hid k1; clear k1
  obtain ⟨k, rfl⟩ : ∃ k : Nat, r1 = (k : Int) := ⟨r1.toNat, by omega⟩
  have hk : k < zs.length := by omega
  have hix := ix (P := Tryz.prog) (T := 42) (n := zs.length) (cap := cap) Tryz.underlying42 cells_int64 has_int64 (ao := some ⟨b, off, none⟩) (b := b) (off := off) (fun _ => rfl) (k := k) hk _ rfl
  rw [Nat.mul_one] at hix
  have hc : w1.cell? ⟨b, off + k, none⟩ = some (.int .i64 zs[k]) := cell_only q1 (HC.out k _ (by omega) (intsAt hk)) hbg
  have hmem : zs[k] ∈ zs := List.getElem_mem hk
  have HMEM := Lib.hid hmem; clear hmem
  generalize zs[k] = z at *
  go_wp2
  go_returns
  exact ⟨_, rfl, HMEM.out, K1.out, q1⟩

end Go.Proofs.YtgdadbmhdljcdaaGreatDoor

/- A valid profile is drawn. -/
namespace Go.Proofs.YtgdadbmhdljcdaaGreatDoor
set_option linter.unusedVariables false
open Go.RowKit Go.Proofs.Bell Go.BigFrame

def nmA : ByteArray := ⟨#[116, 101, 110, 111, 114]⟩
def nmB : ByteArray := ⟨#[116, 114, 101, 98, 108, 101]⟩
def nmC : ByteArray := ⟨#[98, 101, 108, 108]⟩
def nmD : ByteArray := ⟨#[103, 52]⟩
theorem names_ok : nameB nmA = true ∧ nameB nmB = true ∧ nameB nmC = true ∧ nameB nmD = true := by decide

def RetT (ss : List ByteArray) (A g : Nat) (w : World) (e : Ending) (w' : World) : Prop := ∃ r : ByteArray, e = .returned (.string r) ∧ r ∈ ss ∧ Src A g w' ∧ Only (fun b => b = g) w w'
set_option maxHeartbeats 800000 in
theorem text_c (A g b : Nat) (ss : List ByteArray) (w : World) (h : Src A g w) (hA : A ≤ 100000000000) (h1 : 1 ≤ ss.length) (h2 : ss.length ≤ 1000) (hc : ∀ k, k < ss.length → w.cell? ⟨b, k, none⟩ = some (.string (ss.getD k ⟨#[]⟩))) (hne : b ≠ g) : Calls Tryz.prog 101 #[.pointer (some ⟨g, 0, none⟩), .slice (some ⟨b, 0, none⟩) ss.length ss.length] w (RetT ss (A + 2) g w) := by
  have hp := pick_c A g ss.length w h hA (by omega) (by omega)
  have hmem : ∀ k, k < ss.length → ss.getD k ⟨#[]⟩ ∈ ss := fun k hk => by rw [List.getD_eq_getElem?_getD, List.getElem?_eq_getElem hk]; exact List.getElem_mem hk
  have HMEM := Lib.hid hmem; clear hmem
  have HC := Lib.hid hc; clear hc
  have HP := Lib.hid hp; clear hp
  clear h
  generalize ss.length = n at *
  go_enter Tryz.func101, Tryz.ntmps101
  go_wp2_with fail
  refine HP.out.mono ?_
  rintro _ w1 ⟨r1, rfl, l1, u1, k1, q1⟩
  have K1 := Lib.hid k1; clear k1
  obtain ⟨k, rfl⟩ : ∃ k : Nat, r1 = (k : Int) := ⟨r1.toNat, by omega⟩
  have hk : k < n := by omega
  have hix := ix (P := Tryz.prog) (T := 80) (sz := 1) (n := n) (cap := n) Tryz.underlying80 (by kernel_rfl) (by kernel_rfl) (ao := some ⟨b, 0, none⟩) (b := b) (off := 0) (fun _ => rfl) (k := k) hk _ rfl
  rw [Nat.mul_one, Nat.zero_add] at hix
  have hc1 := cell_only q1 (HC.out k hk) hne
  have hm := HMEM.out k hk
  have HM := Lib.hid hm; clear hm
  generalize ss.getD k ⟨#[]⟩ = z at *
  go_wp2
  go_returns
  exact ⟨_, rfl, HM.out, K1.out, q1⟩

/-- what holds of the rings that have been drawn -/
structure DrI (rs : List (Int × Int × Int)) (outer wall : Int) : Prop where
  len : rs.length ≤ 9
  all : rs.all ringT = true
  sum : heightI rs ≤ 2490 * (rs.length : Int)
  join : (List.range rs.length).all (joinAt rs) = true
  last : ∀ k, rs.length = k + 1 → (rg rs k).2.1 < outer ∧ outer - wall < (rg rs k).1
  lo : 20000 - 790 * (rs.length : Int) ≤ outer
  hi : outer ≤ 49990
  wl : 1200 ≤ wall
  wh : wall ≤ 3990
theorem DrI.nil {outer wall : Int} (h1 : 20000 ≤ outer) (h2 : outer ≤ 49990) (h3 : 1200 ≤ wall) (h4 : wall ≤ 3990) : DrI [] outer wall :=
  ⟨by simp, rfl, by simp [heightI], rfl, fun k hk => by simp at hk, by simp; omega, h2, h3, h4⟩
theorem rg_app {rs : List (Int × Int × Int)} (x : Int × Int × Int) {k : Nat} (h : k < rs.length) : rg (rs ++ [x]) k = rg rs k := by simp [rg, List.getD, List.getElem?_append_left h]
theorem rg_last (rs : List (Int × Int × Int)) (x : Int × Int × Int) : rg (rs ++ [x]) rs.length = x := by simp [rg, List.getD]
theorem DrI.push {rs : List (Int × Int × Int)} {outer wall h d wall' : Int} (H : DrI rs outer wall) (hl : rs.length ≤ 8) (h1 : 500 ≤ h) (h2 : h ≤ 2490) (d1 : 0 ≤ d) (d2 : d ≤ 790) (w1 : 1200 ≤ wall') (w2 : wall' ≤ 3990) :
    DrI (rs ++ [(outer, outer - wall, h)]) (outer - d) wall' := by
  obtain ⟨a1, a2, a3, a4, a5, a6, a7, a8, a9⟩ := H
  have hlen : (rs ++ [(outer, outer - wall, h)]).length = rs.length + 1 := by simp
  refine ⟨by rw [hlen]; omega, ?_, ?_, ?_, fun k hk => ?_, by rw [hlen]; push_cast; omega, by omega, w1, w2⟩
  · rw [List.all_append, a2]
    simp only [List.all_cons, List.all_nil, Bool.and_true, Bool.true_and]
    simp only [ringT, ringB, inB_mk (show 500 ≤ outer ∧ outer ≤ 150000 by omega), inB_mk (show 0 ≤ outer - wall ∧ outer - wall ≤ outer - 100 by omega), inB_mk (show 10 ≤ h ∧ h ≤ 300000 by omega), Bool.and_true]
  · have e : heightI (rs ++ [(outer, outer - wall, h)]) = heightI rs + h := by simp [heightI]
    rw [e, hlen]; push_cast; omega
  · rw [hlen, List.range_succ, List.all_append, Bool.and_eq_true]
    constructor
    · rw [List.all_eq_true] at a4 ⊢
      intro k hk
      have hk' := List.mem_range.1 hk
      have := a4 k hk
      unfold joinAt at this ⊢
      rw [rg_app _ hk', rg_app _ (by omega)]
      exact this
    · simp only [List.all_cons, List.all_nil, Bool.and_true]
      unfold joinAt
      rcases Nat.eq_zero_or_pos rs.length with e | e
      · rw [e]; rfl
      · rw [rg_last, rg_app _ (by omega)]
        obtain ⟨b1, b2⟩ := a5 (rs.length - 1) (by omega)
        simp [joinB, b1, b2]
  · rw [hlen] at hk
    obtain rfl : k = rs.length := by omega
    rw [rg_last]
    exact ⟨by show outer - wall < outer - d; omega, by show outer - d - wall' < outer; omega⟩
theorem DrI.done {rs : List (Int × Int × Int)} {outer wall : Int} (H : DrI rs outer wall) (nm : ByteArray) (hn : nameB nm = true) (h1 : 1 ≤ rs.length) : profB nm rs = true := by
  have := H.len
  have := H.sum
  simp only [profB, Bool.and_eq_true, decide_eq_true_eq]
  exact ⟨⟨⟨⟨⟨hn, h1⟩, by omega⟩, H.all⟩, H.join⟩, by omega⟩

/-- the loop's state -/
structure DrSt (R G g A : Nat) (nm : ByteArray) (u : Value) (qs : List (Int × Int × Int)) (w wr : World) : Prop where
  only : Only (fun b => b = g) w wr
  gw : g < w.heap.size
  rw : w.heap.size ≤ R
  rg : R < G
  gs : G < wr.heap.size
  r0 : wr.cell? ⟨R, 0, none⟩ = some (.string ⟨#[]⟩)
  r1 : wr.cell? ⟨R, 1, none⟩ = some (.slice none 0 0)
  rf : ∀ j, wr.frozen? ⟨R, j, none⟩ = false
  q0 : wr.cell? ⟨G, 0, none⟩ = some (.string nm)
  q1 : wr.cell? ⟨G, 1, none⟩ = some u
  qf : ∀ j, wr.frozen? ⟨G, j, none⟩ = false
  own : OwnR (G + 1) wr u qs
  src : Src A g wr
theorem DrSt.go {R G g A B : Nat} {nm : ByteArray} {u : Value} {qs : List (Int × Int × Int)} {w wr w1 : World} (h : DrSt R G g A nm u qs w wr) (hq : Only (fun b => b = g) wr w1) (hs : Src B g w1) : DrSt R G g B nm u qs w w1 := by
  have h1 := h.gw; have h2 := h.rw; have h3 := h.rg; have h4 := h.gs
  exact ⟨h.only.trans hq, h1, h2, h3, Nat.lt_of_lt_of_le h4 hq.size, cell_only hq h.r0 (by show ¬ R = g; omega), cell_only hq h.r1 (by show ¬ R = g; omega), fun j => (frozen_only hq (show R < _ by omega) (by show ¬ R = g; omega)).trans (h.rf j),
    cell_only hq h.q0 (by show ¬ G = g; omega), cell_only hq h.q1 (by show ¬ G = g; omega), fun j => (frozen_only hq (show G < _ by omega) (by show ¬ G = g; omega)).trans (h.qf j), own_only h.own hq (fun k hk e => by have := own_lo h.own k hk; omega), hs⟩
theorem DrSt.later {R G g A : Nat} {nm : ByteArray} {u : Value} {qs : List (Int × Int × Int)} {w wr w1 : World} (h : DrSt R G g A nm u qs w wr) (hb : Below wr.heap.size wr w1) : DrSt R G g A nm u qs w w1 := h.go (Only.of_below hb) (h.src.later hb)
theorem DrSt.n2 {R G g A : Nat} {nm : ByteArray} {u : Value} {qs : List (Int × Int × Int)} {w wr : World} (h : DrSt R G g A nm u qs w wr) : ¬ u.ownBlock = some G := fun e => by have := own_lo h.own _ e; omega
theorem DrSt.app {R G g A : Nat} {nm : ByteArray} {u v : Value} {qs qs' : List (Int × Int × Int)} {w wr w1 : World} (h : DrSt R G g A nm u qs w wr) (hq : Only (fun b => u.ownBlock = some b) wr w1) (ho : OwnR (G + 1) w1 v qs') : DrSt R G g A nm v qs' w (w1.setCell ⟨G, 1, none⟩ v) := by
  have h1 := h.gw; have h2 := h.rw; have h3 := h.rg; have h4 := h.gs
  have lo := own_lo h.own
  have sz := hq.size
  have nR : ¬ u.ownBlock = some R := fun e => by have := lo _ e; omega
  have nG := h.n2
  have hon : Only (fun b => b = g) w w1 := ⟨hq.os.trans h.only.os, hq.tape.trans h.only.tape, hq.output.trans h.only.output, Nat.le_trans h.only.size hq.size, fun k hk hn => (hq.block k (by omega) (fun e => by have := lo k e; omega)).trans (h.only.block k hk hn)⟩
  have hsr : Src A g w1 := h.src.keep hq (fun b e => by have := lo b e; omega)
  have hsr2 : Src A g (w1.setCell ⟨G, 1, none⟩ v) := hsr.keep ((Only.refl (fun b => b = G) w1).setCell (p := ⟨G, 1, none⟩) rfl v) (fun b e => by omega)
  exact ⟨⟨hon.os, hon.tape, hon.output, by simpa using hon.size, fun k hk hn => (Below.heap_setCell _ _ _ _ (by show k ≠ G; omega)).trans (hon.block k hk hn)⟩, h1, h2, h3, by simp; omega,
    by rw [World.cell?_setCell_other _ _ _ _ (by simp; try omega)]; exact cell_only hq h.r0 nR, by rw [World.cell?_setCell_other _ _ _ _ (by simp; try omega)]; exact cell_only hq h.r1 nR, fun j => by rw [World.frozen?_setCell]; exact (frozen_only hq (show R < _ by omega) nR).trans (h.rf j),
    by rw [World.cell?_setCell_other _ _ _ _ (by simp)]; exact cell_only hq h.q0 nG, World.cell?_setCell_same _ _ _ (cell_only hq h.q1 nG), fun j => by rw [World.frozen?_setCell]; exact (frozen_only hq (show G < _ by omega) nG).trans (h.qf j),
    own_set ho (fun k hk => by have := own_lo ho k hk; show G ≠ k; omega) v, hsr2⟩

def RetDr (A g : Nat) (w : World) (e : Ending) (w' : World) : Prop := ∃ (nm : ByteArray) (rs : List (Int × Int × Int)) (u : Value), e = .returned (.agg #[.string nm, u]) ∧ OwnR w.heap.size w' u rs ∧ profB nm rs = true ∧ nm.size ≤ maxLen ∧ 2 ≤ rs.length ∧ (rs.length ≤ 9 ∧ heightI rs ≤ 25000) ∧ Src A g w' ∧ Only (fun b => b = g) w w'

set_option maxRecDepth 100000 in
set_option maxHeartbeats 3200000 in
theorem l05Draw_c (A g : Nat) (w : World) (h : Src A g w) (hA : A ≤ 1000000000) : Calls Tryz.prog 42 #[.pointer (some ⟨g, 0, none⟩)] w (RetDr (A + 100) g w) := by
  have hgw := h.lt
  have hpk := fun n w' A' (h1 : n ≤ 60000) (h0 : -1000000 ≤ n) (hx : Src A' g w') (hA' : A' ≤ 100000000000) => pick_c A' g n w' hx hA' h1 h0
  have htx := fun w' b (hx : Src A g w') hc hne => text_c A g b [nmA, nmB, nmC, nmD] w' hx (by omega) (by decide) (by decide) hc hne
  have hsz : ∀ nm, nm ∈ [nmA, nmB, nmC, nmD] → nm.size ≤ maxLen ∧ nameB nm = true := fun nm hm => by
    simp only [List.mem_cons, List.mem_nil_iff, or_false] at hm
    rcases hm with rfl | rfl | rfl | rfl
    · exact ⟨by decide, names_ok.1⟩
    · exact ⟨by decide, names_ok.2.1⟩
    · exact ⟨by decide, names_ok.2.2.1⟩
    · exact ⟨by decide, names_ok.2.2.2⟩
  have HPK := Lib.hid hpk; clear hpk
  have HTX := Lib.hid htx; clear htx
  have HSZ := Lib.hid hsz; clear hsz
  have H := Lib.hid h; clear h
  go_enter Tryz.func42, Tryz.ntmps42
  go_wp2_with fail
  refine (HTX.out _ (w.heap.size + 1) (H.out.later (by go_grown)) ?hc (by omega)).mono ?_
  case hc =>
    intro k hk
    match k, hk with
    | 0, _ => simp [go_sem]; rfl
    | 1, _ => simp [go_sem]; rfl
    | 2, _ => simp [go_sem]; rfl
    | 3, _ => simp [go_sem]; rfl
  rintro _ w1 ⟨nm, rfl, hm, k1, q1⟩
  obtain ⟨hnm, hnb⟩ := HSZ.out nm hm
  have ng : ¬ w.heap.size = g := by omega
  have d0 := cell_only q1 (p := ⟨w.heap.size, 0, none⟩) (v := .string ⟨#[]⟩) (by simp [go_sem]) ng
  have d1 := cell_only q1 (p := ⟨w.heap.size, 1, none⟩) (v := .slice none 0 0) (by simp [go_sem]) ng
  have df : ∀ j, w1.frozen? ⟨w.heap.size, j, none⟩ = false := fun j => (frozen_only q1 (p := ⟨w.heap.size, j, none⟩) (by simp; try omega) ng).trans (by simp [go_sem])
  have hz1 : w.heap.size + 2 ≤ w1.heap.size := by have := q1.size; simpa using this
  have ho1 : Only (fun b => b = g) w w1 := (Only.of_below (by go_grown)).trans q1
  have kb : ∀ o, Below w1.heap.size w1 (w1.alloc o) := fun o => (Below.refl _ _).alloc (Nat.le_refl _) o
  have st : DrSt w.heap.size w1.heap.size g (A + 2) nm (.slice none 0 0) [] w (w1.alloc (.cells #[.string nm, .slice none 0 0] 26)) :=
    ⟨ho1.trans (Only.of_below (kb _)), hgw, Nat.le_refl _, by omega, by simp, alloc_cell _ d0, alloc_cell _ d1, fun j => (alloc_frozen _ (by show w.heap.size < _; omega)).trans (df j), by simp [go_sem], by simp [go_sem], fun j => by simp [go_sem], World.ownsRow_nil _ _ _ _, k1.later (kb _)⟩
  clear d0 d1 df ho1 kb q1 k1 hm
  have HNB := Lib.hid hnb; clear hnb
  have HNM := Lib.hid hnm; clear hnm
  have ST := Lib.hid st; clear st
  go_wp2_with fail
  generalize w1.alloc (.cells #[.string nm, .slice none 0 0] 26) = w2 at *
  refine (HPK.out _ _ _ (by omega) (by omega) ST.out.src (by omega)).mono ?_
  rintro _ w3 ⟨r1, rfl, l1, u1, k1, q1⟩
  have st := ST.out.go q1 k1
  clear ST q1 k1
  have ST := Lib.hid st; clear st
  go_wp2_with fail
  refine (HPK.out _ _ _ (by omega) (by omega) ST.out.src (by omega)).mono ?_
  rintro _ w4 ⟨r2, rfl, l2, u2, k1, q1⟩
  have st := ST.out.go q1 k1
  clear ST q1 k1
  have ST := Lib.hid st; clear st
  go_wp2_with fail
  refine (HPK.out _ _ _ (by omega) (by omega) ST.out.src (by omega)).mono ?_
  rintro _ w5 ⟨r3, rfl, l3, u3, k1, q1⟩
  have st := ST.out.go q1 k1
  clear ST q1 k1
  have ST := Lib.hid st; clear st
  obtain ⟨K, rfl⟩ : ∃ K : Nat, r3 = (K : Int) := ⟨r3.toNat, by omega⟩
  go_wp2_with fail
  go_loopw [6, 4, 5] (fun k o wl wr => ∃ (k' : Nat) (rs : List (Int × Int × Int)) (u : Value) (ov wv : Int), k = .int .i64 k' ∧ o = .int .i64 ov ∧ wl = .int .i64 wv ∧ rs.length + k' = K + 2 ∧ DrI rs ov wv ∧ DrSt w.heap.size w1.heap.size g (A + 8 + 6 * rs.length) nm u rs w wr) (fun k _ _ _ => (intOf k).toNat)
  case atStart => exact ⟨K + 2, [], _, _, _, by go_num, rfl, rfl, by simp, DrI.nil (by omega) (by omega) (by omega) (by omega), ST.out⟩
  case round =>
    obtain ⟨k, rs, u, ov, wv, rfl, rfl, rfl, hk, hI, hS⟩ := hrel
    obtain ⟨au, pu, rfl⟩ := own_shape hS.own
    by_cases hlt : 0 < k
    · have hltd : decide ((0 : Int) < (k : Int)) = true := by simp; omega
      have hrl : rs.length ≤ 8 := by omega
      have b1 := hI.lo
      have b2 := hI.hi
      have b3 := hI.wl
      have b4 := hI.wh
      have d1 := hS.q1
      have a1 := fun o => alloc_cell o d1
      have hgs := hS.gs
      have HI := Lib.hid hI; clear hI
      have HR := Lib.hid hS; clear hS
      have HK := Lib.hid hk; clear hk
      have g1 : IntKind.i64.wrap (ov - wv) = ov - wv := IntWalk.i64_in _ (by omega)
      go_wp2_with fail
      go_region_law (first | (go_simp; refine (HPK.out _ _ _ (by omega) (by omega) (HR.out.src.later (by go_grown)) (by omega)).mono ?_; rintro _ w6 ⟨r4, rfl, l4, u4, k4, q4⟩; have R2 := HR.out.go ((Only.of_below (by go_grown)).trans q4) k4; have R2' := Lib.hid R2; clear R2; have d2 := R2'.out.q1; have a2 := fun o => alloc_cell o d2; have zz2 := R2'.out.gs; clear q4 k4) | (refine sapp1_R (.tmp 27) (.tmp 37) _ (w1.heap.size + 1) w6.heap.size _ rs ov (ov - wv) (IntKind.i64.wrap (500 + IntKind.i64.wrap (10 * r4))) (by rfl) (by rfl) (by rfl) (by rfl) (by rfl) R2'.out.own (by omega) (by omega) ?_; intro v3 w7 o3 q3; have hw2 : IntKind.i64.wrap (500 + IntKind.i64.wrap (10 * r4)) = 500 + 10 * r4 := (by rw [IntWalk.i64_in (10 * r4) (by omega), IntWalk.i64_in _ (by omega)]); rw [hw2] at o3; clear hw2; have e1 := cell_only q3 R2'.out.q1 R2'.out.n2; have ef := fun j => (frozen_only q3 (p := ⟨w1.heap.size, j, none⟩) (by have := R2'.out.gs; simp; omega) R2'.out.n2).trans (R2'.out.qf j); obtain ⟨a3, p3, hv3⟩ := own_shape o3; rw [show (rs ++ [(ov, ov - wv, 500 + 10 * r4)]).length = rs.length + 1 by simp] at hv3; subst hv3; have t3 := R2'.out.app q3 o3; have T3 := Lib.hid t3; clear t3; clear q3; have O3 := Lib.hid o3; clear o3))
      all_goals (
        clear g1
        go_wp2_with fail
        refine (HPK.out _ _ _ (by omega) (by omega) T3.out.src (by omega)).mono ?_
        rintro _ w8 ⟨r5, rfl, l5, u5, k5, q5⟩
        have t4 := T3.out.go q5 k5
        clear T3 q5 k5
        have T4 := Lib.hid t4; clear t4
        go_wp2_with fail
        refine (HPK.out _ _ _ (by omega) (by omega) T4.out.src (by omega)).mono ?_
        rintro _ w9 ⟨r6, rfl, l6, u6, k6, q6⟩
        have t5 := T4.out.go q6 k6
        clear T4 q6 k6
        have hi2 := HI.out.push (h := 500 + 10 * r4) (d := 10 * r5) (wall' := 1200 + 10 * r6) hrl (by omega) (by omega) (by omega) (by omega) (by omega) (by omega)
        have hlr : (rs ++ [(ov, ov - wv, 500 + 10 * r4)]).length = rs.length + 1 := by simp
        have hk0 := HK.out
        have st9 : DrSt w.heap.size w1.heap.size g (A + 8 + 6 * (rs ++ [(ov, ov - wv, 500 + 10 * r4)]).length) nm _ _ w w9 := ⟨t5.only, t5.gw, t5.rw, t5.rg, t5.gs, t5.r0, t5.r1, t5.rf, t5.q0, t5.q1, t5.qf, t5.own, t5.src.mono (by omega)⟩
        have HI2 := Lib.hid hi2; clear hi2
        have ST9 := Lib.hid st9; clear st9
        have HLR := Lib.hid hlr; clear hlr
        clear t5
        go_wp2
        go_roundw
        case rel => exact ⟨k - 1, _, _, _, _, by rw [show ((k - 1 : Nat) : Int) = (k : Int) - 1 by omega], rfl, rfl, by rw [HLR.out]; omega, HI2.out, ST9.out⟩
        case measure => simp [intOf]; omega)
    · obtain rfl : k = 0 := by omega
      have r0 := hS.r0
      have r1 := hS.r1
      have rf := hS.rf
      have q0 := hS.q0
      have q1 := hS.q1
      have hd := hI.done nm HNB.out (by omega)
      have o5 := hS.own
      have lo5 := own_lo o5
      have hs5 := hS.src.mono (show A + 8 + 6 * rs.length ≤ A + 100 by have := hI.len; omega)
      have ho5 := hS.only
      have hgs := hS.gs
      have hrg := hS.rg
      have hl9 := hI.len
      have hsm := hI.sum
      have key : ∀ (wq : World) j v, Src (A + 100) g wq → Only (fun b => b = g) w wq → Src (A + 100) g (wq.setCell ⟨w.heap.size, j, none⟩ v) ∧ Only (fun b => b = g) w (wq.setCell ⟨w.heap.size, j, none⟩ v) := fun wq j v h1 h2 =>
        ⟨h1.keep ((Only.refl (fun b => b = w.heap.size) wq).setCell (p := ⟨w.heap.size, j, none⟩) rfl v) (fun b e => by omega), h2.os, h2.tape, h2.output, by simpa using h2.size, fun k hk hn => (Below.heap_setCell _ _ _ _ (by show k ≠ w.heap.size; omega)).trans (h2.block k hk hn)⟩
      have HD := Lib.hid hd; clear hd
      have KEY := Lib.hid key; clear key
      have O5 := Lib.hid o5; clear o5
      have HS5 := Lib.hid hs5; clear hs5
      have HO5 := Lib.hid ho5; clear ho5
      have LO5 := Lib.hid lo5; clear lo5
      clear hS hI
      go_wp2
      refine bodyPost_ret (v := .agg #[.string nm, .slice au rs.length pu]) (by simp [results, Tryz.results42, go_sem, r0, r1]) rfl ?_
      have e1 := KEY.out wr 0 (.string nm) HS5.out HO5.out
      have e2 := KEY.out _ 1 (.slice au rs.length pu) e1.1 e1.2
      have o11 := own_set O5.out (a := ⟨w.heap.size, 0, none⟩) (fun k hk => by have := LO5.out k hk; show w.heap.size ≠ k; omega) (.string nm)
      have o12 := own_set o11 (a := ⟨w.heap.size, 1, none⟩) (fun k hk => by have := LO5.out k hk; show w.heap.size ≠ k; omega) (.slice au rs.length pu)
      exact ⟨nm, rs, _, rfl, own_base o12 (by omega), HD.out, HNM.out, by omega, by omega, e2.1, e2.2⟩

end Go.Proofs.YtgdadbmhdljcdaaGreatDoor

/- The draws of the laws: a byte's number; a valid profile. -/
namespace Go.Proofs.YtgdadbmhdljcdaaGreatDoor
set_option linter.unusedVariables false
open Go.RowKit Go.Proofs.Bell Go.BigFrame

def bytesV (zs : List Int) : List Value := zs.map (.int .u8)
def Byte (z : Int) : Prop := 0 ≤ z ∧ z ≤ 255
theorem bytesV_at {zs : List Int} {k : Nat} (h : k < zs.length) : (bytesV zs)[k]? = some (.int .u8 zs[k]) := by simp [bytesV, h]

theorem r8Long_c (v v' : Value) (zs zs' : List Int) (w : World) (h : Rd w v zs.length (bytesV zs)) (h' : Rd w v' zs'.length (bytesV zs')) (hl : zs.length ≤ 1048576) : Calls Tryz.prog 6 #[v, v'] w (RetS (.bool (decide (1048576 < zs'.length))) w) := by
  obtain ⟨hn, ao, cap, b, off, rfl, hao, hcell⟩ := h.open
  obtain ⟨hn', ao', cap', b', off', rfl, hao', hcell'⟩ := h'.open
  clear hcell hcell' h h' hao hao'
  generalize zs.length = n at *
  generalize zs'.length = m at *
  have t0 : decide ((1048576 : Int) < (n : Int)) = false := decide_eq_false (by omega)
  cases t1 : decide (1048576 < m)
  · have t2 : decide ((1048576 : Int) < (m : Int)) = false := decide_eq_false (by have := of_decide_eq_false t1; omega)
    go_enter Tryz.func6, Tryz.ntmps6
    go_wp2
    go_returns
    exact RetS.mk rfl
  · have t2 : decide ((1048576 : Int) < (m : Int)) = true := decide_eq_true (by have := of_decide_eq_true t1; omega)
    go_enter Tryz.func6, Tryz.ntmps6
    go_wp2
    go_returns
    exact RetS.mk rfl
theorem r8Long_t (v v' : Value) (zs zs' : List Int) (w : World) (h : Rd w v zs.length (bytesV zs)) (h' : Rd w v' zs'.length (bytesV zs')) (hl : ¬ zs.length ≤ 1048576) : Calls Tryz.prog 6 #[v, v'] w (RetS (.bool true) w) := by
  obtain ⟨hn, ao, cap, b, off, rfl, hao, hcell⟩ := h.open
  obtain ⟨hn', ao', cap', b', off', rfl, hao', hcell'⟩ := h'.open
  clear hcell hcell' h h' hao hao'
  generalize zs.length = n at *
  generalize zs'.length = m at *
  have t0 : decide ((1048576 : Int) < (n : Int)) = true := decide_eq_true (by omega)
  go_enter Tryz.func6, Tryz.ntmps6
  go_wp2
  go_returns
  exact RetS.mk rfl

def RetR (n : Int) (w : World) (e : Ending) (w' : World) : Prop := ∃ r : Int, e = .returned (.int .i64 r) ∧ 0 ≤ r ∧ r ≤ max 0 (n - 1) ∧ w = w'
set_option maxHeartbeats 800000 in
theorem r8At_c (v : Value) (zs : List Int) (k : Nat) (n : Int) (w : World) (h : Rd w v zs.length (bytesV zs)) (hz : ∀ z ∈ zs, Byte z) (hk : k ≤ 10) (hn : n ≤ 1000000) (hn0 : -10 ≤ n) : Calls Tryz.prog 17 #[v, .int .i64 k, .int .i64 n] w (RetR n w) := by
  obtain ⟨hl, ao, cap, b, off, rfl, hao, hcell⟩ := h.open
  have hcell := hcell w (Below.refl _ _)
  clear h
  by_cases h1 : n ≤ 1
  · have t1 : decide (n ≤ 1) = true := decide_eq_true h1
    go_enter Tryz.func17, Tryz.ntmps17
    go_wp2
    go_returns
    exact ⟨0, rfl, by omega, by omega, rfl⟩
  · have t1 : decide (n ≤ 1) = false := decide_eq_false h1
    by_cases h2 : zs.length ≤ k
    · have t2 : decide (zs.length ≤ k) = true := decide_eq_true h2
      generalize zs.length = m at *
      go_enter Tryz.func17, Tryz.ntmps17
      go_wp2
      go_returns
      exact ⟨0, rfl, by omega, by omega, rfl⟩
    · have t2 : decide (zs.length ≤ k) = false := decide_eq_false h2
      have hkl : k < zs.length := by omega
      obtain rfl : ao = some ⟨b, off, none⟩ := hao (by omega)
      have hc := hcell k _ (by omega) (bytesV_at hkl)
      have hb := hz _ (List.getElem_mem hkl)
      obtain ⟨hb0, hb1⟩ := hb
      have hix := ix (P := Tryz.prog) (T := 22) (sz := 1) (n := zs.length) (cap := cap) Tryz.underlying22 (by kernel_rfl) (by kernel_rfl) (ao := some ⟨b, off, none⟩) (b := b) (off := off) (fun _ => rfl) (k := k) hkl _ rfl
      rw [Nat.mul_one] at hix
      clear hcell hao hz
      generalize zs[k] = z at *
      generalize zs.length = m at *
      have e1 : 0 ≤ z % n := Int.emod_nonneg _ (by omega)
      have e2 : z % n < n := Int.emod_lt_of_pos _ (by omega)
      go_enter Tryz.func17, Tryz.ntmps17
      go_wp2
      go_returns
      exact ⟨_, rfl, e1, by omega, rfl⟩
set_option maxHeartbeats 800000 in
theorem r8Wide_c (v : Value) (zs : List Int) (k : Nat) (n : Int) (w : World) (h : Rd w v zs.length (bytesV zs)) (hz : ∀ z ∈ zs, Byte z) (hk : k ≤ 9) (hn : n ≤ 1000000) (hn1 : 1 ≤ n) : Calls Tryz.prog 12 #[v, .int .i64 k, .int .i64 n] w (RetR n w) := by
  have h1 := fun j (hj : j ≤ 10) => r8At_c v zs j 256 w h hz hj (by omega) (by omega)
  obtain ⟨hl, ao, cap, b, off, rfl, hao, hcell⟩ := h.open
  have h2 := h1 (k + 1) (by omega)
  rw [show ((k + 1 : Nat) : Int) = (k : Int) + 1 by omega] at h2
  have h1 := h1 k (by omega)
  have H1 := Lib.hid h1; clear h1
  have H2 := Lib.hid h2; clear h2
  clear h hcell hz hao
  generalize zs.length = m at *
  go_enter Tryz.func12, Tryz.ntmps12
  go_wp2_with fail
  refine H1.out.mono ?_
  rintro _ _ ⟨r1, rfl, l1, u1, rfl⟩
  go_wp2_with fail
  refine H2.out.mono ?_
  rintro _ _ ⟨r2, rfl, l2, u2, rfl⟩
  have u1' : r1 ≤ 255 := by omega
  have u2' : r2 ≤ 255 := by omega
  have e1 : 0 ≤ (256 * r1 + r2) % n := Int.emod_nonneg _ (by omega)
  have e2 : (256 * r1 + r2) % n < n := Int.emod_lt_of_pos _ (by omega)
  go_wp2
  go_returns
  exact ⟨_, rfl, e1, by omega, rfl⟩

theorem src_new (v : Value) (zs : List Int) (w : World) (h : Rd w v zs.length (bytesV zs)) (hz : ∀ z ∈ zs, Byte z) (hl : zs.length ≤ 1048576) (t : TypeId) : Src 0 w.heap.size (w.alloc (.cells #[v, .int .i64 0, .int .u64 0] t)) := by
  obtain ⟨h0, hc⟩ := h
  have kb : Below w.heap.size w (w.alloc (.cells #[v, .int .i64 0, .int .u64 0] t)) := (Below.refl _ _).alloc (Nat.le_refl _) _
  refine ⟨?_, ⟨0, Nat.le_refl _, by simp [go_sem]⟩, ⟨0, by simp [go_sem]⟩, fun j => by simp [go_sem]⟩
  rcases hc with ⟨h1, h2, ao, cap, rfl, _, _⟩ | ⟨h1, b, off, cap, rfl, h3, h4, h5, h6⟩
  · exact ⟨ao, 0, cap, 0, 0, by simp [go_sem], by omega, fun h => by omega, fun h => by omega, fun j hj => by omega⟩
  · refine ⟨_, zs.length, cap, b, off, by simp [go_sem], hl, fun _ => rfl, fun _ => h5, fun j hj => ?_⟩
    obtain ⟨q1, q2⟩ := hz _ (List.getElem_mem hj)
    exact ⟨zs[j], q1, q2, below_cell kb (h6 j _ (bytesV_at hj))⟩

def RetPr (w : World) (e : Ending) (w' : World) : Prop := ∃ (nm : ByteArray) (rs : List (Int × Int × Int)) (u : Value), e = .returned (.agg #[.string nm, u]) ∧ OwnR w.heap.size w' u rs ∧ profB nm rs = true ∧ nm.size ≤ maxLen ∧ 2 ≤ rs.length ∧ (rs.length ≤ 9 ∧ heightI rs ≤ 25000) ∧ Below w.heap.size w w'
set_option maxHeartbeats 800000 in
theorem R8Profile_c (v : Value) (zs : List Int) (w : World) (h : Rd w v zs.length (bytesV zs)) (hz : ∀ z ∈ zs, Byte z) (hl : zs.length ≤ 1048576) : Calls Tryz.prog 7 #[v] w (RetPr w) := by
  have kb : ∀ o, Below w.heap.size w (w.alloc o) := fun o => (Below.refl _ _).alloc (Nat.le_refl _) o
  have hsrc := fun o t => src_new v zs (w.alloc o) (h.later (kb o)) hz hl t
  obtain ⟨hn, ao, cap, b, off, rfl, hao, hcell⟩ := h.open
  have hdr := fun w' g (hx : Src 0 g w') => l05Draw_c 0 g w' hx (by omega)
  have HDR := Lib.hid hdr; clear hdr
  have HSRC := Lib.hid hsrc; clear hsrc
  clear hao hcell h hz
  generalize zs.length = n at *
  have hfr : ∀ w' : World, Calls Tryz.prog 41 #[.slice ao n cap] w' (fun e w'' => e = .returned (.pointer (some ⟨w'.heap.size, 0, none⟩)) ∧ w'' = w'.alloc (.cells #[.slice ao n cap, .int .i64 0, .int .u64 0] 138)) := fun w' => by
    go_enter Tryz.func41, Tryz.ntmps41
    go_wp2
    go_returns
    exact ⟨rfl, rfl⟩
  have HFR := Lib.hid hfr; clear hfr
  go_enter Tryz.func7, Tryz.ntmps7
  go_wp2_with fail
  refine (HFR.out _).mono ?_
  rintro _ _ ⟨rfl, rfl⟩
  go_wp2_with fail
  refine (HDR.out _ _ (by simpa using HSRC.out _ _)).mono ?_
  rintro _ w2 ⟨nm, rs, u, rfl, o2, hp, hnm, h2, h9, _, q2⟩
  obtain ⟨au, pu, rfl⟩ := own_shape o2
  have e0 := cell_only (p := ⟨w.heap.size, 0, none⟩) (v := .string ⟨#[]⟩) q2 (by simp [go_sem]) (by simp)
  have e1 := cell_only (p := ⟨w.heap.size, 1, none⟩) (v := .slice none 0 0) q2 (by simp [go_sem]) (by simp)
  have ef : ∀ j, w2.frozen? ⟨w.heap.size, j, none⟩ = false := fun j => (frozen_only q2 (p := ⟨w.heap.size, j, none⟩) (by simp; try omega) (by simp)).trans (by simp [go_sem])
  have b2 : Below w.heap.size w w2 := Only.below (by go_grown) q2 (by simp; omega) (fun b e => by first | omega | (simp at e; omega))
  have lo2 := own_lo o2
  simp at lo2
  have O2 := Lib.hid o2; clear o2
  have HP := Lib.hid hp; clear hp
  have LO2 := Lib.hid lo2; clear lo2
  clear q2
  go_wp2
  refine bodyPost_ret (v := .agg #[.string nm, .slice au rs.length pu]) (by simp [results, Tryz.results7, go_sem, e0, e1]) rfl ?_
  have o11 := own_set O2.out (a := ⟨w.heap.size, 0, none⟩) (fun k hk => by have := LO2.out k hk; show w.heap.size ≠ k; omega) (.string nm)
  have o12 := own_set o11 (a := ⟨w.heap.size, 1, none⟩) (fun k hk => by have := LO2.out k hk; show w.heap.size ≠ k; omega) (.slice au rs.length pu)
  exact ⟨nm, rs, _, rfl, own_base o12 (by simp; try omega), HP.out, hnm, h2, h9, (b2.setCell (Nat.le_refl _) _).setCell (Nat.le_refl _) _⟩

end Go.Proofs.YtgdadbmhdljcdaaGreatDoor

