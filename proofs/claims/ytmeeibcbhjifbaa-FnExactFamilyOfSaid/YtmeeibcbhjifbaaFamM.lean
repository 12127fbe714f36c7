/- The laws' comparison and marks on lists of profiles. -/
import Derived.Test.YtmeeibcbhjifbaaFamP
import Derived.Test.YtmeeibcbhjifbaaGC
import Derived.Test.YtmeeibcbhjifbaaMarkM2
import Derived.Test.YtmeeibcbhjifbaaMkT
namespace Go.Proofs.Ytmeeibcbhjifbaa
set_option linter.unusedVariables false
open Go.RowKit Go.Proofs.Bell Go.BigFrame

def nr : PR := (⟨#[]⟩, [])
def RdPS (w : World) (v : Value) (ps : List PR) : Prop := ∃ us : List (ByteArray × Value), us.length = ps.length ∧ Rd w v ps.length (pcells us) ∧ (∀ k, k < ps.length → (us.getD k nd).1 = (ps.getD k nr).1) ∧ ∀ k, k < ps.length → Rd w (us.getD k nd).2 (ps.getD k nr).2.length (trips (ps.getD k nr).2)
theorem RdPS.later {w w' : World} {v : Value} {ps : List PR} (h : RdPS w v ps) (hb : Below w.heap.size w w') : RdPS w' v ps := by
  obtain ⟨us, h1, h2, h3, h4⟩ := h
  exact ⟨us, h1, h2.later hb, h3, fun k hk => (h4 k hk).later hb⟩
theorem OwnPS.rd {lo hi : Nat} {w : World} {v : Value} {us : List (ByteArray × Value)} {ps : List PR} (h : OwnPS lo hi w v us ps) : RdPS w v ps :=
  ⟨us, h.len, Rd.of_own h.row, h.nm, fun k hk => Rd.of_own (h.own k hk)⟩
theorem OwnPS.only {lo hi : Nat} {S : Nat → Prop} {w w' : World} {v : Value} {us : List (ByteArray × Value)} {ps : List PR} (h : OwnPS lo hi w v us ps) (ho : Only S w w') (hn : ∀ b, S b → ¬ (lo ≤ b ∧ b < hi)) : OwnPS lo hi w' v us ps :=
  ⟨h.len, own_only h.row ho (fun b hb hS => hn b hS ⟨own_lo h.row b hb, h.rowh b hb⟩), h.rowh, h.nm, fun k hk => own_only (h.own k hk) ho (fun b hb hS => hn b hS ⟨own_lo (h.own k hk) b hb, h.top k hk b hb⟩), h.top, h.dis, h.cd⟩

set_option maxRecDepth 100000 in
set_option maxHeartbeats 1600000 in
theorem eqProfileS_c (v v' : Value) (ps : List PR) (w : World) (h : RdPS w v ps) (h' : RdPS w v' ps) : Calls Try.prog 11 #[v, v'] w (RetB (.bool true) w) := by
  obtain ⟨us, hl, hr, hn, ho⟩ := h
  obtain ⟨us', hl', hr', hn', ho'⟩ := h'
  have heq := fun k (hk : k < ps.length) w' (hb : Below w.heap.size w w') => eqProfile_c (ps.getD k nr).1 (ps.getD k nr).1 (us.getD k nd).2 (us'.getD k nd).2 (ps.getD k nr).2 (ps.getD k nr).2 w' ((ho k hk).later hb) ((ho' k hk).later hb)
  have heq := fun k (hk : k < ps.length) w' (hb : Below w.heap.size w w') => (show eqPr (ps.getD k nr).1 (ps.getD k nr).1 (ps.getD k nr).2 (ps.getD k nr).2 = true from eqPr_refl _ _) ▸ heq k hk w' hb
  obtain ⟨hnn, ao, cap, bb, off, rfl, hao, hcell⟩ := hr.open
  obtain ⟨hnn', ao', cap', bb', off', rfl, hao', hcell'⟩ := hr'.open
  have hshape : ∀ k, k < ps.length → ∃ a n c, (us.getD k nd).2 = .slice a n c := fun k hk => by obtain ⟨_, a, c, _, _, e, _⟩ := (ho k hk).open; exact ⟨_, _, _, e⟩
  have hshape' : ∀ k, k < ps.length → ∃ a n c, (us'.getD k nd).2 = .slice a n c := fun k hk => by obtain ⟨_, a, c, _, _, e, _⟩ := (ho' k hk).open; exact ⟨_, _, _, e⟩
  clear hr hr' ho ho'
  have HEQ := Lib.hid heq; clear heq
  have HC := Lib.hid hcell; clear hcell
  have HC' := Lib.hid hcell'; clear hcell'
  have HN := Lib.hid hn; clear hn
  have HN' := Lib.hid hn'; clear hn'
  have HL := Lib.hid hl; clear hl
  have HL' := Lib.hid hl'; clear hl'
  have HSH := Lib.hid hshape; clear hshape
  have HSH' := Lib.hid hshape'; clear hshape'
  have tn : ((ps.length : Int) != (ps.length : Int)) = false := by simp
  generalize hnl : ps.length = n at *
  have HNL := Lib.hid hnl; clear hnl
  go_enter Try.func11, Try.ntmps11
  go_wp2_with fail
  go_loopw [5] (fun i wr => ∃ (k : Nat), k ≤ n ∧ i = .int .i64 k ∧ Below w.heap.size w wr) (fun i _ => n - (intOf i).toNat)
  case atStart => exact ⟨0, Nat.zero_le _, rfl, Below.refl _ _⟩
  case round =>
    obtain ⟨k, hk, rfl, hb⟩ := hrel
    by_cases hlt : k < n
    · have hix := ix (P := Try.prog) (T := 26) (n := n) (cap := cap) Try.underlying26 cells_PS has_PS hao (k := k) hlt _ rfl
      have hix' := ix (P := Try.prog) (T := 26) (n := n) (cap := cap') Try.underlying26 cells_PS has_PS hao' (k := k) hlt _ rfl
      have c0 := HC.out wr hb (k * 2) _ (by omega) (pcells_at (show k < us.length by rw [HL.out]; exact hlt)).1
      have c1 := HC.out wr hb (k * 2 + 1) _ (by omega) (pcells_at (show k < us.length by rw [HL.out]; exact hlt)).2
      have d0 := HC'.out wr hb (k * 2) _ (by omega) (pcells_at (show k < us'.length by rw [HL'.out]; exact hlt)).1
      have d1 := HC'.out wr hb (k * 2 + 1) _ (by omega) (pcells_at (show k < us'.length by rw [HL'.out]; exact hlt)).2
      rw [HN.out k hlt] at c0
      rw [HN'.out k hlt] at d0
      rw [← Nat.add_assoc] at c1 d1
      have hq := HEQ.out k hlt
      obtain ⟨a1, n1, c1', hs1⟩ := HSH.out k hlt
      obtain ⟨a2, n2, c2', hs2⟩ := HSH'.out k hlt
      rw [hs1] at hq c1
      rw [hs2] at hq d1
      generalize (ps.getD k nr).1 = nm at *
      clear hs1 hs2
      have e0 : ∀ s : Lat wr, s.world.cell? ⟨bb, off + k * 2, none⟩ = some (.string nm) := fun s => s.cell c0
      have e1 : ∀ s : Lat wr, s.world.cell? ⟨bb, off + k * 2 + 1, none⟩ = some (.slice a1 n1 c1') := fun s => s.cell c1
      have f0 : ∀ s : Lat wr, s.world.cell? ⟨bb', off' + k * 2, none⟩ = some (.string nm) := fun s => s.cell d0
      have f1 : ∀ s : Lat wr, s.world.cell? ⟨bb', off' + k * 2 + 1, none⟩ = some (.slice a2 n2 c2') := fun s => s.cell d1
      have hls : ∀ s : Lat wr, Calls Try.prog 12 #[.agg #[.string nm, .slice a1 n1 c1'], .agg #[.string nm, .slice a2 n2 c2']] s.world (RetB (.bool true) s.world) := fun s => hq _ (hb.trans (s.below.mono hb.size))
      have HLS := Lib.hid hls; clear hls
      clear hq c0 c1 d0 d1
      go_wp2_with fail
      refine wp_region_lat (by kernel_rfl) (by kernel_rfl) ?_
      repeat (go_big_quiet_step (first | (go_at_call 12; exact Lat.callB (HLS.out _))))
      refine wpQuiet_nil ?_
      rintro _ ⟨s, rfl⟩
      have b9 := hb.trans (s.below.mono hb.size)
      clear e0 e1 f0 f1
      go_wp2
      go_roundw
      case rel => exact ⟨k + 1, by omega, by go_num, b9⟩
      case measure => simp [intOf]; omega
    · obtain rfl : k = n := by omega
      go_wp2
      go_returns
      exact RetB.mk rfl hb

end Go.Proofs.Ytmeeibcbhjifbaa
