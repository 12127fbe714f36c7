/- A profile with other rings: the program's reshaped. -/
import Derived.Test.YtddkjcdnomoglaaProf3
import Derived.Deep.RegionLaw
namespace Go.Proofs.Ytddkjcdnomoglaa
set_option linter.unusedVariables false
open Go.RowKit Go.Proofs.Bell Go.BigFrame

theorem sapp1_R {ops : Array Oper} {o : Oper} {a : Act} {K : Act → World → Prop} {Q : Exit → Act → World → Prop} {E : Prop} (s x : Operand) (W : World) (base g : Nat) (v : Value) (qs : List (Int × Int × Int)) (p q r : Int)
    (ho : o.op = .call { callee := .builtin .append, args := #[s, x], argTypes := #[29, 29] }) (hgd : o.guard = none) (hg : W.heap.size = g)
    (hs : a.eval s = v) (hx : a.eval x = .slice (some ⟨g, 0, none⟩) 1 1) (hown : OwnR base W v qs) (hn : qs.length ≤ 1000000) (hbase : base ≤ W.heap.size)
    (h : ∀ v' w', OwnR base w' v' (qs ++ [(p, q, r)]) → Only (fun b => v.ownBlock = some b) W w' → K (a.put o.dst v') w') :
    if Region.wanted o (yielded ops a.tmps) = true then Oper.wp Try.prog o a (W.alloc (.cells #[.int .i64 p, .int .i64 q, .int .i64 r] 52)) K Q else E := by
  have hw : Region.wanted o (yielded ops a.tmps) = true := by simp [Region.wanted, hgd]
  rw [if_pos hw]
  subst hg
  obtain ⟨i0, hi, hz0, hz1, hz2⟩ := info_parts info_Ring
  refine wp_append_own _ s x 29 ho base 52 i0 _ 3 24 Try.underlying29 hi hz0 hz1 hz2 rfl (by decide) v qs.length (trips qs) hs (hown.alloc _) ⟨W.heap.size, 0, none⟩ 1 1 [.int .i64 p, .int .i64 q, .int .i64 r] hx rfl (World.news_of_block (cs := #[.int .i64 p, .int .i64 q, .int .i64 r]) (heap_alloc_new W _)) (fun u hu => ?_) (by unfold maxLen; omega) (by omega) (by simp; omega) ?_
  · simp at hu
    rcases hu with rfl | rfl | rfl <;> rfl
  · intro v' w' ho' hg' _
    refine h v' w' ?_ ((Only.of_below ((Below.refl _ _).alloc (Nat.le_refl _) _)).trans (Only.of_grown hg'))
    unfold OwnR
    simpa [trips] using ho'

def mapK (T : Nat → Int × Int × Int → Int × Int × Int) (ps : List (Int × Int × Int)) : Nat → List (Int × Int × Int)
  | 0 => []
  | k + 1 => mapK T ps k ++ [T k (rg ps k)]
theorem mapK_len (T : Nat → Int × Int × Int → Int × Int × Int) (ps : List (Int × Int × Int)) : ∀ k, (mapK T ps k).length = k
  | 0 => rfl
  | k + 1 => by rw [mapK, List.length_append, mapK_len T ps k]; rfl

/-- the loop's state: the boxes of the profile, of the result and of the profile that is made -/
structure Resh (B : Nat) (nm : ByteArray) (u : Value) (qs : List (Int × Int × Int)) (w wr : World) : Prop where
  below : Below B w wr
  size : B + 3 ≤ wr.heap.size
  r0 : wr.cell? ⟨B + 1, 0, none⟩ = some (.string ⟨#[]⟩)
  r1 : wr.cell? ⟨B + 1, 1, none⟩ = some (.slice none 0 0)
  rf : ∀ j, wr.frozen? ⟨B + 1, j, none⟩ = false
  q0 : wr.cell? ⟨B + 1 + 1, 0, none⟩ = some (.string nm)
  q1 : wr.cell? ⟨B + 1 + 1, 1, none⟩ = some u
  qf : ∀ j, wr.frozen? ⟨B + 1 + 1, j, none⟩ = false
  own : OwnR (B + 3) wr u qs
theorem Resh.later {B : Nat} {nm : ByteArray} {u : Value} {qs : List (Int × Int × Int)} {w wr w1 : World} (h : Resh B nm u qs w wr) (hb : Below wr.heap.size wr w1) : Resh B nm u qs w w1 :=
  ⟨h.below.trans (hb.mono (by have := h.size; omega)), Nat.le_trans h.size hb.size, below_cell hb h.r0, below_cell hb h.r1,
   fun j => (hb.frozen (p := ⟨B + 1, j, none⟩) (show B + 1 < _ from World.block_lt_of_cell? _ ⟨B + 1, 0, none⟩ h.r0)).trans (h.rf j),
   below_cell hb h.q0, below_cell hb h.q1,
   fun j => (hb.frozen (p := ⟨B + 1 + 1, j, none⟩) (show B + 1 + 1 < _ from World.block_lt_of_cell? _ ⟨B + 1 + 1, 0, none⟩ h.q0)).trans (h.qf j), own_later h.own hb⟩
theorem Resh.n2 {B : Nat} {nm : ByteArray} {u : Value} {qs : List (Int × Int × Int)} {w wr : World} (h : Resh B nm u qs w wr) : ¬ u.ownBlock = some (B + 1 + 1) := fun e => by have := own_lo h.own _ e; omega
theorem Resh.only {B : Nat} {nm : ByteArray} {u v : Value} {qs qs' : List (Int × Int × Int)} {w wr w1 : World} (h : Resh B nm u qs w wr) (hq : Only (fun b => u.ownBlock = some b) wr w1) (ho : OwnR (B + 3) w1 v qs') : Resh B nm v qs' w (w1.setCell ⟨B + 1 + 1, 1, none⟩ v) := by
  have lo := own_lo h.own
  have n1 : ¬ u.ownBlock = some (B + 1) := fun e => by have := lo _ e; omega
  have n2 : ¬ u.ownBlock = some (B + 1 + 1) := fun e => by have := lo _ e; omega
  have hz := h.size
  have hs := hq.size
  have b1 : Below B w w1 := Only.below h.below hq (by omega) (fun k hk => by have := lo k hk; omega)
  have c1 : w1.cell? ⟨B + 1 + 1, 1, none⟩ = some u := cell_only hq h.q1 n2
  refine ⟨b1.setCell (by simp; omega) _, by simp; omega, ?_, ?_, fun j => ?_, ?_, World.cell?_setCell_same _ _ _ c1, fun j => ?_, own_set ho (fun k hk => by have := own_lo ho k hk; simp; omega) v⟩
  · rw [World.cell?_setCell_other _ _ _ _ (by simp)]; exact cell_only hq h.r0 n1
  · rw [World.cell?_setCell_other _ _ _ _ (by simp)]; exact cell_only hq h.r1 n1
  · rw [World.frozen?_setCell]; exact (frozen_only hq (by simp; omega) n1).trans (h.rf j)
  · rw [World.cell?_setCell_other _ _ _ _ (by simp)]; exact cell_only hq h.q0 n2
  · rw [World.frozen?_setCell]; exact (frozen_only hq (by simp; omega) n2).trans (h.qf j)

def ringV (p : Int × Int × Int) : Value := .agg #[.int .i64 p.1, .int .i64 p.2.1, .int .i64 p.2.2]
def doneR (nm : ByteArray) (qs : List (Int × Int × Int)) : ByteArray × List (Int × Int × Int) × Int := if profB nm qs then (nm, qs, 0) else (⟨#[]⟩, [], 6)
def RetDone (base : Nat) (r : ByteArray × List (Int × Int × Int) × Int) (w : World) (e : Ending) (w' : World) : Prop := ∃ v, e = .returned (.tuple #[.agg #[.string r.1, v], .int .i64 r.2.2]) ∧ OwnR base w' v r.2.1 ∧ Below w.heap.size w w'
theorem doneR_t {nm : ByteArray} {qs : List (Int × Int × Int)} (h : profB nm qs = true) : doneR nm qs = (nm, qs, 0) := by simp [doneR, h]
theorem doneR_f {nm : ByteArray} {qs : List (Int × Int × Int)} (h : profB nm qs = false) : doneR nm qs = (⟨#[]⟩, [], 6) := by simp [doneR, h]
theorem orState_c (base : Nat) (nm : ByteArray) (v : Value) (qs : List (Int × Int × Int)) (w : World) (hnm : nm.size ≤ maxLen) (ho : OwnR base w v qs) :
    Calls Try.prog 94 #[.agg #[.string nm, v]] w (RetDone base (doneR nm qs) w) := by
  cases h : profB nm qs
  · rw [doneR_f h]
    refine (orState_f nm v qs w hnm (Rd.of_own ho) h).mono ?_
    rintro _ w1 ⟨rfl, r1⟩
    exact ⟨_, rfl, World.ownsRow_nil _ _ _ _, r1⟩
  · rw [doneR_t h]
    refine (orState_t nm v qs w hnm (Rd.of_own ho) h).mono ?_
    rintro _ w1 ⟨rfl, r1⟩
    exact ⟨_, rfl, own_later ho r1, r1⟩
theorem l07Done_c (base : Nat) (nm : ByteArray) (v : Value) (qs : List (Int × Int × Int)) (w : World) (hnm : nm.size ≤ maxLen) (ho : OwnR base w v qs) :
    Calls Try.prog 77 #[.agg #[.string nm, v]] w (RetDone base (doneR nm qs) w) := by
  cases h : profB nm qs
  · rw [doneR_f h]
    refine (l07Done_f nm v qs w hnm (Rd.of_own ho) h).mono ?_
    rintro _ w1 ⟨rfl, r1⟩
    exact ⟨_, rfl, World.ownsRow_nil _ _ _ _, r1⟩
  · rw [doneR_t h]
    refine (l07Done_t nm v qs w hnm (Rd.of_own ho) h).mono ?_
    rintro _ w1 ⟨rfl, r1⟩
    exact ⟨_, rfl, own_later ho r1, r1⟩

set_option maxRecDepth 100000 in
set_option maxHeartbeats 3200000 in
theorem reshaped_c (g : Nat) (cs : Array Value) (T : Nat → Int × Int × Int → Int × Int × Int) (nm : ByteArray) (sv : Value) (ps : List (Int × Int × Int)) (w : World) (hnm : nm.size ≤ maxLen) (hr : Rd w sv ps.length (trips ps)) (hl : ps.length ≤ 1000)
    (hcall : ∀ (args : Array Value) (w : World), (callFunc g args).run Try.prog w = .ok (.enter g args) w)
    (hg : ∀ k, k < ps.length → ∀ w', Below w.heap.size w w' → Calls Try.prog g (#[.int .i64 k, ringV (rg ps k)] ++ cs) w' (RetB (ringV (T k (rg ps k))) w')) :
    Calls Try.prog 78 #[.agg #[.string nm, sv], .func (.func g) #[] cs] w (RetP2 (doneR nm (mapK T ps ps.length)).1 (doneR nm (mapK T ps ps.length)).2.1 (.int .i64 (doneR nm (mapK T ps ps.length)).2.2) w) := by
  have hlen := mapK_len T ps
  have hdone := fun w' v (ho : OwnR (w.heap.size + 3) w' v (mapK T ps ps.length)) => orState_c (w.heap.size + 3) nm v _ w' hnm ho
  have HLEN := Lib.hid hlen; clear hlen
  generalize doneR nm (mapK T ps ps.length) = RES at *
  have HDONE := Lib.hid hdone; clear hdone
  have HG := Lib.hid hg; clear hg
  generalize hn : ps.length = n at *
  have HN := Lib.hid hn; clear hn
  obtain ⟨hn, ao, cap, bb, off, rfl, hao, hcell⟩ := hr.open
  clear hr
  go_enter Try.func78, Try.ntmps78
  go_wp2_with fail
  go_loopw [15] (fun i wr => ∃ (k : Nat) (ao' : Option Addr) (c' : Nat), k ≤ n ∧ i = .int .i64 k ∧ Resh w.heap.size nm (.slice ao' k c') (mapK T ps k) w wr) (fun i _ => n - (intOf i).toNat)
  case atStart => exact ⟨0, none, 0, Nat.zero_le _, rfl, ⟨by go_grown, by simp, by simp [go_sem], by simp [go_sem], by simp [go_sem], by simp [go_sem], by simp [go_sem], by simp [go_sem], World.ownsRow_nil _ _ _ _⟩⟩
  case round =>
    obtain ⟨k, ao', c', hk, rfl, hR⟩ := hrel
    have HR := Lib.hid hR; clear hR
    by_cases hlt : k < n
    · have br := HR.out.below
      have zr := HR.out.size
      have hkl : k < ps.length := by rw [HN.out]; exact hlt
      have b0 : Below wr.heap.size wr wr := Below.refl _ _
      have z0 : wr.heap.size ≤ wr.heap.size := Nat.le_refl _
      have hlt_p : k < ps.length := hkl
      have hix_p := ix (P := Try.prog) (T := 29) (cap := cap) Try.underlying29 cells_Ring has_Ring hao (k := k) (by omega) _ rfl
      have hp0 : wr.cell? ⟨bb, off + k * 3, none⟩ = some (.int .i64 (rg ps k).1) := by rw [rg_eq hlt_p]; exact hcell _ br _ _ (by omega) (trips_at hlt_p).1
      have hp1 : wr.cell? ⟨bb, off + k * 3 + 1, none⟩ = some (.int .i64 (rg ps k).2.1) := by rw [rg_eq hlt_p]; exact hcell _ br _ _ (by omega) (trips_at hlt_p).2.1
      have hp2 : wr.cell? ⟨bb, off + k * 3 + 2, none⟩ = some (.int .i64 (rg ps k).2.2) := by rw [rg_eq hlt_p]; exact hcell _ br _ _ (by omega) (trips_at hlt_p).2.2
      have hgk := fun w' (hb : Below wr.heap.size wr w') => HG.out k hlt w' (br.trans (hb.mono (by omega)))
      have hstep : mapK T ps k ++ [((T k (rg ps k)).1, (T k (rg ps k)).2.1, (T k (rg ps k)).2.2)] = mapK T ps (k + 1) := rfl
      unfold ringV at hgk
      have HGK := Lib.hid hgk; clear hgk
      have HS := Lib.hid hstep; clear hstep
      have hlk := HLEN.out k
      generalize (T k (rg ps k)).1 = y0 at *
      generalize (T k (rg ps k)).2.1 = y1 at *
      generalize (T k (rg ps k)).2.2 = y2 at *
      generalize (rg ps k).1 = x0 at *
      generalize (rg ps k).2.1 = x1 at *
      generalize (rg ps k).2.2 = x2 at *
      generalize mapK T ps k = qs at *
      clear hcell
      have d1 := HR.out.q1
      have a1 := fun o => alloc_cell o d1
      go_wp2_with fail
      go_region_law (first | (go_simp; refine (HGK.out _ (by go_grown)).mono ?_; rintro _ w2 ⟨rfl, q2⟩; have z2 : Below wr.heap.size wr w2 := Below.trans (by go_grown) (q2.mono (by simp; try omega)); have u2 := HR.out.later z2; have R2 := Lib.hid u2; clear u2; have d2 := R2.out.q1; have a2 := fun o => alloc_cell o d2; have zz2 := R2.out.size; clear q2) | (refine sapp1_R (.tmp 21) (.tmp 26) _ (w.heap.size + 3) w2.heap.size _ qs y0 y1 y2 (by rfl) (by rfl) (by rfl) (by rfl) (by rfl) R2.out.own (by omega) (by omega) ?_; intro v3 w3 o3 q3; have e1 := cell_only q3 R2.out.q1 R2.out.n2; have ef := fun j => (frozen_only q3 (p := ⟨w.heap.size + 1 + 1, j, none⟩) (by have := R2.out.size; simp; omega) R2.out.n2).trans (R2.out.qf j); obtain ⟨a3, p3, hv3⟩ := own_shape o3; rw [show (qs ++ [(y0, y1, y2)]).length = k + 1 by simp [hlk]] at hv3; subst hv3; have t3 := R2.out.only q3 o3; have T3 := Lib.hid t3; clear t3; clear q3; have O3 := Lib.hid o3; clear o3))
      all_goals (go_wp2; go_roundw)
      all_goals first | (case rel => exact ⟨k + 1, a3, p3, by omega, by go_num, by rw [← HS.out]; exact T3.out⟩) | (case measure => simp [intOf]; omega) | skip
    · obtain rfl : k = n := by omega
      have r0 := HR.out.r0
      have r1 := HR.out.r1
      have rf := HR.out.rf
      have q0 := HR.out.q0
      have q1 := HR.out.q1
      have hd := fun w' (hb : Below wr.heap.size wr w') => HDONE.out w' (.slice ao' k c') (own_later HR.out.own hb)
      have br := HR.out.below
      have zr := HR.out.size
      have HD := Lib.hid hd; clear hd
      clear hcell
      go_wp2_with fail
      refine (HD.out _ (by go_grown)).mono ?_
      rintro _ w4 ⟨v4, rfl, o4, b4⟩
      have z4 : Below wr.heap.size wr w4 := Below.trans (by go_grown) (b4.mono (by simp; try omega))
      have e0 := below_cell z4 r0
      have e1 := below_cell z4 r1
      have ef : ∀ j, w4.frozen? ⟨w.heap.size + 1, j, none⟩ = false := fun j => (z4.frozen (p := ⟨w.heap.size + 1, j, none⟩) (show w.heap.size + 1 < _ by omega)).trans (rf j)
      have b5 := br.trans (z4.mono (by omega))
      obtain ⟨a4, p4, rfl⟩ := own_shape o4
      have lo4 := own_lo o4
      clear r0 r1 rf q0 q1 b4
      go_wp2
      refine bodyPost_ret (v := .tuple #[.agg #[.string RES.1, .slice a4 RES.2.1.length p4], .int .i64 RES.2.2]) (by simp [results, Try.results78, go_sem, e0, e1]) rfl ?_
      have o11 := own_set o4 (a := ⟨w.heap.size + 1, 0, none⟩) (fun k hk => by have := lo4 k hk; simp; omega) (.string RES.1)
      have o12 := own_set o11 (a := ⟨w.heap.size + 1, 1, none⟩) (fun k hk => by have := lo4 k hk; simp; omega) (.slice a4 RES.2.1.length p4)
      exact ⟨_, rfl, own_base o12 (by omega), (b5.setCell (by simp) _).setCell (by simp) _⟩

end Go.Proofs.Ytddkjcdnomoglaa
