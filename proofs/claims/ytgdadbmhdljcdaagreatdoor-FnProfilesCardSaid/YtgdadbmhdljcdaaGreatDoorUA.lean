/- Several texts of the proofs in one: Rem, Rem2, Rem3, Rem4. -/
import Derived.Test.YtgdadbmhdljcdaaGreatDoorGE
import Derived.Test.YtgdadbmhdljcdaaGreatDoorGF
import Derived.Test.YtgdadbmhdljcdaaGreatDoorUB
import Derived.Deep.Cut
import Derived.Deep.CutRange
import Derived.Deep.DeepCutAuto
import Derived.Deep.RegionLaw
import Derived.Lib.SliceRun
import Derived.Lib.Walk
/- An element is struck out of a list of one's own: slices.Delete at rings. -/
namespace Go.Proofs.YtgdadbmhdljcdaaGreatDoor
set_option linter.unusedVariables false
open Go.RowKit Go.Proofs.Bell Go.BigFrame

/-- a run of values laid over a list -/
def layL (xs : List Value) : Nat → List Value → List Value
  | _, [] => xs
  | o, v :: r => layL (xs.set o v) (o + 1) r
theorem layL_len : ∀ (vs : List Value) (o : Nat) (xs : List Value), (layL xs o vs).length = xs.length
  | [], _, _ => rfl
  | v :: r, o, xs => by rw [layL, layL_len r]; simp
theorem layL_get : ∀ (vs : List Value) (o : Nat) (xs : List Value) (t : Nat), o + vs.length ≤ xs.length → (layL xs o vs)[t]? = if o ≤ t ∧ t < o + vs.length then vs[t - o]? else xs[t]?
  | [], o, xs, t, _ => by simp [layL]; intro h1 h2; omega
  | v :: r, o, xs, t, h => by
    rw [layL, layL_get r (o + 1) (xs.set o v) t (by simp at h ⊢; omega)]
    simp only [List.length_cons] at h ⊢
    by_cases h1 : o + 1 ≤ t ∧ t < o + 1 + r.length
    · rw [if_pos h1, if_pos (by omega), show t - o = (t - (o + 1)) + 1 by omega, List.getElem?_cons_succ]
    · rw [if_neg h1]
      by_cases h2 : t = o
      · subst h2
        rw [if_pos (by omega), List.getElem?_set_self (by omega)]; simp
      · rw [if_neg (by omega), List.getElem?_set_ne (by omega)]
theorem own_setCells {base : Nat} {e : TypeId} {size g n cap : Nat} : ∀ (vs : List Value) (o : Nat) (w : World) (xs : List Value), w.ownsRow base e size (.slice (some ⟨g, 0, none⟩) n cap) n xs →
    (w.setCells g o vs).ownsRow base e size (.slice (some ⟨g, 0, none⟩) n cap) n (layL xs o vs)
  | [], _, _, _, h => h
  | v :: r, o, w, xs, h => own_setCells r (o + 1) _ _ (World.ownsRow.stored h o v).1
theorem own_cut {base : Nat} {e : TypeId} {size g n m cap : Nat} {w : World} {xs : List Value} (h : w.ownsRow base e size (.slice (some ⟨g, 0, none⟩) n cap) n xs) (hm : m ≤ n) :
    w.ownsRow base e size (.slice (some ⟨g, 0, none⟩) m cap) m (xs.take (m * size)) := by
  have hle : m * size ≤ n * size := Nat.mul_le_mul_right _ hm
  rcases h.2 with ⟨h', _⟩ | ⟨g', cap', cur, h', hb, hg, hnc, hcm, hcs, htake⟩
  · simp at h'
  · simp only [Value.slice.injEq, Option.some.injEq, Addr.mk.injEq, and_true, true_and] at h'
    obtain ⟨rfl, rfl⟩ := h'
    refine ⟨by rw [List.length_take, h.1]; omega, .inr ⟨g, cap, cur, rfl, hb, hg, by omega, hcm, hcs, ?_⟩⟩
    rw [← htake, List.take_take, Nat.min_eq_left hle]
theorem only_setCells {g : Nat} : ∀ (vs : List Value) (o : Nat) (w w' : World), Only (fun b => b = g) w w' → Only (fun b => b = g) w (w'.setCells g o vs)
  | [], _, _, _, h => h
  | v :: r, o, w, w', h => only_setCells r (o + 1) w _ (h.setCell rfl v)
theorem trips_app (a b : List (Int × Int × Int)) : trips (a ++ b) = trips a ++ trips b := by simp [trips]
theorem trips_take (ps : List (Int × Int × Int)) : ∀ k, (trips ps).take (k * 3) = trips (ps.take k) := by
  induction ps with
  | nil => intro k; simp [trips]
  | cons a ps ih =>
    intro k
    cases k with
    | zero => simp [trips]
    | succ k => rw [show (k + 1) * 3 = k * 3 + 1 + 1 + 1 by omega, trips_cons, List.take_succ_cons, List.take_succ_cons, List.take_succ_cons, ih k, List.take_succ_cons, trips_cons]
theorem trips_drop (ps : List (Int × Int × Int)) : ∀ k, (trips ps).drop (k * 3) = trips (ps.drop k) := by
  induction ps with
  | nil => intro k; simp [trips]
  | cons a ps ih =>
    intro k
    cases k with
    | zero => simp
    | succ k => rw [show (k + 1) * 3 = k * 3 + 1 + 1 + 1 by omega, trips_cons, List.drop_succ_cons, List.drop_succ_cons, List.drop_succ_cons, ih k, List.drop_succ_cons]
theorem struck {ps : List (Int × Int × Int)} {i : Nat} (hi : i < ps.length) (z : List Value) (hz : z.length = 3) :
    (layL (layL (trips ps) (i * 3) (trips (ps.drop (i + 1)))) ((ps.length - 1) * 3) z).take ((ps.length - 1) * 3) = trips (ps.take i ++ ps.drop (i + 1)) := by
  have l0 := trips_len ps
  have l1 := trips_len (ps.drop (i + 1))
  have l2 := trips_len (ps.take i)
  rw [List.length_drop] at l1
  rw [List.length_take] at l2
  rw [trips_app]
  apply List.ext_getElem?
  intro t
  rw [List.getElem?_take]
  by_cases c : t < (ps.length - 1) * 3
  · rw [if_pos c, layL_get _ _ _ _ (by rw [layL_len]; omega), if_neg (by omega), layL_get _ _ _ _ (by omega)]
    by_cases d : t < i * 3
    · rw [if_neg (by omega), List.getElem?_append_left (by omega), ← trips_take, List.getElem?_take, if_pos d]
    · rw [if_pos (by omega), List.getElem?_append_right (by omega)]
      congr 1; omega
  · rw [if_neg c, List.getElem?_eq_none]
    rw [List.length_append]; omega

theorem run_clear_R (w : World) (ty : TypeId) (b o c : Nat) (hc : ∀ j, j < 3 → (w.cell? ⟨b, o + j, none⟩).isSome = true) (hf : ∀ j, j < 3 → w.frozen? ⟨b, o + j, none⟩ = false) :
    (Builtin.clear_ #[24] ty #[.slice (some ⟨b, o, none⟩) 1 c]).run Tryz.prog w = .ok (.tuple #[]) (w.setCells b o [.int .i64 0, .int .i64 0, .int .i64 0]) := by
  have hz : (zeroValue 37).run Tryz.prog w = .ok (.agg #[.int .i64 0, .int .i64 0, .int .i64 0]) w := Tryz.zeroValue37 w
  have hst := run_storeCells_cells (P := Tryz.prog) b o [.int .i64 0, .int .i64 0, .int .i64 0] 0 w (by simpa using hc) (by simpa using hf) (by simp [Value.oneCell'])
  simp only [Nat.add_zero] at hst
  have hzc : (Builtin.zeroCells (Value.agg #[.int .i64 0, .int .i64 0, .int .i64 0]).cells 1).toList = [.int .i64 0, .int .i64 0, .int .i64 0] := by kernel_rfl
  simp [Builtin.clear_, run_underlying Tryz.underlying24, hz, hzc, hst]

end Go.Proofs.YtgdadbmhdljcdaaGreatDoor

/- slices.Delete at rings. -/
namespace Go.Proofs.YtgdadbmhdljcdaaGreatDoor
set_option linter.unusedVariables false
open Go.RowKit Go.Proofs.Bell Go.BigFrame

def RetDel (base g n cap : Nat) (rs : List (Int × Int × Int)) (w : World) (e : Ending) (w' : World) : Prop := e = .returned (.slice (some ⟨g, 0, none⟩) n cap) ∧ OwnR base w' (.slice (some ⟨g, 0, none⟩) rs.length cap) rs ∧ Only (fun b => b = g) w w'
set_option maxRecDepth 100000 in
set_option maxHeartbeats 1600000 in
theorem DeleteR_c (base g cap i j : Nat) (rs : List (Int × Int × Int)) (w : World) (h : OwnR base w (.slice (some ⟨g, 0, none⟩) rs.length cap) rs) (hi : i < rs.length) (hj : j = i + 1) (hm : rs.length ≤ 1000) :
    Calls Tryz.prog 61 #[.slice (some ⟨g, 0, none⟩) rs.length cap, .int .i64 i, .int .i64 j] w (RetDel base g (rs.length - 1) cap (rs.take i ++ rs.drop (i + 1)) w) := by
  obtain ⟨i0, hi0, hz0, hz1, hz2⟩ := info_parts info_Ring
  obtain ⟨hcap, hcm⟩ : rs.length ≤ cap ∧ cap ≤ maxLen := by
    rcases h.2 with ⟨h', _⟩ | ⟨g', cap', cur, h', _, _, h1, h2, _⟩
    · simp at h'
    · simp only [Value.slice.injEq, Option.some.injEq, Addr.mk.injEq, and_true, true_and] at h'
      obtain ⟨rfl, rfl⟩ := h'
      exact ⟨h1, h2⟩
  have hlen : (trips (rs.drop j)).length = (rs.length - j) * 3 := by rw [trips_len, List.length_drop]
  have hd : OwnR base w.drew (.slice (some ⟨g, 0, none⟩) rs.length cap) rs := h
  have hcell : ∀ t, t < rs.length * 3 → w.drew.cell? ⟨g, t, none⟩ = (trips rs)[t]? := fun t ht => World.ownsRow.cellAt hd t ht
  have hfz := fun t => World.ownsRow.frozenAt hd t
  have h3 := trips_len rs
  obtain ⟨news, hnews⟩ : ∃ news, news = trips (rs.drop j) := ⟨_, rfl⟩
  rw [← hnews] at hlen
  have hfin : RetDel base g (rs.length - 1) cap (rs.take i ++ rs.drop (i + 1)) w (.returned (.slice (some ⟨g, 0, none⟩) (rs.length - 1) cap)) ((w.drew.setCells g (i * 3) news).setCells g ((rs.length - 1) * 3) [.int .i64 0, .int .i64 0, .int .i64 0]) := by
    have a := own_setCells [.int .i64 0, .int .i64 0, .int .i64 0] ((rs.length - 1) * 3) _ _ (own_setCells news (i * 3) _ _ hd)
    have b := own_cut a (m := rs.length - 1) (by omega)
    rw [hnews, hj, struck hi _ rfl] at b
    have hl : (rs.take i ++ rs.drop (i + 1)).length = rs.length - 1 := by rw [List.length_append, List.length_take, List.length_drop]; omega
    refine ⟨rfl, ?_, only_setCells _ _ _ _ (only_setCells _ _ _ _ (Only.of_below ⟨rfl, rfl, rfl, Nat.le_refl _, fun _ _ => rfl⟩))⟩
    unfold OwnR
    rw [hl]
    rw [hnews, hj]
    exact b
  obtain ⟨A, hA, hsrc⟩ : ∃ A : Addr, (if cap = j then some (⟨g, 0, none⟩ : Addr) else some ⟨g, j * 3, none⟩) = some A ∧ Hid (∀ t u, news[t]? = some u → w.drew.cell? (A.add t) = some u) := by
    by_cases hc : cap = j
    · refine ⟨⟨g, 0, none⟩, by simp [hc], Lib.hid fun t u hu => ?_⟩
      have h0 : news.length = 0 := by rw [hlen]; omega
      rw [List.length_eq_zero_iff.1 h0] at hu
      simp at hu
    · refine ⟨⟨g, j * 3, none⟩, by simp [hc], Lib.hid fun t u hu => ?_⟩
      have ht : t < (rs.length - j) * 3 := by
        have := (List.getElem?_eq_some_iff.1 hu).1
        rwa [hlen] at this
      rw [hnews, ← trips_drop, List.getElem?_drop] at hu
      rw [add_norm _ rfl, hcell _ (show j * 3 + t < _ by omega)]
      exact hu
  have s2 : ∀ u ∈ news, u.oneCell' = true := by
    intro u hu
    rw [hnews] at hu
    obtain ⟨p, _, hp⟩ := List.mem_flatMap.1 hu
    simp at hp
    rcases hp with rfl | rfl | rfl <;> rfl
  have s3 : ∀ t, t < news.length → (w.drew.cell? ⟨g, 0 + i * 3 + t, none⟩).isSome = true ∧ w.drew.frozen? ⟨g, 0 + i * 3 + t, none⟩ = false := by
    intro t ht
    rw [hlen] at ht
    refine ⟨?_, hfz _⟩
    rw [hcell _ (by omega), List.getElem?_eq_getElem (by omega)]; rfl
  have w1 : OwnR base (w.drew.setCells g (0 + i * 3) news) (.slice (some ⟨g, 0, none⟩) rs.length cap) rs → True := fun _ => trivial
  have s4 : ∀ t, t < 3 → ((w.drew.setCells g (i * 3) news).cell? ⟨g, (rs.length - 1) * 3 + t, none⟩).isSome = true := by
    intro t ht
    have a := own_setCells news (i * 3) _ _ hd
    rw [World.ownsRow.cellAt a _ (by omega), List.getElem?_eq_getElem (by rw [layL_len]; omega)]; rfl
  have s5 : ∀ t, t < 3 → (w.drew.setCells g (i * 3) news).frozen? ⟨g, (rs.length - 1) * 3 + t, none⟩ = false := by
    intro t ht
    rw [World.frozen?_setCells]; exact hfz _
  rw [Nat.zero_add] at s3
  clear hcell hfz h3 h hd hnews w1
  obtain ⟨W1, hW1⟩ : ∃ W1, W1 = w.drew.setCells g (i * 3) news := ⟨_, rfl⟩
  rw [← hW1] at s4 s5 hfin
  have hcl := fun ty c => run_clear_R W1 ty g ((rs.length - 1) * 3) c s4 s5
  have hlt : i < j := by omega
  have hj2 : j ≤ rs.length := by omega
  have hic : i ≤ cap := by omega
  have hjc : j ≤ cap := by omega
  have hk : Hid (i + (rs.length - j) = rs.length - 1) := Lib.hid (by omega)
  generalize rs.length = n at *
  have HFIN := Lib.hid hfin; clear hfin
  have S2 := Lib.hid s2; clear s2
  have S3 := Lib.hid s3; clear s3
  have HLEN := Lib.hid hlen; clear hlen
  have HW1 := Lib.hid hW1; clear hW1
  clear s4 s5
  have HJ := Lib.hid hj; clear hj
  go_enter Tryz.func61, Tryz.ntmps61
  go_wp2_with fail
  go_region_law (refine step_append_room rfl (.tmp 22) (.tmp 25) 24 rfl 37 i0 3 Tryz.underlying24 hi0 hz1 g 0 i cap (by simp [Act.eval, Act.put]) A (n - j) (cap - j) news (by simp [Act.eval, Act.put]) HLEN.out hsrc.out S2.out (by omega) (by rw [Nat.zero_add]; exact S3.out) ?_; rw [Nat.zero_add, ← HW1.out])
  rw [hk.out]
  have hn1 : n - (n - 1) = 1 := by omega
  have hle1 : n - 1 ≤ n := by omega
  have hle2 : n - 1 ≤ cap := by omega
  have hne : ¬ (cap = n - 1) := by omega
  go_wp2
  go_returns
  exact HFIN.out

end Go.Proofs.YtgdadbmhdljcdaaGreatDoor

/- A ring is removed: the program's side. -/
namespace Go.Proofs.YtgdadbmhdljcdaaGreatDoor
set_option linter.unusedVariables false
open Go.RowKit Go.Proofs.Bell Go.BigFrame

def remL (ps : List (Int × Int × Int)) (k : Int) : List (Int × Int × Int) := ps.take k.toNat ++ ps.drop (k.toNat + 1)
def remI (nm : ByteArray) (ps : List (Int × Int × Int)) (k : Int) : ByteArray × List (Int × Int × Int) × Int := if profB nm ps then (if inB k 0 ((ps.length : Int) - 1) then doneR nm (remL ps k) else (⟨#[]⟩, [], 2)) else (⟨#[]⟩, [], 1)
theorem remI_len (nm : ByteArray) (ps : List (Int × Int × Int)) (k : Int) : (remI nm ps k).2.1.length ≤ 32 := by
  unfold remI
  split
  · split
    · exact doneR_len _ _
    · simp
  · simp

set_option maxRecDepth 100000 in
set_option maxHeartbeats 1600000 in
theorem implRemoveRing_c (nm : ByteArray) (sv : Value) (ps : List (Int × Int × Int)) (k : Int) (w : World) (hnm : nm.size ≤ maxLen) (hr : Rd w sv ps.length (trips ps)) :
    Calls Tryz.prog 19 #[.agg #[.string nm, sv], .int .i64 k] w (RetP2 (remI nm ps k).1 (remI nm ps k).2.1 (.int .i64 (remI nm ps k).2.2) w) := by
  have hok := fun w' (hb : Below w.heap.size w w') => ValidProfile_c nm sv ps w' hnm (hr.later hb)
  cases t0 : profB nm ps <;> rw [t0] at hok
  · have he : remI nm ps k = (⟨#[]⟩, [], 1) := by simp [remI, t0]
    rw [he]
    have HOK := Lib.hid hok; clear hok
    clear he hr
    go_enter Tryz.func19, Tryz.ntmps19
    have b0 : Below w.heap.size w w := Below.refl _ _
    have z0 : w.heap.size ≤ w.heap.size := Nat.le_refl _
    go_wp2_with fail
    refine (HOK.out _ (by go_grown)).mono ?_
    rintro _ w1 ⟨rfl, r1⟩
    have s1 : Below w.heap.size w w1 := Below.trans (by go_grown) (r1.mono (by simp; try omega))
    have b1 := b0.trans (s1.mono z0)
    have z1 := b1.size
    have y1 := s1.size
    have v1 : w.heap.size + 2 ≤ w1.heap.size := by have := r1.size; simp only [World.size_alloc] at this; omega
    have c0_0_1 := below_cell r1 (p := ⟨w.heap.size, 0, none⟩) (v := .string nm) (by simp [go_sem])
    have c0_1_1 := below_cell r1 (p := ⟨w.heap.size, 1, none⟩) (v := sv) (by simp [go_sem])
    have c1_0_1 := below_cell r1 (p := ⟨w.heap.size + 1, 0, none⟩) (v := .string ⟨#[]⟩) (by simp [go_sem])
    have c1_1_1 := below_cell r1 (p := ⟨w.heap.size + 1, 1, none⟩) (v := .slice none 0 0) (by simp [go_sem])
    have f0_1 : ∀ j, w1.frozen? ⟨w.heap.size, j, none⟩ = false := fun j => (r1.frozen (p := ⟨w.heap.size, j, none⟩) (by simp [go_sem])).trans (by simp [go_sem])
    have f1_1 : ∀ j, w1.frozen? ⟨w.heap.size + 1, j, none⟩ = false := fun j => (r1.frozen (p := ⟨w.heap.size + 1, j, none⟩) (by simp [go_sem])).trans (by simp [go_sem])
    clear r1
    go_wp2
    refine bodyPost_ret (v := .tuple #[.agg #[.string ⟨#[]⟩, .slice none 0 0], .int .i64 1]) (by simp [results, Tryz.results19, go_sem, c1_0_1, c1_1_1]) rfl ?_
    exact RetP2.nil (Below.setCell (Below.setCell b1 (show w.heap.size ≤ w.heap.size + 1 by omega) _) (show w.heap.size ≤ w.heap.size + 1 by omega) _)
  · have HOK := Lib.hid hok; clear hok
    obtain ⟨hl1, hl2, hal, hht⟩ := profB_t t0
    have hin := fun w' => within_c k 0 ((ps.length : Int) - 1) w'
    have hsz := fun w' (hb : Below w.heap.size w w') => sizeR_c sv ps.length (trips ps) w' (hr.later hb)
    have hw1 : IntKind.i64.wrap ((ps.length : Int) - 1) = (ps.length : Int) - 1 := IntWalk.i64_in _ (by omega)
    cases t1 : inB k 0 ((ps.length : Int) - 1) <;> rw [t1] at hin
    · have he : remI nm ps k = (⟨#[]⟩, [], 2) := by simp [remI, t0, t1]
      rw [he]
      have HIN := Lib.hid hin; clear hin
      have HSZ := Lib.hid hsz; clear hsz
      clear he hr
      go_enter Tryz.func19, Tryz.ntmps19
      have b0 : Below w.heap.size w w := Below.refl _ _
      have z0 : w.heap.size ≤ w.heap.size := Nat.le_refl _
      go_wp2_with fail
      refine (HOK.out _ (by go_grown)).mono ?_
      rintro _ w1 ⟨rfl, r1⟩
      have s1 : Below w.heap.size w w1 := Below.trans (by go_grown) (r1.mono (by simp; try omega))
      have b1 := b0.trans (s1.mono z0)
      have z1 := b1.size
      have y1 := s1.size
      have v1 : w.heap.size + 2 ≤ w1.heap.size := by have := r1.size; simp only [World.size_alloc] at this; omega
      have c0_0_1 := below_cell r1 (p := ⟨w.heap.size, 0, none⟩) (v := .string nm) (by simp [go_sem])
      have c0_1_1 := below_cell r1 (p := ⟨w.heap.size, 1, none⟩) (v := sv) (by simp [go_sem])
      have c1_0_1 := below_cell r1 (p := ⟨w.heap.size + 1, 0, none⟩) (v := .string ⟨#[]⟩) (by simp [go_sem])
      have c1_1_1 := below_cell r1 (p := ⟨w.heap.size + 1, 1, none⟩) (v := .slice none 0 0) (by simp [go_sem])
      have f0_1 : ∀ j, w1.frozen? ⟨w.heap.size, j, none⟩ = false := fun j => (r1.frozen (p := ⟨w.heap.size, j, none⟩) (by simp [go_sem])).trans (by simp [go_sem])
      have f1_1 : ∀ j, w1.frozen? ⟨w.heap.size + 1, j, none⟩ = false := fun j => (r1.frozen (p := ⟨w.heap.size + 1, j, none⟩) (by simp [go_sem])).trans (by simp [go_sem])
      clear r1
      go_wp2_with fail
      refine (HSZ.out _ b1).mono ?_
      rintro _ _ ⟨rfl, rfl⟩
      go_wp2_with fail
      refine (HIN.out _).mono ?_
      rintro _ _ ⟨rfl, rfl⟩
      go_wp2
      refine bodyPost_ret (v := .tuple #[.agg #[.string ⟨#[]⟩, .slice none 0 0], .int .i64 2]) (by simp [results, Tryz.results19, go_sem, c1_0_1, c1_1_1]) rfl ?_
      exact RetP2.nil (Below.setCell (Below.setCell b1 (show w.heap.size ≤ w.heap.size + 1 by omega) _) (show w.heap.size ≤ w.heap.size + 1 by omega) _)
    · have he : remI nm ps k = doneR nm (remL ps k) := by simp [remI, t0, t1]
      rw [he]
      have hk2 : 0 ≤ k ∧ k ≤ (ps.length : Int) - 1 := by simpa [inB] using t1
      obtain ⟨i, rfl⟩ : ∃ i : Nat, k = (i : Int) := ⟨k.toNat, by omega⟩
      have hi : i < ps.length := by omega
      have hw2 : IntKind.i64.wrap ((i : Int) + 1) = ((i + 1 : Nat) : Int) := by rw [IntWalk.i64_in _ (by omega)]; omega
      have hcl := fun w' (hb : Below w.heap.size w w') => CloneR_c sv ps w' (hr.later hb) hl1 (by omega)
      have hdel := fun base g cap w' (ho : OwnR base w' (.slice (some ⟨g, 0, none⟩) ps.length cap) ps) => DeleteR_c base g cap i (i + 1) ps w' ho hi rfl (by omega)
      have hdone := fun base w' v (ho : OwnR base w' v (remL ps i)) => orState_c base nm v _ w' hnm ho
      have hrl : ps.take i ++ ps.drop (i + 1) = remL ps i := rfl
      rw [hrl] at hdel
      have hll : (remL ps i).length = ps.length - 1 := by simp [remL]; omega
      have HLL := Lib.hid hll; clear hll
      generalize doneR nm (remL ps i) = RES at *
      generalize remL ps i = qs at *
      have HIN := Lib.hid hin; clear hin
      have HSZ := Lib.hid hsz; clear hsz
      have HCL := Lib.hid hcl; clear hcl
      have HDEL := Lib.hid hdel; clear hdel
      have HDONE := Lib.hid hdone; clear hdone
      have HL1 := Lib.hid hl1; clear hl1
      obtain ⟨_, ao, cap, _, _, rfl, _, _⟩ := hr.open
      clear he hr hal hrl
      go_enter Tryz.func19, Tryz.ntmps19
      have b0 : Below w.heap.size w w := Below.refl _ _
      have z0 : w.heap.size ≤ w.heap.size := Nat.le_refl _
      go_wp2_with fail
      refine (HOK.out _ (by go_grown)).mono ?_
      rintro _ w1 ⟨rfl, r1⟩
      have s1 : Below w.heap.size w w1 := Below.trans (by go_grown) (r1.mono (by simp; try omega))
      have b1 := b0.trans (s1.mono z0)
      have z1 := b1.size
      have y1 := s1.size
      have v1 : w.heap.size + 2 ≤ w1.heap.size := by have := r1.size; simp only [World.size_alloc] at this; omega
      have c0_0_1 := below_cell r1 (p := ⟨w.heap.size, 0, none⟩) (v := .string nm) (by simp [go_sem])
      have c0_1_1 := below_cell r1 (p := ⟨w.heap.size, 1, none⟩) (v := .slice ao ps.length cap) (by simp [go_sem])
      have c1_0_1 := below_cell r1 (p := ⟨w.heap.size + 1, 0, none⟩) (v := .string ⟨#[]⟩) (by simp [go_sem])
      have c1_1_1 := below_cell r1 (p := ⟨w.heap.size + 1, 1, none⟩) (v := .slice none 0 0) (by simp [go_sem])
      have f0_1 : ∀ j, w1.frozen? ⟨w.heap.size, j, none⟩ = false := fun j => (r1.frozen (p := ⟨w.heap.size, j, none⟩) (by simp [go_sem])).trans (by simp [go_sem])
      have f1_1 : ∀ j, w1.frozen? ⟨w.heap.size + 1, j, none⟩ = false := fun j => (r1.frozen (p := ⟨w.heap.size + 1, j, none⟩) (by simp [go_sem])).trans (by simp [go_sem])
      clear r1
      go_wp2_with fail
      refine (HSZ.out _ b1).mono ?_
      rintro _ _ ⟨rfl, rfl⟩
      go_wp2_with fail
      refine (HIN.out _).mono ?_
      rintro _ _ ⟨rfl, rfl⟩
      go_wp2_with fail
      have e0 := c0_0_1
      have e1 := c0_1_1
      have r0 := c1_0_1
      have r1 := c1_1_1
      have rf := f1_1
      clear c0_0_1 c0_1_1 c1_0_1 c1_1_1 f1_1
      go_region_held3 (fun w' => w'.cell? ⟨w.heap.size, 0, none⟩ = some (.string nm) ∧ w'.cell? ⟨w.heap.size, 1, none⟩ = some (.slice ao ps.length cap)) (first | exact ⟨e0, e1⟩ | (refine ⟨?_, ?_⟩ <;> (rw [World.cell?_setCell_other _ _ _ _ (by simp; try omega), World.cell?_setCell_other _ _ _ _ (by simp; try omega)]; assumption)) | go_keep) ((first | (go_at_call 60; refine (HCL.out _ (b1.trans (Below.mono (by go_grown) z1))).mono ?_; rintro _ w2 ⟨v2, rfl, o2, q2⟩; have q3 : Below w1.heap.size w1 w2 := Below.trans (by go_grown) (q2.mono (by simp; try omega)); have e0 := below_cell q3 e0; have e1 := below_cell q3 e1; have r0 := below_cell q3 r0; have r1 := below_cell q3 r1; have rf : ∀ j, w2.frozen? ⟨w.heap.size + 1, j, none⟩ = false := fun j => (q3.frozen (p := ⟨w.heap.size + 1, j, none⟩) (show w.heap.size + 1 < _ by omega)).trans (rf j); have o3 : OwnR w1.heap.size w2 v2 ps := own_base o2 (by simp); obtain ⟨g2, cap2, rfl, hg2, hg3⟩ := World.ownsRow.form o3 HL1.out; have b2 := b1.trans (q3.mono z1); have O3 := Lib.hid o3; clear o3; clear o2 q2) | (go_at_call 61; refine (HDEL.out w1.heap.size g2 cap2 _ (by first | exact O3.out | exact own_later O3.out (by go_grown))).mono ?_; rintro _ w3 ⟨rfl, o4, q4⟩; have q5 := (Only.of_below (S := fun b => b = g2) (show Below w2.heap.size w2 _ by go_grown)).trans q4; have e0 := cell_only q5 e0 (by show ¬ w.heap.size = g2; omega); have e1 := cell_only q5 e1 (by show ¬ w.heap.size = g2; omega); have r0 := cell_only q5 r0 (by show ¬ w.heap.size + 1 = g2; omega); have r1 := cell_only q5 r1 (by show ¬ w.heap.size + 1 = g2; omega); have rf : ∀ j, w3.frozen? ⟨w.heap.size + 1, j, none⟩ = false := fun j => (frozen_only q5 (p := ⟨w.heap.size + 1, j, none⟩) (by show w.heap.size + 1 < _; omega) (by show ¬ w.heap.size + 1 = g2; omega)).trans (rf j); have b3 := Only.below b2 q5 (by omega) (fun b e => by omega); have y3 := q5.size; have O4 := Lib.hid o4; clear o4; clear q4 q5) | (go_at_call 58; refine (HDONE.out w1.heap.size _ _ (by rw [← HLL.out]; first | exact O4.out | exact own_later O4.out (by go_grown))).mono ?_; rintro _ w4 ⟨v4, rfl, o5, q6⟩; have q7 : Below w3.heap.size w3 w4 := Below.trans (by go_grown) (q6.mono (by simp; try omega)); have e0 := below_cell q7 e0; have e1 := below_cell q7 e1; have r0 := below_cell q7 r0; have r1 := below_cell q7 r1; have rf : ∀ j, w4.frozen? ⟨w.heap.size + 1, j, none⟩ = false := fun j => (q7.frozen (p := ⟨w.heap.size + 1, j, none⟩) (by show w.heap.size + 1 < _; omega)).trans (rf j); have b4 := b3.trans (q7.mono (by omega)); obtain ⟨a4, p4, rfl⟩ := own_shape o5; have O5 := Lib.hid o5; clear o5; clear q6 q7)))
      have lo5 := own_lo O5.out
      go_wp2
      refine bodyPost_ret (v := .tuple #[.agg #[.string RES.1, .slice a4 RES.2.1.length p4], .int .i64 RES.2.2]) (by simp [results, Tryz.results19, go_sem, r0, r1]) rfl ?_
      have o11 := own_set O5.out (a := ⟨w.heap.size + 1, 0, none⟩) (fun k hk => by have := lo5 k hk; simp; omega) (.string RES.1)
      have o12 := own_set o11 (a := ⟨w.heap.size + 1, 1, none⟩) (fun k hk => by have := lo5 k hk; simp; omega) (.slice a4 RES.2.1.length p4)
      exact ⟨_, rfl, own_base o12 z1, (b4.setCell (by simp) _).setCell (by simp) _⟩

end Go.Proofs.YtgdadbmhdljcdaaGreatDoor

/- A ring is removed: the reference's side. -/
namespace Go.Proofs.YtgdadbmhdljcdaaGreatDoor
set_option linter.unusedVariables false
open Go.RowKit Go.Proofs.Bell Go.BigFrame

/-- append of what lies at an address, onto a list of one's own: maybe nothing -/
theorem wappA_R {o : Oper} {a : Act} {K : Act → World → Prop} {Q : Exit → Act → World → Prop} (s x : Operand) (W : World) (base : Nat) (v : Value) (qs rs : List (Int × Int × Int)) (ad : Addr) (m c : Nat)
    (ho : o.op = .call { callee := .builtin .append, args := #[s, x], argTypes := #[24, 24] })
    (hs : a.eval s = v) (hx : a.eval x = .slice (some ad) m c) (hm : rs.length = m) (hown : OwnR base W v qs) (hrd : ∀ j u, (trips rs)[j]? = some u → W.cell? (ad.add j) = some u) (hn : qs.length ≤ 1000000) (hm1 : m ≤ 1000000) (hbase : base ≤ W.heap.size)
    (h : ∀ v' w', OwnR base w' v' (qs ++ rs) → Only (fun b => v.ownBlock = some b) W w' → K (a.put o.dst v') w') : o.wp Tryz.prog a W K Q := by
  subst hm
  obtain ⟨i0, hi, hz0, hz1, hz2⟩ := info_parts info_Ring
  refine wp_append_own W s x 24 ho base 37 i0 _ 3 24 Tryz.underlying24 hi hz0 hz1 hz2 rfl (by decide) v qs.length (trips qs) hs hown ad rs.length c (trips rs) hx (trips_len rs) hrd (fun u hu => ?_) (by unfold maxLen; omega) (by omega) hbase ?_
  · obtain ⟨p, _, hp⟩ := List.mem_flatMap.1 hu
    simp at hp
    rcases hp with rfl | rfl | rfl <;> rfl
  · intro v' w' ho' hg _
    refine h v' w' ?_ (Only.of_grown hg)
    unfold OwnR
    rw [List.length_append, trips_app]
    exact ho'
theorem appA_R {ops : Array Oper} {rest : List Oper} {o : Oper} {a : Act} {Q : Exit → Act → World → Prop} (s x : Operand) (W : World) (base : Nat) (v : Value) (qs rs : List (Int × Int × Int)) (ad : Addr) (m c : Nat)
    (ho : o.op = .call { callee := .builtin .append, args := #[s, x], argTypes := #[24, 24] }) (hgd : o.guard = none)
    (hs : a.eval s = v) (hx : a.eval x = .slice (some ad) m c) (hm : rs.length = m) (hown : OwnR base W v qs) (hrd : ∀ j u, (trips rs)[j]? = some u → W.cell? (ad.add j) = some u) (hn : qs.length ≤ 1000000) (hm1 : m ≤ 1000000) (hbase : base ≤ W.heap.size)
    (h : ∀ v' w', OwnR base w' v' (qs ++ rs) → Only (fun b => v.ownBlock = some b) W w' → wpList Tryz.prog ops Q rest (a.put o.dst v') w') : wpList Tryz.prog ops Q (o :: rest) a W :=
  wpList_plain hgd fun _ hK => wappA_R s x W base v qs rs ad m c ho hs hx hm hown hrd hn hm1 hbase fun v' w' h2 h3 => hK _ _ (h v' w' h2 h3)
theorem sappA_R {ops : Array Oper} {o : Oper} {a : Act} {K : Act → World → Prop} {Q : Exit → Act → World → Prop} {E : Prop} (s x : Operand) (W : World) (base : Nat) (v : Value) (qs rs : List (Int × Int × Int)) (ad : Addr) (m c : Nat)
    (ho : o.op = .call { callee := .builtin .append, args := #[s, x], argTypes := #[24, 24] }) (hgd : o.guard = none)
    (hs : a.eval s = v) (hx : a.eval x = .slice (some ad) m c) (hm : rs.length = m) (hown : OwnR base W v qs) (hrd : ∀ j u, (trips rs)[j]? = some u → W.cell? (ad.add j) = some u) (hn : qs.length ≤ 1000000) (hm1 : m ≤ 1000000) (hbase : base ≤ W.heap.size)
    (h : ∀ v' w', OwnR base w' v' (qs ++ rs) → Only (fun b => v.ownBlock = some b) W w' → K (a.put o.dst v') w') :
    if Region.wanted o (yielded ops a.tmps) = true then Oper.wp Tryz.prog o a W K Q else E := by
  have hw : Region.wanted o (yielded ops a.tmps) = true := by simp [Region.wanted, hgd]
  rw [if_pos hw]
  exact wappA_R s x W base v qs rs ad m c ho hs hx hm hown hrd hn hm1 hbase h
/-- the cells of a list from an element on, and ahead of one -/
theorem rd_drop {w : World} {b off : Nat} {ps : List (Int × Int × Int)} (h : ∀ w', Below w.heap.size w w' → ∀ j u, j < ps.length * 3 → (trips ps)[j]? = some u → w'.cell? ⟨b, off + j, none⟩ = some u) (k : Nat) :
    ∀ w', Below w.heap.size w w' → ∀ j u, (trips (ps.drop k))[j]? = some u → w'.cell? ((⟨b, off + k * 3, none⟩ : Addr).add j) = some u := fun w' hb j u hu => by
  have h1 := (List.getElem?_eq_some_iff.1 hu).1
  rw [trips_len, List.length_drop] at h1
  rw [← trips_drop, List.getElem?_drop] at hu
  rw [add_norm _ rfl, show off + k * 3 + j = off + (k * 3 + j) by omega]
  exact h w' hb _ u (by omega) hu
theorem rd_take {w : World} {b off : Nat} {ps : List (Int × Int × Int)} (h : ∀ w', Below w.heap.size w w' → ∀ j u, j < ps.length * 3 → (trips ps)[j]? = some u → w'.cell? ⟨b, off + j, none⟩ = some u) (k : Nat) :
    ∀ w', Below w.heap.size w w' → ∀ j u, (trips (ps.take k))[j]? = some u → w'.cell? ((⟨b, off, none⟩ : Addr).add j) = some u := fun w' hb j u hu => by
  have h1 := (List.getElem?_eq_some_iff.1 hu).1
  rw [← trips_take, List.length_take, trips_len] at h1
  rw [← trips_take, List.getElem?_take, if_pos (by omega)] at hu
  rw [add_norm _ rfl]
  exact h w' hb j u (by omega) hu

theorem own_kind {w : World} {B : Nat} {e : TypeId} {size : Nat} {v : Value} {n : Nat} {xs : List Value} (h : w.ownsRow B e size v n xs) : ∀ g, v.ownBlock = some g → ∃ c fz, w.heap[g]? = some (.cells c e fz) := by
  intro g hg
  rcases h.2 with ⟨rfl, _⟩ | ⟨g', cap, cur, rfl, _, hgg, _⟩
  · simp [Value.ownBlock] at hg
  · simp [Value.ownBlock] at hg
    subst hg
    exact ⟨cur, (0, 0), hgg⟩
/-- a row of one's own lies in no profile's box -/
theorem own_ne {w : World} {B : Nat} {v : Value} {qs : List (Int × Int × Int)} {g : Nat} {cs : Array Value} {fz : Nat × Nat} (h : OwnR B w v qs) (hg : w.heap[g]? = some (.cells cs 26 fz)) : ∀ k, v.ownBlock = some k → g ≠ k := by
  rintro k hk rfl
  obtain ⟨c, f2, h2⟩ := own_kind h g hk
  rw [hg] at h2
  simp at h2
/-- the profile's box, wherever it was made: what is known of it -/
structure PrBox (R G : Nat) (nm : ByteArray) (v : Value) (qs : List (Int × Int × Int)) (w wx : World) : Prop where
  below : Below w.heap.size w wx
  r0 : wx.cell? ⟨R, 0, none⟩ = some (.string ⟨#[]⟩)
  r1 : wx.cell? ⟨R, 1, none⟩ = some (.slice none 0 0)
  rf : ∀ j, wx.frozen? ⟨R, j, none⟩ = false
  q0 : wx.cell? ⟨G, 0, none⟩ = some (.string nm)
  q1 : wx.cell? ⟨G, 1, none⟩ = some v
  own : OwnR (R + 1) wx v qs
theorem PrBox.late {R : Nat} {nm : ByteArray} {v : Value} {qs : List (Int × Int × Int)} {w w3 : World} (b : Below w.heap.size w w3) (r0 : w3.cell? ⟨R, 0, none⟩ = some (.string ⟨#[]⟩)) (r1 : w3.cell? ⟨R, 1, none⟩ = some (.slice none 0 0)) (rf : ∀ j, w3.frozen? ⟨R, j, none⟩ = false) (o : OwnR (R + 1) w3 v qs) :
    PrBox R w3.heap.size nm v qs w (w3.alloc (.cells #[.string nm, v] 26)) :=
  ⟨b.alloc b.size _, alloc_cell _ r0, alloc_cell _ r1, fun j => (alloc_frozen _ (show R < _ from World.block_lt_of_cell? _ ⟨R, 0, none⟩ r0)).trans (rf j), by simp [go_sem], by simp [go_sem], own_later o ((Below.refl _ _).alloc (Nat.le_refl _) _)⟩
theorem PrBox.early {R G : Nat} {nm : ByteArray} {v : Value} {qs : List (Int × Int × Int)} {w w3 : World} {cs : Array Value} {fz : Nat × Nat} (b : Below w.heap.size w w3) (r0 : w3.cell? ⟨R, 0, none⟩ = some (.string ⟨#[]⟩)) (r1 : w3.cell? ⟨R, 1, none⟩ = some (.slice none 0 0)) (rf : ∀ j, w3.frozen? ⟨R, j, none⟩ = false) (o : OwnR (R + 1) w3 v qs)
    (hg : w3.heap[G]? = some (.cells cs 26 fz)) (hR : R < G) (hw : w.heap.size ≤ G) {u0 u1 : Value} (g0 : w3.cell? ⟨G, 0, none⟩ = some u0) (g1 : w3.cell? ⟨G, 1, none⟩ = some u1) :
    PrBox R G nm v qs w ((w3.setCell ⟨G, 0, none⟩ (.string nm)).setCell ⟨G, 1, none⟩ v) := by
  have hn := own_ne o hg
  refine ⟨(b.setCell hw _).setCell hw _, ?_, ?_, fun j => by rw [World.frozen?_setCell, World.frozen?_setCell]; exact rf j, ?_, ?_, own_set (own_set o (fun k hk => hn k hk) _) (fun k hk => hn k hk) _⟩
  · rw [World.cell?_setCell_other _ _ _ _ (by simp; try omega), World.cell?_setCell_other _ _ _ _ (by simp; try omega)]; exact r0
  · rw [World.cell?_setCell_other _ _ _ _ (by simp; try omega), World.cell?_setCell_other _ _ _ _ (by simp; try omega)]; exact r1
  · rw [World.cell?_setCell_other _ _ _ _ (by simp)]; exact World.cell?_setCell_same _ _ _ g0
  · exact World.cell?_setCell_same _ _ _ (by rw [World.cell?_setCell_other _ _ _ _ (by simp)]; exact g1)

end Go.Proofs.YtgdadbmhdljcdaaGreatDoor

