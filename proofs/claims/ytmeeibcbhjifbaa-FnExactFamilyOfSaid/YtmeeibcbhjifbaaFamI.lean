/- A family of profiles: the program, with good arguments. -/
import Derived.Test.YtmeeibcbhjifbaaFamP
import Derived.Test.YtmeeibcbhjifbaaScale
namespace Go.Proofs.Ytmeeibcbhjifbaa
set_option linter.unusedVariables false
open Go.RowKit Go.Proofs.Bell Go.BigFrame

theorem sizeP_c (ao : Option Addr) (n cap : Nat) (w : World) : Calls Try.prog 44 #[.slice ao n cap] w (RetS (.int .i64 n) w) := by
  go_enter Try.func44, Try.ntmps44
  go_wp2
  go_returns
  exact RetS.mk rfl
theorem own_profile (w : World) (nm : ByteArray) (ao : Option Addr) (n cap base : Nat) (hb : base ≤ w.heap.size) : (w.alloc (.cells #[.string nm, .slice ao n cap] 31)).ownsRow base 31 2 (.slice (some ⟨w.heap.size, 0, none⟩) 1 1) 1 (pcells [(nm, .slice ao n cap)]) :=
  ⟨rfl, .inr ⟨w.heap.size, 1, _, rfl, hb, heap_alloc_new w _, Nat.le_refl _, by decide, rfl, rfl⟩⟩
theorem OwnPS.one {lo : Nat} {w : World} {nm : ByteArray} {ao : Option Addr} {n cap : Nat} {rs : List (Int × Int × Int)} (h : OwnR lo w (.slice ao n cap) rs) (hlo : lo ≤ w.heap.size) : OwnPS lo (w.alloc (.cells #[.string nm, .slice ao n cap] 31)).heap.size (w.alloc (.cells #[.string nm, .slice ao n cap] 31)) (.slice (some ⟨w.heap.size, 0, none⟩) 1 1) [(nm, .slice ao n cap)] [(nm, rs)] := by
  have hk0 : ∀ {k : Nat}, k < ([(nm, rs)] : List PR).length → k = 0 := fun hk => by simp at hk; exact hk
  refine ⟨rfl, own_profile w nm ao n cap lo hlo, fun b hb => by simp [Value.ownBlock] at hb; simp; omega, fun k hk => by obtain rfl := hk0 hk; rfl, fun k hk => ?_, fun k hk b hb => ?_, fun j k hj hk => by have := hk0 hk; omega, fun k hk b hb hv => ?_⟩
  · obtain rfl := hk0 hk
    exact own_later h ((Below.refl _ _).alloc (Nat.le_refl _) _)
  · obtain rfl := hk0 hk
    have := own_lt h b hb
    simp; omega
  · obtain rfl := hk0 hk
    have := own_lt h b hb
    simp [Value.ownBlock] at hv
    omega

set_option maxRecDepth 100000 in
set_option maxHeartbeats 3200000 in
theorem implFamily_good (nm : ByteArray) (sv : Value) (rs : List (Int × Int × Int)) (num den : Int) (c : Nat) (w : World) (hnm : nm.size ≤ maxLen) (hr : Rd w sv rs.length (trips rs)) (hp : profB nm rs = true) (n1 : 1 ≤ num) (n2 : num ≤ den) (n3 : den ≤ 1000) (c1 : 1 ≤ c) (c2 : c ≤ 64) :
    Calls Try.prog 10 #[.agg #[.string nm, sv], .int .i64 num, .int .i64 den, .int .i64 c] w (RetPS2 (famV nm num den rs c).1 (.int .i64 (famV nm num den rs c).2) w) := by
  have hok := fun w' (hb : Below w.heap.size w w') => ValidProfile_c nm sv rs w' hnm (hr.later hb)
  rw [hp] at hok
  have hcp := fun w' (hb : Below w.heap.size w w') => copyProfile_c nm sv rs w' (hr.later hb) (profB_t hp).1 (by have := (profB_t hp).2.1; omega)
  have hq1 := fun w' => isScale_c num w'
  rw [show sclB num = true from inB_mk (by omega)] at hq1
  have hq2 := fun w' => isScale_c den w'
  rw [show sclB den = true from inB_mk (by omega)] at hq2
  have hin := fun w' => within_c (c : Int) 1 64 w'
  rw [inB_mk (show 1 ≤ (c : Int) ∧ (c : Int) ≤ 64 by omega)] at hin
  have hbad : ∀ j, j < c → profB nm (famR num den rs j) = false → famV nm num den rs c = ([], 6) := fun j hj h => by
    have : famOk nm num den rs c = false := by unfold famOk; rw [List.all_eq_false]; exact ⟨j, List.mem_range.2 hj, by rw [h]; exact Bool.false_ne_true⟩
    simp [famV, this]
  have hgood : (∀ j, j < c → profB nm (famR num den rs j) = true) → famV nm num den rs c = (famL nm num den rs c, 0) := fun h => by
    have : famOk nm num den rs c = true := by unfold famOk; rw [List.all_eq_true]; exact fun j hj => h j (List.mem_range.1 hj)
    simp [famV, this]
  have hsc := fun j w' u (hv : profB nm (famR num den rs j) = true) (hx : Rd w' u (famR num den rs j).length (trips (famR num den rs j))) => scaled_c nm u (famR num den rs j) num den w' hnm hx (profB_t hv).2.2.1 (profB_t hv).2.1 n1 (by omega) (by omega) (by omega)
  obtain ⟨_, ao, cap, _, _, rfl, _, _⟩ := hr.open
  have t0 : decide (den < num) = false := decide_eq_false (by omega)
  have HOK := Lib.hid hok; clear hok
  have HCP := Lib.hid hcp; clear hcp
  have HQ1 := Lib.hid hq1; clear hq1
  have HQ2 := Lib.hid hq2; clear hq2
  have HIN := Lib.hid hin; clear hin
  have HBAD := Lib.hid hbad; clear hbad
  have HGOOD := Lib.hid hgood; clear hgood
  have HSC := Lib.hid hsc; clear hsc
  have hp0 : profB nm (famR num den rs 0) = true := hp
  have HP0 := Lib.hid hp0; clear hp0
  clear hr hp
  go_enter Try.func10, Try.ntmps10
  have b0 : Below w.heap.size w w := Below.refl _ _
  have z0 : w.heap.size ≤ w.heap.size := Nat.le_refl _
  go_wp2_with fail
  refine (HOK.out _ (by go_grown)).mono ?_
  rintro _ w1 ⟨rfl, r1⟩
  have s1 : Below w.heap.size w w1 := Below.trans (by go_grown) (r1.mono (by simp; try omega))
  have b1 := b0.trans (s1.mono z0)
  have z1 := b1.size
  have y1 := s1.size
  have c0_0_1 := below_cell r1 (p := ⟨w.heap.size, 0, none⟩) (v := .string nm) (by simp [go_sem])
  have c0_1_1 := below_cell r1 (p := ⟨w.heap.size, 1, none⟩) (v := .slice ao rs.length cap) (by simp [go_sem])
  clear r1
  go_wp2_with fail
  refine (HQ1.out _).mono ?_
  rintro _ _ ⟨rfl, rfl⟩
  go_wp2_with fail
  refine (HQ2.out _).mono ?_
  rintro _ _ ⟨rfl, rfl⟩
  go_wp2_with fail
  refine (HIN.out _).mono ?_
  rintro _ _ ⟨rfl, rfl⟩
  go_wp2_with fail
  refine (HCP.out _ b1).mono ?_
  rintro _ w2 ⟨x2, rfl, n2, r2⟩
  have s2 := r2
  have b2 := b1.trans (s2.mono z1)
  have z2 := b2.size
  have y2 := s2.size
  have c0_0_2 := below_cell s2 c0_0_1; clear c0_0_1
  have c0_1_2 := below_cell s2 c0_1_1; clear c0_1_1
  clear r2
  obtain ⟨a1, p1, rfl⟩ := own_shape n2
  have hof := OwnPS.one (nm := nm) n2 y2
  have kb : Below w2.heap.size w2 (w2.alloc (.cells #[.string nm, .slice a1 rs.length p1] 31)) := (Below.refl _ _).alloc (Nat.le_refl _) _
  have b3 := b2.trans (kb.mono z2)
  have e1 : famL nm num den rs 1 = [(nm, rs)] := rfl
  have hlo1 : w.heap.size ≤ w1.heap.size := z1
  have hsz3 : w1.heap.size ≤ (w2.alloc (.cells #[.string nm, .slice a1 rs.length p1] 31)).heap.size := by simp; omega
  rw [← e1] at hof
  clear e1 n2 kb
  have HOF := Lib.hid hof; clear hof
  go_wp2_with fail
  go_loopw [10] (fun v wr => ∃ (j : Nat) (us : List (ByteArray × Value)), 1 ≤ j ∧ j ≤ c ∧ OwnPS w1.heap.size wr.heap.size wr v us (famL nm num den rs j) ∧ (∀ i, i + 1 < j → profB nm (famR num den rs i) = true) ∧ profB nm (famR num den rs (j - 1)) = true ∧ Below w.heap.size w wr ∧ w1.heap.size ≤ wr.heap.size ∧ ∃ ao cap, v = .slice ao j cap) (fun v _ => c - (match v with | .slice _ n _ => n | _ => 0))
  case atStart => exact ⟨1, _, Nat.le_refl _, c1, HOF.out, fun i hi => by omega, HP0.out, b3, hsz3, _, _, rfl⟩
  case round =>
    obtain ⟨j, us, hj1, hj, ho, hv, hvl, hb, hlw, ag, cg, rfl⟩ := hrel
    have hall : ∀ i, i < j → profB nm (famR num den rs i) = true := fun i hi => by
      rcases Nat.lt_or_ge (i + 1) j with e | e
      · exact hv i e
      · rw [show i = j - 1 by omega]; exact hvl
    by_cases hlt : j < c
    · have t1 : decide (j < c) = true := decide_eq_true hlt
      have hnm1 := ho.nm (j - 1) (by rw [famL_len]; omega)
      have hown1 := ho.own (j - 1) (by rw [famL_len]; omega)
      have hrow := ho.row
      rw [famL_at _ _ _ _ (by omega)] at hnm1 hown1
      simp only at hnm1 hown1
      have hlen := ho.len
      rw [famL_len] at hlen hrow
      obtain ⟨ao', cap', g, hv9, hao, _⟩ := own_open hrow
      cases hv9
      obtain rfl : ag = some ⟨g, 0, none⟩ := hao (by omega)
      have hc0 : wr.cell? ⟨g, (j - 1) * 2, none⟩ = some (.string nm) := (World.ownsRow.cellAt hrow ((j - 1) * 2) (by omega)).trans ((pcells_at (show j - 1 < us.length by omega)).1.trans (by rw [hnm1]))
      have hc1 : wr.cell? ⟨g, (j - 1) * 2 + 1, none⟩ = some (us.getD (j - 1) nd).2 := (World.ownsRow.cellAt hrow ((j - 1) * 2 + 1) (by omega)).trans (pcells_at (show j - 1 < us.length by omega)).2
      have hix := ix (P := Try.prog) (T := 26) (n := j) (cap := cg) Try.underlying26 cells_PS has_PS (ao := some ⟨g, 0, none⟩) (b := g) (off := 0) (fun _ => rfl) (k := j - 1) (by omega) ((j : Int) - 1) (by omega)
      rw [Nat.zero_add] at hix
      generalize (us.getD (j - 1) nd).2 = ul at *
      obtain ⟨al, cl, rfl⟩ := own_shape hown1
      have hs := fun w' u hx => HSC.out (j - 1) w' u hvl hx
      rw [show mapK (scT num den) (famR num den rs (j - 1)) (famR num den rs (j - 1)).length = famR num den rs (j - 1 + 1) from rfl, show j - 1 + 1 = j by omega] at hs
      have hrd := Rd.of_own hown1
      have HRD := Lib.hid hrd; clear hrd
      have hfs := famL_step nm num den rs j
      have HFS := Lib.hid hfs; clear hfs
      have HO := Lib.hid ho; clear ho
      have HALL := Lib.hid hall; clear hall
      clear hnm1 hown1 hrow hlen hao hv hvl
      cases hq : profB nm (famR num den rs j)
      · rw [doneR_f hq] at hs
        have he := HBAD.out j hlt hq
        rw [he]
        have HS := Lib.hid hs; clear hs
        clear he
        go_wp2_with (go_at_call 44; refine (sizeP_c _ _ _ _).mono ?_; rintro _ _ ⟨rfl, rfl⟩)
        refine (HS.out _ _ HRD.out).mono ?_
        rintro _ w5 ⟨x5, rfl, n5, r5⟩
        obtain ⟨a5, p5, rfl⟩ := own_shape n5
        have b5 := hb.trans (r5.mono hb.size)
        go_wp2
        go_returns
        exact ⟨_, [], rfl, OwnPS.nil _ _ _, b5.alloc b5.size _⟩
      · rw [doneR_t hq] at hs
        have HS := Lib.hid hs; clear hs
        go_wp2_with (go_at_call 44; refine (sizeP_c _ _ _ _).mono ?_; rintro _ _ ⟨rfl, rfl⟩)
        refine (HS.out _ _ HRD.out).mono ?_
        rintro _ w5 ⟨x5, rfl, n5, r5⟩
        obtain ⟨a5, p5, rfl⟩ := own_shape n5
        have b5 := hb.trans (r5.mono hb.size)
        have kb : Below w5.heap.size w5 (w5.alloc (.cells #[.string nm, .slice a5 (famR num den rs j).length p5] 31)) := (Below.refl _ _).alloc (Nat.le_refl _) _
        have ho6 := (HO.out.later r5).later kb
        have n6 := own_later n5 kb
        have b6 := b5.trans (kb.mono b5.size)
        have z6 : wr.heap.size ≤ (w5.alloc (.cells #[.string nm, .slice a5 (famR num den rs j).length p5] 31)).heap.size := by have := r5.size; simp; omega
        have hrow6 := ho6.row
        rw [famL_len] at hrow6
        have HROW6 := Lib.hid hrow6; clear hrow6
        have HO6 := Lib.hid ho6; clear ho6
        have N6 := Lib.hid n6; clear n6
        have HQ := Lib.hid hq; clear hq
        clear n5
        go_wp2_with (at_builtin; refine app_PS (.tmp 56) (.tmp 58) (w5.alloc (.cells #[.string nm, .slice a5 (famR num den rs j).length p5] 31)) w1.heap.size _ j us nm a5 _ p5 (w5.heap.size + 1) (by simp) (by rfl) (by rfl) (by rfl) (by rfl) HROW6.out (by omega) (by omega) ?_; intro v9 w9 o9 q9 hat; have hsn := HO6.out.snoc (nm := nm) (row := famR num den rs j) z6 hlw N6.out (by rw [famL_len]; exact o9) q9 hat; have b9 : Below w.heap.size w w9 := Only.below b6 q9 b6.size (fun b e => by have := own_lo HROW6.out b e; omega); have z9 := q9.size; obtain ⟨a9, c9, rfl⟩ := own_shape o9; have HSN := Lib.hid hsn; clear hsn; clear o9 q9 hat)
        go_roundw
        case rel => exact ⟨j + 1, _, by omega, by omega, by rw [HFS.out]; exact HSN.out, fun i hi => HALL.out i (by omega), by rw [show j + 1 - 1 = j by omega]; exact HQ.out, b9, by omega, _, _, rfl⟩
        case measure => simp; omega
    · obtain rfl : j = c := by omega
      have t1 : decide (j < j) = false := by simp
      have he := HGOOD.out hall
      have HE := Lib.hid he; clear he
      have hfin := ho.wide hlo1 (Nat.le_refl _)
      have HFIN := Lib.hid hfin; clear hfin
      clear ho hv hvl hall
      go_wp2_with (go_at_call 44; refine (sizeP_c _ _ _ _).mono ?_; rintro _ _ ⟨rfl, rfl⟩)
      go_returns
      rw [HE.out]
      exact ⟨_, us, rfl, HFIN.out, hb⟩

end Go.Proofs.Ytmeeibcbhjifbaa
