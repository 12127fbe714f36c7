/- Models as texts: both functions. -/
import Derived.Test.YtgdadbmhdljcdaaGreatDoorTB
namespace Go.Proofs.YtgdadbmhdljcdaaGreatDoor
set_option linter.unusedVariables false
open Go.RowKit Go.Proofs.Bell Go.BigFrame

set_option maxRecDepth 1000000 in
set_option maxHeartbeats 3200000 in
theorem implModelText_c (zv wv bv : Value) (zs : List Int) (ws : List (List Int)) (bs : List Int) (w : World) (hz : Rd w zv zs.length (ints zs)) (hw : RdSS w wv ws) (hb : Rd w bv bs.length (ints bs)) (htab : Tab w) :
    Calls Tryz.prog 28 #[.agg #[zv, wv, bv]] w (RetB (.string (modTI zs ws bs)) w) := by
  have hv := fun w' (hB : Below w.heap.size w w') => implValidModel_c zv wv bv zs ws bs w' (hz.later hB) (hw.later hB) (hb.later hB)
  cases t0 : modelB zs ws bs <;> rw [t0] at hv
  · have he : modTI zs ws bs = ⟨#[]⟩ := by simp [modTI, t0]
    rw [he]
    have HV := Lib.hid hv; clear hv
    clear he hz hw hb htab
    go_enter Tryz.func28, Tryz.ntmps28
    go_wp2_with fail
    refine (HV.out _ (by go_grown)).mono ?_
    rintro _ w1 ⟨rfl, b1⟩
    have b2 : Below w.heap.size w w1 := Below.trans (by go_grown) (b1.mono (by simp))
    go_wp2
    go_returns
    exact RetB.mk rfl b2
  · have he : modTI zs ws bs = str (Lib.join ((listT zs :: ws.map listT) ++ [listT bs]) [47]) := by rw [← modT_join]; simp [modTI, t0]
    rw [he]
    obtain ⟨h0, h5, hk, h2⟩ := modelB_I t0
    have hjl : (Lib.join ((listT zs :: ws.map listT) ++ [listT bs]) [47]).length ≤ 1000000 := by
      rw [← modT_join]
      have := outM_len h0 h5 hk 5 (Nat.le_refl _)
      have := h2.len
      unfold modT
      rw [h5]
      simp only [List.length_append, List.length_cons, List.length_nil]; omega
    have hlz := fun w' (hB : Below w.heap.size w w') => ListText_c zv zs w' (hz.later hB) h0.1 h0.2 (htab.later hB)
    have hlb := fun w' (hB : Below w.heap.size w w') => ListText_c bv bs w' (hb.later hB) h2.1 h2.2 (htab.later hB)
    obtain ⟨us, hus, hr, hrow⟩ := hw
    have hlr := fun k (hk5 : k < 5) w' (hB : Below w.heap.size w w') => ListText_c (us.getD k nv) (ws.getD k []) w' ((hrow k (by omega)).later hB) (hk k hk5).1 (hk k hk5).2 (htab.later hB)
    rw [h5] at hr
    obtain ⟨hn, ao, cap, bb, off, rfl, hao, hcell⟩ := hr.open
    obtain rfl : ao = some ⟨bb, off, none⟩ := hao (by omega)
    have hc0 := fun wr (hb : Below w.heap.size w wr) k (hk : k < 5) => hcell wr hb k _ (by omega) (getDv (by omega : k < us.length))
    have htk := fun k (hk : k < 5) => (show (str (listT zs) :: ((ws.take k).map listT).map str) ++ [str (listT (ws.getD k []))] = str (listT zs) :: ((ws.take (k + 1)).map listT).map str by rw [List.take_succ_eq_append_getElem (by omega : k < ws.length), List.map_append, List.map_append]; simp [List.getD, (by omega : k < ws.length)])
    have htl : ∀ k, k ≤ 5 → (str (listT zs) :: ((ws.take k).map listT).map str).length = k + 1 := fun k hk => by simp; omega
    have hjo := fun v' w' (ho : OwnW (w.heap.size + 1) w' v' (((listT zs :: ws.map listT) ++ [listT bs]).map str)) => Join_c (w.heap.size + 1) v' ((listT zs :: ws.map listT) ++ [listT bs]) ⟨#[47]⟩ w' ho (by simp) (by simp; omega) (by show (Lib.join ((listT zs :: ws.map listT) ++ [listT bs]) [47]).length ≤ _; omega)
    have hend : (str (listT zs) :: ((ws.take 5).map listT).map str) ++ [str (listT bs)] = ((listT zs :: ws.map listT) ++ [listT bs]).map str := by rw [List.take_of_length_le (by omega), List.map_append, List.map_cons]; rfl
    generalize hRES : str (Lib.join ((listT zs :: ws.map listT) ++ [listT bs]) [47]) = RES at *
    have HV := Lib.hid hv; clear hv
    have HC0 := Lib.hid hc0; clear hc0
    have HLZ := Lib.hid hlz; clear hlz
    have HLB := Lib.hid hlb; clear hlb
    have HLR := Lib.hid hlr; clear hlr
    have HTK := Lib.hid htk; clear htk
    have HTL := Lib.hid htl; clear htl
    have HJO := Lib.hid hjo; clear hjo
    have HEND := Lib.hid hend; clear hend
    have HRES := Lib.hid hRES; clear hRES
    clear he hcell hjl h0 hk h2 hr hrow hz hb htab
    go_enter Tryz.func28, Tryz.ntmps28
    go_wp2_with fail
    refine (HV.out _ (by go_grown)).mono ?_
    rintro _ w1 ⟨rfl, b1⟩
    have e0 := below_cell b1 (p := ⟨w.heap.size, 0, none⟩) (v := zv) (by simp [go_sem])
    have e1 := below_cell b1 (p := ⟨w.heap.size, 1, none⟩) (v := .slice (some ⟨bb, off, none⟩) 5 cap) (by simp [go_sem])
    have e2 := below_cell b1 (p := ⟨w.heap.size, 2, none⟩) (v := bv) (by simp [go_sem])
    have z1 : w.heap.size + 1 ≤ w1.heap.size := by have := b1.size; simp only [World.size_alloc] at this; omega
    have b2 : Below w.heap.size w w1 := Below.trans (by go_grown) (b1.mono (by simp))
    clear b1
    have hl1 := HLZ.out w1 b2
    have HL1 := Lib.hid hl1; clear hl1
    go_wp2_with fail
    refine HL1.out.mono ?_
    rintro _ w2 ⟨rfl, r2⟩
    have z2 := r2.size
    have b3 := b2.trans (r2.mono b2.size)
    have g1 := below_cell r2 e1
    have g2 := below_cell r2 e2
    clear e0 e1 e2 HL1
    have ho1 := own_oneW w2 (str (listT zs)) (w.heap.size + 1) (by omega)
    have b4 : Below w.heap.size w (w2.alloc (.cells #[.string (str (listT zs))] 9)) := b3.trans (Below.mono (by go_grown) b3.size)
    have k1 : (w2.alloc (.cells #[.string (str (listT zs))] 9)).cell? ⟨w.heap.size, 1, none⟩ = some (.slice (some ⟨bb, off, none⟩) 5 cap) := alloc_cell _ g1
    have k2 : (w2.alloc (.cells #[.string (str (listT zs))] 9)).cell? ⟨w.heap.size, 2, none⟩ = some bv := alloc_cell _ g2
    have HO1 := Lib.hid ho1; clear ho1
    go_wp2_with fail
    go_loopw [16, 3] (fun i u wr => ∃ (k : Nat), k ≤ 5 ∧ i = .int .i64 k ∧ OwnW (w.heap.size + 1) wr u (str (listT zs) :: ((ws.take k).map listT).map str) ∧ Below w.heap.size w wr ∧ wr.cell? ⟨w.heap.size, 2, none⟩ = some bv ∧ w.heap.size + 1 ≤ wr.heap.size) (fun i _ _ => 5 - (intOf i).toNat)
    case atStart => exact ⟨0, Nat.zero_le _, rfl, HO1.out, b4, k2, by simp; omega⟩
    case round =>
      obtain ⟨k, hk, rfl, ho, hb, hcb, hsz⟩ := hrel
      have hlk := HTL.out k hk
      have hlo := own_lo ho
      obtain ⟨au, pu, hu⟩ := own_shape ho
      subst hu
      rw [hlk]
      have HO := Lib.hid ho; clear ho
      have LO := Lib.hid hlo; clear hlo
      by_cases hlt : k < 5
      · have hix := ix (P := Tryz.prog) (T := 43) (n := 5) (cap := cap) Tryz.underlying43 cells_SS has_SS (ao := some ⟨bb, off, none⟩) (b := bb) (off := off) (fun _ => rfl) (k := k) hlt _ rfl
        have d0 := HC0.out wr hb k hlt
        have hs := HTK.out k hlt
        have hd := HLR.out k hlt wr hb
        generalize us.getD k nv = u at *
        generalize ws.getD k [] = row at *
        have HD := Lib.hid hd; clear hd
        have hfin : ∀ W v' w', Below wr.heap.size wr W → OwnW (w.heap.size + 1) w' v' ((str (listT zs) :: ((ws.take k).map listT).map str) ++ [str (listT row)]) → Only (fun b => (Value.slice au (str (listT zs) :: ((ws.take k).map listT).map str).length pu).ownBlock = some b) W w' → OwnW (w.heap.size + 1) w' v' (str (listT zs) :: ((ws.take (k + 1)).map listT).map str) ∧ Below w.heap.size w w' ∧ w'.cell? ⟨w.heap.size, 2, none⟩ = some bv ∧ w.heap.size + 1 ≤ w'.heap.size := fun W v' w' hW o q =>
          ⟨by rw [← hs]; exact o, Only.below (hb.trans (hW.mono hb.size)) q (Nat.le_trans hb.size hW.size) (fun b e => by have := LO.out b e; omega),
            cell_only q (below_cell hW hcb) (fun e => by have h9 : w.heap.size + 1 ≤ w.heap.size := LO.out _ e; omega), Nat.le_trans (Nat.le_trans hsz hW.size) q.size⟩
        have HFIN := Lib.hid hfin; clear hfin
        clear hs hcb
        go_wp2_with fail
        refine HD.out.mono ?_
        rintro _ w4 ⟨rfl, sb⟩
        have z5 : w.heap.size + 1 ≤ w4.heap.size := Nat.le_trans hsz sb.size
        have o5 := own_later HO.out sb
        have O5 := Lib.hid o5; clear o5
        go_wp2_with (at_builtin; refine app_W (.tmp 20) (.tmp 23) _ _ _ _ _ (by rfl) (by rfl) (by rw [hlk]; rfl) (by rfl) O5.out (by omega) z5 ?_; intro v2 w9 o9 q9)
        have hf := HFIN.out w4 v2 w9 sb o9 q9
        have HF := Lib.hid hf; clear hf
        clear o9 q9
        go_roundw
        case rel => exact ⟨k + 1, by omega, by go_num, HF.out.1, HF.out.2.1, HF.out.2.2⟩
        case measure => simp [intOf]; omega
      · obtain rfl : k = 5 := by omega
        have hd := HLB.out wr hb
        have HD := Lib.hid hd; clear hd
        go_wp2_with fail
        refine HD.out.mono ?_
        rintro _ w4 ⟨rfl, sb⟩
        have z5 : w.heap.size + 1 ≤ w4.heap.size := Nat.le_trans hsz sb.size
        have b5 := hb.trans (sb.mono hb.size)
        have o5 := own_later HO.out sb
        have O5 := Lib.hid o5; clear o5
        go_wp2_with (at_builtin; refine app_W (.tmp 26) (.tmp 30) _ _ _ _ _ (by rfl) (by rfl) (by rw [hlk]; rfl) (by rfl) O5.out (by omega) z5 ?_; intro v2 w9 o9 q9)
        rw [HEND.out] at o9
        have b9 : Below w.heap.size w w9 := Only.below b5 q9 b5.size (fun b e => by have := LO.out b e; omega)
        have hj := HJO.out v2 w9 o9
        have HJ := Lib.hid hj; clear hj
        clear o9 q9
        refine HJ.out.mono ?_
        rintro _ w3 ⟨rfl, r3⟩
        go_wp2
        go_returns
        first | exact RetB.mk (congrArg Value.string HRES.out) (b9.trans (r3.mono b9.size)) | exact RetB.mk rfl (b9.trans (r3.mono b9.size))

end Go.Proofs.YtgdadbmhdljcdaaGreatDoor
