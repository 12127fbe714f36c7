/- Several texts of the proofs in one: TxtP, TxtQ. -/
import Derived.Test.YtgdadbmhdljcdaaGreatDoorGD
import Derived.Test.YtgdadbmhdljcdaaGreatDoorWP
import Derived.BigQuiet
/- Profiles as texts: the reference. -/
namespace Go.Proofs.YtgdadbmhdljcdaaGreatDoor
set_option linter.unusedVariables false
open Go.RowKit Go.Proofs.Bell Go.BigFrame

def ringW (p : Int × Int × Int) : List UInt8 := Lib.itoa p.1 ++ [47] ++ Lib.itoa p.2.1 ++ [47] ++ Lib.itoa p.2.2
def outP (nm : ByteArray) (ps : List (Int × Int × Int)) (k : Nat) : List UInt8 := Lib.join (nm.data.toList :: (ps.take k).map ringW) [32]
theorem str_toList (b : ByteArray) : str b.data.toList = b := by simp [str]
theorem outP_zero (nm : ByteArray) (ps : List (Int × Int × Int)) : outP nm ps 0 = nm.data.toList := by simp [outP, Lib.join_one]
theorem outP_step {nm : ByteArray} {ps : List (Int × Int × Int)} {k : Nat} (h : k < ps.length) : outP nm ps (k + 1) = outP nm ps k ++ [32] ++ ringW ps[k] := by
  unfold outP
  rw [List.take_succ_eq_append_getElem h, List.map_append, List.map_cons, List.map_nil, ← List.cons_append, join_snoc, if_neg (by simp)]
def I64t (p : Int × Int × Int) : Prop := I64s p.1 ∧ I64s p.2.1 ∧ I64s p.2.2
theorem outP_len {nm : ByteArray} {ps : List (Int × Int × Int)} (hn : nm.size ≤ 10) (h : ∀ p ∈ ps, I64t p) : ∀ k, k ≤ ps.length → (outP nm ps k).length ≤ 10 + 70 * k
  | 0, _ => by rw [outP_zero]; simpa using hn
  | k + 1, hk => by
    have ih := outP_len hn h k (by omega)
    have hp := h ps[k] (List.getElem_mem (by omega))
    have a := Lib.itoa_length_le ps[k].1 hp.1.1 hp.1.2
    have b := Lib.itoa_length_le ps[k].2.1 hp.2.1.1 hp.2.1.2
    have c := Lib.itoa_length_le ps[k].2.2 hp.2.2.1 hp.2.2.2
    rw [outP_step (by omega)]
    simp [ringW]; omega
def profTI (nm : ByteArray) (ps : List (Int × Int × Int)) : ByteArray := if profB nm ps then str (outP nm ps ps.length) else ⟨#[]⟩
theorem profB_I {nm : ByteArray} {ps : List (Int × Int × Int)} (h : profB nm ps = true) : (∀ p ∈ ps, I64t p) ∧ ps.length ≤ 32 ∧ nm.size ≤ 10 := by
  obtain ⟨_, h2, h3, _⟩ := profB_t h
  refine ⟨fun p hp => ?_, h2, ?_⟩
  · have := ringT_t (List.all_eq_true.1 h3 p hp)
    unfold I64t I64s
    omega
  · simp only [profB, nameB, Bool.and_eq_true, decide_eq_true_eq] at h
    omega

end Go.Proofs.YtgdadbmhdljcdaaGreatDoor

/- Profiles as texts: both functions. -/
namespace Go.Proofs.YtgdadbmhdljcdaaGreatDoor
set_option linter.unusedVariables false
open Go.RowKit Go.Proofs.Bell Go.BigFrame

theorem own_oneW (w : World) (a : ByteArray) (base : Nat) (hb : base ≤ w.heap.size) : OwnW base (w.alloc (.cells #[.string a] 9)) (.slice (some ⟨w.heap.size, 0, none⟩) 1 1) [a] :=
  ⟨rfl, .inr ⟨w.heap.size, 1, _, rfl, hb, heap_alloc_new w _, Nat.le_refl _, by decide, rfl, rfl⟩⟩

set_option maxRecDepth 1000000 in
set_option maxHeartbeats 3200000 in
theorem implProfileText_c (nm : ByteArray) (sv : Value) (ps : List (Int × Int × Int)) (w : World) (hnm : nm.size ≤ maxLen) (h : Rd w sv ps.length (trips ps)) (htab : Tab w) : Calls Tryz.prog 9 #[.agg #[.string nm, sv]] w (RetB (.string (profTI nm ps)) w) := by
  have hv := fun w' (hb : Below w.heap.size w w') => ValidProfile_c nm sv ps w' hnm (h.later hb)
  cases t0 : profB nm ps <;> rw [t0] at hv
  · have he : profTI nm ps = ⟨#[]⟩ := by simp [profTI, t0]
    rw [he]
    have HV := Lib.hid hv; clear hv
    clear he h htab hnm
    go_enter Tryz.func9, Tryz.ntmps9
    go_wp2_with fail
    refine (HV.out _ (by go_grown)).mono ?_
    rintro _ w1 ⟨rfl, b1⟩
    have b2 : Below w.heap.size w w1 := Below.trans (by go_grown) (b1.mono (by simp))
    go_wp2
    go_returns
    exact RetB.mk rfl b2
  · obtain ⟨hI, hl, hn10⟩ := profB_I t0
    have he : profTI nm ps = str (Lib.join (nm.data.toList :: ps.map ringW) [32]) := by
      simp only [profTI, t0, if_true, outP, List.take_length]
    rw [he]
    have hjl : (Lib.join (nm.data.toList :: ps.map ringW) [32]).length ≤ 1000000 := by
      have := outP_len hn10 hI ps.length (Nat.le_refl _)
      unfold outP at this
      rw [List.take_length] at this
      omega
    obtain ⟨hn, ao, cap, bb, off, rfl, hao, hcell⟩ := h.open
    have hc0 := fun wr (hb : Below w.heap.size w wr) k (hk : k < ps.length) => hcell wr hb (k * 3) _ (by omega) (trips_at hk).1
    have hc1 := fun wr (hb : Below w.heap.size w wr) k (hk : k < ps.length) => hcell wr hb (k * 3 + 1) _ (by omega) (trips_at hk).2.1
    have hc2 := fun wr (hb : Below w.heap.size w wr) k (hk : k < ps.length) => hcell wr hb (k * 3 + 2) _ (by omega) (trips_at hk).2.2
    have hel := fun k (hk : k < ps.length) => hI ps[k] (List.getElem_mem hk)
    have htk := fun k (hk : k < ps.length) => (show (nm :: ((ps.take k).map ringW).map str) ++ [str (ringW ps[k])] = nm :: ((ps.take (k + 1)).map ringW).map str by rw [List.take_succ_eq_append_getElem hk, List.map_append, List.map_append]; rfl)
    have htl : ∀ k, k ≤ ps.length → (nm :: ((ps.take k).map ringW).map str).length = k + 1 := fun k hk => by simp; omega
    have hjo := fun v' w' (ho : OwnW w.heap.size w' v' ((nm.data.toList :: ps.map ringW).map str)) => Join_c w.heap.size v' (nm.data.toList :: ps.map ringW) ⟨#[32]⟩ w' ho (by simp) (by simp; omega) (by show (Lib.join (nm.data.toList :: ps.map ringW) [32]).length ≤ _; omega)
    have hend : nm :: ((ps.take ps.length).map ringW).map str = (nm.data.toList :: ps.map ringW).map str := by rw [List.take_length, List.map_cons, str_toList]
    generalize hRES : str (Lib.join (nm.data.toList :: ps.map ringW) [32]) = RES at *
    have HV := Lib.hid hv; clear hv
    have HC0 := Lib.hid hc0; clear hc0
    have HC1 := Lib.hid hc1; clear hc1
    have HC2 := Lib.hid hc2; clear hc2
    have HEL := Lib.hid hel; clear hel
    have HTK := Lib.hid htk; clear htk
    have HTL := Lib.hid htl; clear htl
    have HJO := Lib.hid hjo; clear hjo
    have HEND := Lib.hid hend; clear hend
    have HTAB := Lib.hid htab; clear htab
    have HRES := Lib.hid hRES; clear hRES
    clear he hcell hjl hI hnm h
    go_enter Tryz.func9, Tryz.ntmps9
    go_wp2_with fail
    refine (HV.out _ (by go_grown)).mono ?_
    rintro _ w1 ⟨rfl, b1⟩
    have e0 := below_cell b1 (p := ⟨w.heap.size, 0, none⟩) (v := .string nm) (by simp [go_sem])
    have e1 := below_cell b1 (p := ⟨w.heap.size, 1, none⟩) (v := .slice ao ps.length cap) (by simp [go_sem])
    have b2 : Below w.heap.size w w1 := Below.trans (by go_grown) (b1.mono (by simp))
    clear b1
    have z2 := b2.size
    have ho1 := own_oneW w1 nm w.heap.size z2
    have b3 : Below w.heap.size w (w1.alloc (.cells #[.string nm] 9)) := b2.trans (Below.mono (by go_grown) z2)
    have e2 : (w1.alloc (.cells #[.string nm] 9)).cell? ⟨w.heap.size, 1, none⟩ = some (.slice ao ps.length cap) := alloc_cell _ e1
    have HO1 := Lib.hid ho1; clear ho1
    go_wp2_with fail
    go_loopw [15, 3] (fun i u wr => ∃ (k : Nat), k ≤ ps.length ∧ i = .int .i64 k ∧ OwnW w.heap.size wr u (nm :: ((ps.take k).map ringW).map str) ∧ Below w.heap.size w wr) (fun i _ _ => ps.length - (intOf i).toNat)
    case atStart => exact ⟨0, Nat.zero_le _, rfl, HO1.out, b3⟩
    case round =>
      obtain ⟨k, hk, rfl, ho, hb⟩ := hrel
      have hlk := HTL.out k hk
      have hlo := own_lo ho
      obtain ⟨au, pu, hu⟩ := own_shape ho
      subst hu
      rw [hlk]
      have HO := Lib.hid ho; clear ho
      have LO := Lib.hid hlo; clear hlo
      by_cases hlt : k < ps.length
      · have hix := ix (P := Tryz.prog) (T := 24) (n := ps.length) (cap := cap) Tryz.underlying24 cells_Ring has_Ring hao (k := k) hlt _ rfl
        have d0 := HC0.out wr hb k hlt
        have d1 := HC1.out wr hb k hlt
        have d2 := HC2.out wr hb k hlt
        have hI := HEL.out k hlt
        have hi0 := hI.1
        have hi1 := hI.2.1
        have hi2 := hI.2.2
        have l0 := Lib.itoa_length_le (ps[k]).1 hi0.1 hi0.2
        have l1 := Lib.itoa_length_le (ps[k]).2.1 hi1.1 hi1.2
        have l2 := Lib.itoa_length_le (ps[k]).2.2 hi2.1 hi2.2
        have hs := HTK.out k hlt
        rw [show ringW ps[k] = Lib.itoa (ps[k]).1 ++ [47] ++ Lib.itoa (ps[k]).2.1 ++ [47] ++ Lib.itoa (ps[k]).2.2 from rfl] at hs
        rw [← Nat.add_assoc] at d1 d2
        generalize (ps[k]).1 = x at *
        generalize (ps[k]).2.1 = y at *
        generalize (ps[k]).2.2 = z at *
        have s0 : (decB x).size ≤ 30 := by rw [decB_str, str_size]; omega
        have s1 : (decB y).size ≤ 30 := by rw [decB_str, str_size]; omega
        have s2 : (decB z).size ≤ 30 := by rw [decB_str, str_size]; omega
        have hEq : decB x ++ ⟨#[47]⟩ ++ decB y ++ ⟨#[47]⟩ ++ decB z = str (Lib.itoa x ++ [47] ++ Lib.itoa y ++ [47] ++ Lib.itoa z) := by
          rw [decB_str, decB_str, decB_str, show (⟨#[47]⟩ : ByteArray) = str [47] from rfl]
          simp only [str_app]
        rw [← hEq] at hs
        have hfin : ∀ W v' w', Below wr.heap.size wr W → OwnW w.heap.size w' v' ((nm :: ((ps.take k).map ringW).map str) ++ [decB x ++ ⟨#[47]⟩ ++ decB y ++ ⟨#[47]⟩ ++ decB z]) → Only (fun b => (Value.slice au (nm :: ((ps.take k).map ringW).map str).length pu).ownBlock = some b) W w' → OwnW w.heap.size w' v' (nm :: ((ps.take (k + 1)).map ringW).map str) ∧ Below w.heap.size w w' := fun W v' w' hW o q =>
          ⟨by rw [← hs]; exact o, Only.below (hb.trans (hW.mono hb.size)) q (Nat.le_trans hb.size hW.size) (fun b e => LO.out b e)⟩
        have hd : ∀ (s : Lat wr) (x : Int), I64s x → Calls Tryz.prog 46 #[.int .i64 x] s.world (RetB (.string (decB x)) s.world) := fun s x h => Decimal_c x h.1 h.2 s.world (HTAB.out.later (hb.trans (s.below.mono hb.size)))
        have HD := Lib.hid hd; clear hd
        have HI0 := Lib.hid hi0; clear hi0
        have HI1 := Lib.hid hi1; clear hi1
        have HI2 := Lib.hid hi2; clear hi2
        have HFIN := Lib.hid hfin; clear hfin
        clear hs hEq l0 l1 l2 hI
        go_wp2_with fail
        have f0 : ∀ s : Lat (wr.alloc (.cells #[.int .i64 x, .int .i64 y, .int .i64 z] 37)), s.world.cell? ⟨wr.heap.size, 0, none⟩ = some (.int .i64 x) := fun s => s.cell (by simp [go_sem])
        have f1 : ∀ s : Lat (wr.alloc (.cells #[.int .i64 x, .int .i64 y, .int .i64 z] 37)), s.world.cell? ⟨wr.heap.size, 1, none⟩ = some (.int .i64 y) := fun s => s.cell (by simp [go_sem])
        have f2 : ∀ s : Lat (wr.alloc (.cells #[.int .i64 x, .int .i64 y, .int .i64 z] 37)), s.world.cell? ⟨wr.heap.size, 2, none⟩ = some (.int .i64 z) := fun s => s.cell (by simp [go_sem])
        have hd2 : ∀ (s : Lat (wr.alloc (.cells #[.int .i64 x, .int .i64 y, .int .i64 z] 37))) (x : Int), I64s x → Calls Tryz.prog 46 #[.int .i64 x] s.world (RetB (.string (decB x)) s.world) := fun s x h => HD.out ⟨s.world, Below.trans (by go_grown) (s.below.mono (by simp))⟩ x h
        have hbA : Below wr.heap.size wr (wr.alloc (.cells #[.int .i64 x, .int .i64 y, .int .i64 z] 37)) := by go_grown
        have HD2 := Lib.hid hd2; clear hd2
        generalize wr.alloc (.cells #[.int .i64 x, .int .i64 y, .int .i64 z] 37) = W1 at *
        refine wp_region_any (by kernel_rfl) ?_
        refine wpAny_take (i := 0) (v := _) rfl (by kernel_rfl) (by kernel_rfl) (by kernel_rfl) (fun _ _ _ h => h) (.inl ⟨rfl, fun _ => rfl⟩) ?_
        refine wpAny_pick (C := fun w' => ∃ s : Lat W1, w' = s.world) 14 [0] [1, 2, 3, 4, 5, 6, 7, 8, 9, 10, 11, 12, 13] [14, 15, 16] (by kernel_rfl) (by kernel_rfl) (by kernel_rfl) ⟨⟨W1.drew, (Below.refl _ _).drew⟩, rfl⟩ ?_
        simp only [List.filterMap_cons, List.filterMap_nil, List.getElem?_cons_zero, List.getElem?_cons_succ, Act.put, List.setIfInBounds_toArray, List.set_cons_zero, List.set_cons_succ]
        show wpQuiet _ _ _ _ (_ :: _ :: _ :: _ :: _ :: _ :: _ :: _ :: _ :: _ :: _ :: _ :: _ :: []) _
        quiet_step (fail)
        repeat (go_big_quiet_step (first | (go_at_call 46; exact Lat.callB (HD2.out _ _ (by first | exact HI0.out | exact HI1.out | exact HI2.out)))))
        refine wpQuiet_nil ?_
        rintro _ ⟨s, rfl⟩
        have sb := hbA.trans (s.below.mono hbA.size)
        have b5 := hb.trans (sb.mono hb.size)
        have o5 := own_later HO.out sb
        generalize s.world = W9 at *
        have O5 := Lib.hid o5; clear o5
        clear f0 f1 f2 s0 s1 s2
        refine wpList_step ?_
        intro K hK
        go_simp
        refine hK _ _ ?_
        refine app_W (.tmp 19) (.tmp 33) _ _ _ _ _ (by rfl) (by rfl) (by rw [hlk]; rfl) (by rfl) O5.out (by omega) b5.size ?_
        intro v2 w9 o9 q9
        have hf := HFIN.out W9 v2 w9 sb o9 q9
        have HF := Lib.hid hf; clear hf
        clear o9 q9
        go_wp2
        go_roundw
        case rel => exact ⟨k + 1, by omega, by go_num, HF.out.1, HF.out.2⟩
        case measure => simp [intOf]; omega
      · obtain rfl : k = ps.length := by omega
        have ho := HO.out
        rw [hlk, HEND.out] at ho
        have hj := HJO.out _ wr ho
        have HJ := Lib.hid hj; clear hj
        go_wp2_with fail
        refine HJ.out.mono ?_
        rintro _ w2 ⟨rfl, r2⟩
        go_wp2
        go_returns
        exact RetB.mk rfl (hb.trans (r2.mono hb.size))

end Go.Proofs.YtgdadbmhdljcdaaGreatDoor

