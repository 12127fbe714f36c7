/- Sounds as texts: both functions. -/
import Derived.Test.YtgdadbmhdljcdaaDoorGoals2
import Derived.Test.YtgdadbmhdljcdaaDoorTxtH
namespace Go.Proofs.YtgdadbmhdljcdaaDoor
set_option linter.unusedVariables false
open Go.RowKit Go.Proofs.Bell Go.BigFrame

def hzZ (z : Int) : List UInt8 := hzT z.toNat
def outS (fs : List Int) (k : Nat) : List UInt8 := Lib.join ((fs.take k).map hzZ) [32]
def Fq (fs : List Int) : Prop := fs.length = 5 ∧ ∀ x ∈ fs, 10000 ≤ x ∧ x ≤ 20000000
theorem outS_zero (fs : List Int) : outS fs 0 = [] := rfl
theorem outS_step {fs : List Int} {k : Nat} (h : k < fs.length) : outS fs (k + 1) = if k = 0 then hzZ fs[k] else outS fs k ++ [32] ++ hzZ fs[k] := by
  unfold outS
  rw [List.take_succ_eq_append_getElem h, List.map_append, List.map_cons, List.map_nil, join_snoc]
  by_cases h0 : k = 0
  · subst h0; simp
  · rw [if_neg h0, if_neg (fun e => by have := congrArg List.length e; rw [List.length_map, List.length_take, List.length_nil] at this; omega)]
theorem outS_len {fs : List Int} (h : Fq fs) : ∀ k, k ≤ 5 → (outS fs k).length ≤ 41 * k
  | 0, _ => by simp [outS_zero]
  | k + 1, hk => by
    have ih := outS_len h k (by omega)
    have h5 := h.1
    have hp := h.2 fs[k] (List.getElem_mem (by omega))
    have hc := hzT_len (f := fs[k].toNat) (by omega)
    rw [outS_step (by omega)]
    unfold hzZ
    split
    · omega
    · simp only [List.length_append, List.length_cons, List.length_nil]; omega
theorem soundB_F {a b c d f : Int} (h : soundB a b c d f = true) : Fq [a, b, c, d, f] := by
  refine ⟨rfl, fun x hx => ?_⟩
  obtain ⟨j, hj, rfl⟩ := List.getElem_of_mem hx
  unfold soundB risesB at h
  have := List.all_eq_true.1 h j (List.mem_range.2 hj)
  simp only [riseAt, Bool.and_eq_true] at this
  have := inB_t this.1
  rwa [getD_eq hj] at this
theorem freq_of {x : Int} (h : 10000 ≤ x ∧ x ≤ 20000000) : freqB x = true := by
  show inB x 10000 20000000 = true
  simp only [inB, Bool.and_eq_true, decide_eq_true_eq]
  exact h

set_option maxRecDepth 1000000 in
set_option maxHeartbeats 3200000 in
theorem l04Text_c (a b c d f : Int) (g : Nat) (w : World) (h0 : w.cell? ⟨g, 0, none⟩ = some (.int .i64 a)) (h1 : w.cell? ⟨g, 1, none⟩ = some (.int .i64 b)) (h2 : w.cell? ⟨g, 2, none⟩ = some (.int .i64 c)) (h3 : w.cell? ⟨g, 3, none⟩ = some (.int .i64 d)) (h4 : w.cell? ⟨g, 4, none⟩ = some (.int .i64 f))
    (hF : Fq [a, b, c, d, f]) : Calls Tryd.prog 110 #[.pointer (some ⟨g, 0, none⟩)] w (RetB (.string (str (outS [a, b, c, d, f] 5))) w) := by
  have hl := l04List_c a b c d f g 0 w h0 h1 h2 h3 h4
  generalize [a, b, c, d, f] = fs at *
  clear h0 h1 h2 h3 h4
  have hst := fun k (hk : k < fs.length) => outS_step hk
  have hle := fun k (hk : k ≤ 5) => outS_len hF k hk
  have hel := fun k (hk : k < fs.length) => hF.2 fs[k] (List.getElem_mem hk)
  have hzero := outS_zero fs
  have h5 := hF.1
  have HL := Lib.hid hl; clear hl
  have HST := Lib.hid hst; clear hst
  have HLE := Lib.hid hle; clear hle
  have HEL := Lib.hid hel; clear hel
  have HZERO := Lib.hid hzero; clear hzero
  clear hF
  go_enter Tryd.func110, Tryd.ntmps110
  go_wp2_with fail
  refine HL.out.mono ?_
  rintro _ w1 ⟨v1, rfl, hr, b1⟩
  obtain ⟨hn, ao, cap, bb, off, rfl, hao, hcell⟩ := hr.open
  rw [h5] at hao hcell
  obtain rfl : ao = some ⟨bb, off, none⟩ := hao (by omega)
  have hc0 := fun wr (hb : Below w1.heap.size w1 wr) k (hk : k < 5) => hcell wr hb k (.int .i64 (fs.getD k 0)) (by omega) (by simp [ints, List.getD, (by omega : k < fs.length)])
  have HC0 := Lib.hid hc0; clear hc0
  rw [h5]
  clear hcell hr hn
  go_wp2_with fail
  go_loopw [5, 4] (fun i o wr => ∃ (k : Nat), k ≤ 5 ∧ i = .int .i64 k ∧ o = .string (str (outS fs k)) ∧ Below w1.heap.size w1 wr) (fun i _ _ => 5 - (intOf i).toNat)
  case atStart => exact ⟨0, Nat.zero_le _, rfl, by rw [HZERO.out]; rfl, Below.refl _ _⟩
  case round =>
    obtain ⟨k, hk, rfl, rfl, hb⟩ := hrel
    by_cases hlt : k < 5
    · have hltf : k < fs.length := by omega
      have hix := ix (P := Tryd.prog) (T := 22) (n := 5) (cap := cap) Tryd.underlying22 cells_int64 has_int64 (ao := some ⟨bb, off, none⟩) (b := bb) (off := off) (fun _ => rfl) (k := k) hlt _ rfl
      have c0 := HC0.out wr hb k hlt
      rw [getD_eq hltf] at c0
      have hI := HEL.out k hltf
      have hs := HST.out k hltf
      have hlen := HLE.out k hk
      have l0 := hzT_len (f := fs[k].toNat) (by omega)
      have hd := l02Hertz_c fs[k].toNat (by omega) wr
      rw [Int.toNat_of_nonneg (by omega)] at hd
      unfold hzZ at hs
      generalize fs[k] = z at *
      generalize hzT z.toNat = H at *
      generalize hT : outS fs (k + 1) = T at *
      have s0 : (str H).size ≤ 40 := by rw [str_size]; exact l0
      have sO : (str (outS fs k)).size ≤ 100000 := by rw [str_size]; omega
      by_cases hk0 : k = 0
      · have hk0d : decide (0 < k) = false := by simp; omega
        rw [if_pos hk0] at hs
        have hEq : str (outS fs k) ++ str H = str T := by
          rw [hs, hk0, HZERO.out, str_app]; rfl
        have HK0 := Lib.hid hk0; clear hk0
        generalize str (outS fs k) = O at *
        generalize str H = D at *
        have HD := Lib.hid hd; clear hd
        have z1 : O.size + D.size ≤ 9223372036854775807 := by omega
        have HEQ := Lib.hid hEq; clear hEq
        have HT := Lib.hid hT; clear hT
        clear hs hlen l0 hltf hI
        go_wp2_with fail
        refine HD.out.mono ?_
        rintro _ w2 ⟨rfl, r2⟩
        have b9 := hb.trans (r2.mono hb.size)
        go_wp2
        go_roundw
        case rel => exact ⟨k + 1, by omega, by go_num, by rw [HEQ.out, HT.out], b9⟩
        case measure => simp [intOf]; omega
      · have hk0d : decide (0 < k) = true := by simp; omega
        have hk5 : decide ((k:Int) < 5) = true := by simp; omega
        have HLT := Lib.hid hlt; clear hlt
        rw [if_neg hk0] at hs
        have hEq : str (outS fs k) ++ ⟨#[32]⟩ ++ str H = str T := by
          rw [hs, show (⟨#[32]⟩ : ByteArray) = str [32] from rfl, str_app, str_app]
        have HK0 := Lib.hid hk0; clear hk0
        generalize str (outS fs k) = O at *
        generalize str H = D at *
        have HD := Lib.hid hd; clear hd
        have z4 : O.size ≤ 9223372036854775806 := by omega
        have z6 : (O.size : Int) + 1 ≤ 9223372036854775807 := by omega
        have z7 : (O.size : Int) < 9223372036854775807 := by omega
        have z8 : (O.size : Int) ≤ 9223372036854775806 := by omega
        have hy : (⟨#[32]⟩ : ByteArray).size = 1 := rfl
        have z5 : O.size + (⟨#[32]⟩ : ByteArray).size ≤ 9223372036854775807 := by omega
        have z1 : (O ++ ⟨#[32]⟩).size + D.size ≤ 9223372036854775807 := by rw [ByteArray.size_append]; omega
        have HEQ := Lib.hid hEq; clear hEq
        have HT := Lib.hid hT; clear hT
        clear hs hlen l0 hy hltf hI
        go_wp2_with fail
        refine HD.out.mono ?_
        rintro _ w2 ⟨rfl, r2⟩
        have b9 := hb.trans (r2.mono hb.size)
        go_wp2
        go_roundw
        case rel => exact ⟨k + 1, by have := HLT.out; omega, by go_num, by rw [HEQ.out, HT.out], b9⟩
        case measure => (have := HLT.out); simp [intOf]; omega
    · obtain rfl : k = 5 := by omega
      go_wp2
      go_returns
      exact RetB.mk rfl (b1.trans (hb.mono b1.size))

set_option maxRecDepth 1000000 in
set_option maxHeartbeats 3200000 in
theorem SoundText_c (a b c d f : Int) (w : World) (hs0 : soundB a b c d f = true) (htab : Tab w) : Calls Tryd.prog 70 #[.agg #[.int .i64 a, .int .i64 b, .int .i64 c, .int .i64 d, .int .i64 f]] w (RetB (.string (str (outS [a, b, c, d, f] 5))) w) := by
  have hv := fun w' => ValidSound_c a b c d f w'
  have hli := fun w' => listOf_c a b c d f w'
  have hF := soundB_F hs0
  rw [hs0] at hv
  have hle := outS_len hF 5 (Nat.le_refl _)
  generalize hfs : [a, b, c, d, f] = fs at *
  have h5 := hF.1
  have hel := fun k (hk : k < fs.length) => hF.2 fs[k] (List.getElem_mem hk)
  have htk := fun k (hk : k < fs.length) => (show ((fs.take k).map hzZ).map str ++ [str (hzZ fs[k])] = ((fs.take (k + 1)).map hzZ).map str by rw [List.take_succ_eq_append_getElem hk, List.map_append, List.map_append]; rfl)
  have htl : ∀ k, k ≤ 5 → (((fs.take k).map hzZ).map str).length = k := fun k hk => by simp; omega
  have hjo := fun v' w' (ho : OwnW (w.heap.size + 1) w' v' (((fs.take 5).map hzZ).map str)) => Join_c (w.heap.size + 1) v' ((fs.take 5).map hzZ) ⟨#[32]⟩ w' ho (by simp; omega) (by simp; omega) (by show (outS fs 5).length ≤ _; omega)
  have hres : ∀ w', RetB (.string (str (Lib.join ((fs.take 5).map hzZ) (⟨#[32]⟩ : ByteArray).data.toList))) w' = RetB (.string (str (outS fs 5))) w' := fun _ => rfl
  generalize str (outS fs 5) = RES at *
  simp only [hres] at hjo
  have HV := Lib.hid hv; clear hv
  have HLI := Lib.hid hli; clear hli
  have HEL := Lib.hid hel; clear hel
  have HTK := Lib.hid htk; clear htk
  have HTL := Lib.hid htl; clear htl
  have HJO := Lib.hid hjo; clear hjo
  have HTAB := Lib.hid htab; clear htab
  have HFS := Lib.hid hfs; clear hfs
  clear hle hF hs0 hres
  go_enter Tryd.func70, Tryd.ntmps70
  go_wp2_with fail
  refine (HV.out _).mono ?_
  rintro _ w1 ⟨rfl, b1⟩
  have e0 := below_cell b1 (p := ⟨w.heap.size, 0, none⟩) (v := .int .i64 a) (by simp [go_sem])
  have e1 := below_cell b1 (p := ⟨w.heap.size, 1, none⟩) (v := .int .i64 b) (by simp [go_sem])
  have e2 := below_cell b1 (p := ⟨w.heap.size, 2, none⟩) (v := .int .i64 c) (by simp [go_sem])
  have e3 := below_cell b1 (p := ⟨w.heap.size, 3, none⟩) (v := .int .i64 d) (by simp [go_sem])
  have e4 := below_cell b1 (p := ⟨w.heap.size, 4, none⟩) (v := .int .i64 f) (by simp [go_sem])
  have z1 : w.heap.size + 1 ≤ w1.heap.size := by have := b1.size; simp only [World.size_alloc] at this; omega
  have b2 : Below w.heap.size w w1 := Below.trans (by go_grown) (b1.mono (by simp))
  clear b1
  go_wp2_with fail
  refine (HLI.out _).mono ?_
  rintro _ w2 ⟨v2, rfl, hr, r2⟩
  have b3 := b2.trans (r2.mono b2.size)
  have z2 := r2.size
  clear e0 e1 e2 e3 e4
  obtain ⟨hn, ao, cap, bb, off, rfl, hao, hcell⟩ := hr.open
  rw [h5] at hao hcell
  obtain rfl : ao = some ⟨bb, off, none⟩ := hao (by omega)
  have hc0 := fun wr (hb : Below w2.heap.size w2 wr) k (hk : k < 5) => hcell wr hb k (.int .i64 (fs.getD k 0)) (by omega) (by simp [ints, List.getD, (by omega : k < fs.length)])
  have HC0 := Lib.hid hc0; clear hc0
  rw [h5]
  clear hcell hr hn
  go_wp2_with fail
  go_loopw [12, 3] (fun i u wr => ∃ (k : Nat), k ≤ 5 ∧ i = .int .i64 k ∧ OwnW w2.heap.size wr u (((fs.take k).map hzZ).map str) ∧ Below w2.heap.size w2 wr) (fun i _ _ => 5 - (intOf i).toNat)
  case atStart => exact ⟨0, Nat.zero_le _, rfl, World.ownsRow_nil _ _ _ _, Below.refl _ _⟩
  case round =>
    obtain ⟨k, hk, rfl, ho, hb⟩ := hrel
    have hbw := b3.trans (hb.mono b3.size)
    have hlk := HTL.out k hk
    have hlo := own_lo ho
    obtain ⟨au, pu, hu⟩ := own_shape ho
    subst hu
    rw [hlk]
    have HO := Lib.hid ho; clear ho
    have LO := Lib.hid hlo; clear hlo
    by_cases hlt : k < 5
    · have hltf : k < fs.length := by omega
      have hix := ix (P := Tryd.prog) (T := 22) (n := 5) (cap := cap) Tryd.underlying22 cells_int64 has_int64 (ao := some ⟨bb, off, none⟩) (b := bb) (off := off) (fun _ => rfl) (k := k) hlt _ rfl
      have c0 := HC0.out wr hb k hlt
      rw [getD_eq hltf] at c0
      have hi := HEL.out k hltf
      have hs := HTK.out k hltf
      have hd := HertzText_c fs[k].toNat (by rw [Int.toNat_of_nonneg (by omega)]; exact freq_of hi) (by omega) wr (HTAB.out.later hbw)
      rw [Int.toNat_of_nonneg (by omega)] at hd
      rw [show hzZ fs[k] = hzT fs[k].toNat from rfl] at hs
      generalize fs[k] = z at *
      generalize str (hzT z.toNat) = D at *
      have HD := Lib.hid hd; clear hd
      have hfin : ∀ W v' w', Below wr.heap.size wr W → OwnW w2.heap.size w' v' (((fs.take k).map hzZ).map str ++ [D]) → Only (fun b => (Value.slice au (((fs.take k).map hzZ).map str).length pu).ownBlock = some b) W w' → OwnW w2.heap.size w' v' (((fs.take (k + 1)).map hzZ).map str) ∧ Below w2.heap.size w2 w' := fun W v' w' hW o q =>
        ⟨by rw [← hs]; exact o, Only.below (hb.trans (hW.mono hb.size)) q (Nat.le_trans hb.size hW.size) (fun b e => LO.out b e)⟩
      have HFIN := Lib.hid hfin; clear hfin
      clear hs hi hltf
      go_wp2_with fail
      refine HD.out.mono ?_
      rintro _ w4 ⟨rfl, sb⟩
      have b5 := hb.trans (sb.mono hb.size)
      have o5 := own_later HO.out sb
      have O5 := Lib.hid o5; clear o5
      go_wp2_with (at_builtin; refine app_W (.tmp 16) (.tmp 19) _ _ _ _ _ (by rfl) (by rfl) (by rw [hlk]; rfl) (by rfl) O5.out (by omega) b5.size ?_; intro v2 w9 o9 q9)
      have hf := HFIN.out w4 v2 w9 sb o9 q9
      have HF := Lib.hid hf; clear hf
      clear o9 q9
      go_roundw
      case rel => exact ⟨k + 1, by omega, by go_num, HF.out.1, HF.out.2⟩
      case measure => simp [intOf]; omega
    · obtain rfl : k = 5 := by omega
      have ho : OwnW (w.heap.size + 1) wr (.slice au (((fs.take 5).map hzZ).map str).length pu) (((fs.take 5).map hzZ).map str) := own_base HO.out (Nat.le_trans z1 z2)
      rw [hlk] at ho
      have hj := HJO.out _ wr ho
      have HJ := Lib.hid hj; clear hj
      go_wp2_with fail
      refine HJ.out.mono ?_
      rintro _ w3 ⟨rfl, r3⟩
      go_wp2
      go_returns
      exact RetB.mk rfl (hbw.trans (r3.mono hbw.size))

end Go.Proofs.YtgdadbmhdljcdaaDoor
