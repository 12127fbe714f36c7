/- Models as texts: the reference. -/
import Derived.Test.YtgdadbmhdljcdaaDoorTxtLI
namespace Go.Proofs.YtgdadbmhdljcdaaDoor
set_option linter.unusedVariables false
open Go.RowKit Go.Proofs.Bell Go.BigFrame

def outM (zs : List Int) (ws : List (List Int)) (k : Nat) : List UInt8 := Lib.join (listT zs :: (ws.take k).map listT) [47]
theorem outM_zero (zs : List Int) (ws : List (List Int)) : outM zs ws 0 = listT zs := by simp [outM, Lib.join_one]
theorem outM_step {zs : List Int} {ws : List (List Int)} {k : Nat} (h : k < ws.length) : outM zs ws (k + 1) = outM zs ws k ++ [47] ++ listT (ws.getD k []) := by
  unfold outM
  rw [List.take_succ_eq_append_getElem h, List.map_append, List.map_cons, List.map_nil, ← List.cons_append, join_snoc, if_neg (by simp)]
  simp [List.getD, h]
def modT (zs : List Int) (ws : List (List Int)) (bs : List Int) : List UInt8 := outM zs ws ws.length ++ [47] ++ listT bs
theorem modT_join (zs : List Int) (ws : List (List Int)) (bs : List Int) : modT zs ws bs = Lib.join ((listT zs :: ws.map listT) ++ [listT bs]) [47] := by
  unfold modT outM
  rw [join_snoc, if_neg (by simp), List.take_length]
def modTI (zs : List Int) (ws : List (List Int)) (bs : List Int) : ByteArray := if modelB zs ws bs then str (modT zs ws bs) else ⟨#[]⟩
def LsOk (zs : List Int) : Prop := zs.all inV = true ∧ zs.length ≤ 64
theorem LsOk.i64 {zs : List Int} (h : LsOk zs) : ∀ p ∈ zs, I64s p := fun p hp => by
  have := inB_t (List.all_eq_true.1 h.1 p hp)
  unfold I64s
  omega
theorem LsOk.len {zs : List Int} (h : LsOk zs) : (listT zs).length ≤ 2000 := by
  have := listT_len h.i64
  have := h.2
  omega
theorem ls_of {zs : List Int} {lo hi : Int} (h : ∀ x ∈ zs, lo ≤ x ∧ x ≤ hi) (h0 : -1000000000000 ≤ lo) (h1 : hi ≤ 1000000000000) (hl : zs.length ≤ 64) : LsOk zs := by
  refine ⟨List.all_eq_true.2 fun x hx => ?_, hl⟩
  have := h x hx
  simp only [inV, inB, Bool.and_eq_true, decide_eq_true_eq]
  omega
theorem zones_bd {zs : List Int} {hi : Int} (h : zonesB zs hi = true) : ∀ x ∈ zs, 0 ≤ x ∧ x ≤ hi := fun x hx => by
  obtain ⟨j, hj, rfl⟩ := List.getElem_of_mem hx
  simp only [zonesB, Bool.and_eq_true] at h
  have := List.all_eq_true.1 h.2 j (List.mem_range.2 hj)
  simp only [riseAt, Bool.and_eq_true] at this
  have := inB_t this.1
  rw [getD_eq hj] at this
  omega
theorem modelB_I {zs : List Int} {ws : List (List Int)} {bs : List Int} (h : modelB zs ws bs = true) : LsOk zs ∧ ws.length = 5 ∧ (∀ k, k < 5 → LsOk (ws.getD k [])) ∧ LsOk bs := by
  simp only [modelB, Bool.and_eq_true, decide_eq_true_eq, List.all_eq_true, List.mem_range] at h
  obtain ⟨⟨⟨hz, hw⟩, hb⟩, hk⟩ := h
  have hl := zonesB_len hz
  have hk' : ∀ k, k < 5 → (1 ≤ bs.getD k 0 ∧ bs.getD k 0 ≤ 1000000000) ∧ (ws.getD k []).length = zs.length ∧ (ws.getD k []).all inW = true := fun k h5 => by
    have := hk k h5
    simp only [okK, okRow, Bool.and_eq_true, decide_eq_true_eq] at this
    exact ⟨inB_t this.1.1.1, this.1.1.2, this.1.2⟩
  refine ⟨ls_of (zones_bd hz) (by omega) (by omega) (by omega), hw, fun k h5 => ?_, ?_⟩
  · obtain ⟨_, h2, h3⟩ := hk' k h5
    exact ls_of (lo := 0) (hi := 1000) (fun x hx => inB_t (List.all_eq_true.1 h3 x hx)) (by omega) (by omega) (by omega)
  · refine ls_of (lo := 1) (hi := 1000000000) (fun x hx => ?_) (by omega) (by omega) (by omega)
    obtain ⟨j, hj, rfl⟩ := List.getElem_of_mem hx
    have := (hk' j (by omega)).1
    rwa [getD_eq hj] at this
theorem outM_len {zs : List Int} {ws : List (List Int)} (h0 : LsOk zs) (hw : ws.length = 5) (h : ∀ k, k < 5 → LsOk (ws.getD k [])) : ∀ k, k ≤ 5 → (outM zs ws k).length ≤ 2000 + 2001 * k
  | 0, _ => by rw [outM_zero]; have := h0.len; omega
  | k + 1, hk => by
    have ih := outM_len h0 hw h k (by omega)
    have := (h k (by omega)).len
    rw [outM_step (by omega)]
    simp only [List.length_append, List.length_cons, List.length_nil]; omega

set_option maxRecDepth 1000000 in
set_option maxHeartbeats 3200000 in
theorem l08Text_c (g : Nat) (zv wv bv : Value) (zs : List Int) (ws : List (List Int)) (bs : List Int) (w : World) (c0 : w.cell? ⟨g, 0, none⟩ = some zv) (c1 : w.cell? ⟨g, 1, none⟩ = some wv) (c2 : w.cell? ⟨g, 2, none⟩ = some bv)
    (hz : Rd w zv zs.length (ints zs)) (hw : RdSS w wv ws) (hb : Rd w bv bs.length (ints bs)) (h0 : LsOk zs) (h5 : ws.length = 5) (hk : ∀ k, k < 5 → LsOk (ws.getD k [])) (h2 : LsOk bs) :
    Calls Tryd.prog 73 #[.pointer (some ⟨g, 0, none⟩)] w (RetB (.string (str (modT zs ws bs))) w) := by
  have hlz := l01List_c zv zs w hz h0.i64 (by have := h0.2; omega)
  have hlb := fun w' (hb' : Below w.heap.size w w') => l01List_c bv bs w' (hb.later hb') h2.i64 (by have := h2.2; omega)
  obtain ⟨us, hus, hr, hrow⟩ := hw
  have hlr := fun k (hk5 : k < 5) w' (hb' : Below w.heap.size w w') => l01List_c (us.getD k nv) (ws.getD k []) w' ((hrow k (by omega)).later hb') (hk k hk5).i64 (by have := (hk k hk5).2; omega)
  have hll := fun k (hk5 : k < 5) => (hk k hk5).len
  have hle := outM_len h0 h5 hk
  have hst := fun k (hk5 : k < 5) => outM_step (zs := zs) (ws := ws) (k := k) (by omega)
  have hzero := outM_zero zs ws
  have hbl := h2.len
  have hfin : str (outM zs ws 5) ++ ⟨#[47]⟩ ++ str (listT bs) = str (modT zs ws bs) := by
    unfold modT
    rw [h5, show (⟨#[47]⟩ : ByteArray) = str [47] from rfl, str_app, str_app]
  rw [h5] at hr
  obtain ⟨hn, ao, cap, bb, off, rfl, hao, hcell⟩ := hr.open
  obtain rfl : ao = some ⟨bb, off, none⟩ := hao (by omega)
  have hc0 := fun wr (hb : Below w.heap.size w wr) k (hk : k < 5) => hcell wr hb k _ (by omega) (getDv (by omega : k < us.length))
  generalize str (modT zs ws bs) = RES at *
  clear hcell hrow hz hb h0 hk h2 hr
  have HLZ := Lib.hid hlz; clear hlz
  have HLB := Lib.hid hlb; clear hlb
  have HLR := Lib.hid hlr; clear hlr
  have HLL := Lib.hid hll; clear hll
  have HLE := Lib.hid hle; clear hle
  have HST := Lib.hid hst; clear hst
  have HZERO := Lib.hid hzero; clear hzero
  have HFIN := Lib.hid hfin; clear hfin
  have HC0 := Lib.hid hc0; clear hc0
  have HBL := Lib.hid hbl; clear hbl
  go_enter Tryd.func73, Tryd.ntmps73
  go_wp2_with fail
  refine HLZ.out.mono ?_
  rintro _ w1 ⟨rfl, b1⟩
  have z1 := b1.size
  have k1 := below_cell b1 c1
  have k2 := below_cell b1 c2
  clear c0 c1 c2
  go_wp2_with fail
  go_loopw [4, 3] (fun i o wr => ∃ (k : Nat), k ≤ 5 ∧ i = .int .i64 k ∧ o = .string (str (outM zs ws k)) ∧ Below w1.heap.size w1 wr) (fun i _ _ => 5 - (intOf i).toNat)
  case atStart => exact ⟨0, Nat.zero_le _, rfl, by rw [HZERO.out], Below.refl _ _⟩
  case round =>
    obtain ⟨k, hk, rfl, rfl, hb1⟩ := hrel
    have hb := b1.trans (hb1.mono z1)
    have m1 := below_cell hb1 k1
    have m2 := below_cell hb1 k2
    have hOl := HLE.out k hk
    by_cases hlt : k < 5
    · have hix := ix (P := Tryd.prog) (T := 23) (n := 5) (cap := cap) Tryd.underlying23 cells_SS has_SS (ao := some ⟨bb, off, none⟩) (b := bb) (off := off) (fun _ => rfl) (k := k) hlt _ rfl
      have d0 := HC0.out wr hb k hlt
      have hs := HST.out k hlt
      have hl := HLL.out k hlt
      have hd := HLR.out k hlt wr hb
      generalize us.getD k nv = u at *
      generalize ws.getD k [] = row at *
      have s0 : (str (listT row)).size ≤ 2000 := by rw [str_size]; exact hl
      have sO : (str (outM zs ws k)).size ≤ 20000 := by rw [str_size]; omega
      have hEq : str (outM zs ws k) ++ (⟨#[47]⟩ ++ str (listT row)) = str (outM zs ws (k + 1)) := by
        rw [hs, show (⟨#[47]⟩ : ByteArray) = str [47] from rfl, str_app, str_app, List.append_assoc]
      generalize str (outM zs ws k) = O at *
      generalize str (listT row) = A at *
      have hy : (⟨#[47]⟩ : ByteArray).size = 1 := rfl
      have y1 : (⟨#[47]⟩ : ByteArray).size + A.size ≤ 9223372036854775807 := by omega
      have y2 : 1 + A.size ≤ 9223372036854775807 := by omega
      have y3 : (1 : Int) + (A.size : Int) ≤ 9223372036854775807 := by omega
      have y4 : O.size + (⟨#[47]⟩ ++ A).size ≤ 9223372036854775807 := by rw [ByteArray.size_append]; omega
      have HD := Lib.hid hd; clear hd
      have HEQ := Lib.hid hEq; clear hEq
      clear hs hl hOl hy
      go_wp2_with fail
      refine HD.out.mono ?_
      rintro _ w2 ⟨rfl, r2⟩
      have b9 := hb1.trans (r2.mono hb1.size)
      go_wp2
      go_roundw
      case rel => exact ⟨k + 1, by omega, by go_num, by rw [HEQ.out], b9⟩
      case measure => simp [intOf]; omega
    · obtain rfl : k = 5 := by omega
      have hd := HLB.out wr hb
      have hf := HFIN.out
      have hl := HBL.out
      have s0 : (str (listT bs)).size ≤ 2000 := by rw [str_size]; exact hl
      have sO : (str (outM zs ws 5)).size ≤ 20000 := by rw [str_size]; omega
      generalize str (outM zs ws 5) = O at *
      generalize str (listT bs) = A at *
      have hy : (⟨#[47]⟩ : ByteArray).size = 1 := rfl
      have z4 : O.size ≤ 9223372036854775806 := by omega
      have z6 : (O.size : Int) + 1 ≤ 9223372036854775807 := by omega
      have z7 : (O.size : Int) < 9223372036854775807 := by omega
      have z8 : (O.size : Int) ≤ 9223372036854775806 := by omega
      have z5 : O.size + (⟨#[47]⟩ : ByteArray).size ≤ 9223372036854775807 := by omega
      have z9 : (O ++ ⟨#[47]⟩).size + A.size ≤ 9223372036854775807 := by rw [ByteArray.size_append]; omega
      have HD := Lib.hid hd; clear hd
      have HF := Lib.hid hf; clear hf
      clear hOl hy hl
      go_wp2_with fail
      refine HD.out.mono ?_
      rintro _ w2 ⟨rfl, r2⟩
      have b9 := hb.trans (r2.mono hb.size)
      go_wp2
      go_returns
      exact RetB.mk (congrArg Value.string HF.out) b9

end Go.Proofs.YtgdadbmhdljcdaaDoor
