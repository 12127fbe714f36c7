/- Several texts of the proofs in one: TxtL, TxtLI, TxtMo. -/
import Derived.Test.YtgdadbmhdljcdaaGreatDoorTG
import Derived.Test.YtgdadbmhdljcdaaGreatDoorUE
import Derived.Test.YtgdadbmhdljcdaaGreatDoorWP
/- Lists as texts: the reference. -/
namespace Go.Proofs.YtgdadbmhdljcdaaGreatDoor
set_option linter.unusedVariables false
open Go.RowKit Go.Proofs.Bell Go.BigFrame

def listT (zs : List Int) : List UInt8 := if zs = [] then [45] else Lib.join (zs.map Lib.itoa) [44]
def outL (zs : List Int) (k : Nat) : List UInt8 := Lib.join ((zs.take k).map Lib.itoa) [44]
theorem outL_zero (zs : List Int) : outL zs 0 = [] := rfl
theorem outL_step {zs : List Int} {k : Nat} (h : k < zs.length) : outL zs (k + 1) = if k = 0 then Lib.itoa zs[k] else outL zs k ++ [44] ++ Lib.itoa zs[k] := by
  unfold outL
  rw [List.take_succ_eq_append_getElem h, List.map_append, List.map_cons, List.map_nil, join_snoc]
  by_cases h0 : k = 0
  · subst h0; simp
  · rw [if_neg h0, if_neg (fun e => by have := congrArg List.length e; rw [List.length_map, List.length_take, List.length_nil] at this; omega)]
theorem outL_end {zs : List Int} (h : 1 ≤ zs.length) : listT zs = outL zs zs.length := by
  unfold listT outL
  rw [List.take_length, if_neg (by rintro rfl; simp at h)]
theorem outL_len {zs : List Int} (h : ∀ p ∈ zs, I64s p) : ∀ k, k ≤ zs.length → (outL zs k).length ≤ 22 * k
  | 0, _ => by simp [outL_zero]
  | k + 1, hk => by
    have ih := outL_len h k (by omega)
    have hp := h zs[k] (List.getElem_mem (by omega))
    have hc := Lib.itoa_length_le zs[k] hp.1 hp.2
    rw [outL_step (by omega)]
    split
    · omega
    · simp; omega
theorem listT_len {zs : List Int} (h : ∀ p ∈ zs, I64s p) : (listT zs).length ≤ 1 + 22 * zs.length := by
  rcases Nat.eq_zero_or_pos zs.length with h0 | h0
  · obtain rfl : zs = [] := List.eq_nil_of_length_eq_zero h0
    simp [listT]
  · have := outL_len h zs.length (Nat.le_refl _)
    rw [← outL_end h0] at this
    omega

end Go.Proofs.YtgdadbmhdljcdaaGreatDoor

/- Lists as texts: the program, where the list is one that it may write. -/
namespace Go.Proofs.YtgdadbmhdljcdaaGreatDoor
set_option linter.unusedVariables false
open Go.RowKit Go.Proofs.Bell Go.BigFrame

def inV (x : Int) : Bool := inB x (-1000000000000) 1000000000000
theorem isValue_c (x : Int) (w : World) : Calls Tryz.prog 127 #[.int .i64 x] w (RetB (.bool (inV x)) w) := by
  have hv := fun w => within_c x (-1000000000000) 1000000000000 w
  rw [show inB x (-1000000000000) 1000000000000 = inV x from rfl] at hv
  generalize inV x = c at *
  have HV := Lib.hid hv; clear hv
  go_enter Tryz.func127, Tryz.ntmps127
  go_wp2_with (go_at_call 56; refine (HV.out _).mono ?_; rintro _ _ ⟨rfl, rfl⟩)
  go_returns
  exact RetB.mk rfl (Below.refl _ _)
theorem ListText1_c (x : Int) (w : World) : Calls Tryz.prog 126 #[.int .i64 x] w (RetB (.bool (!inV x)) w) := by
  have hv := fun w => isValue_c x w
  generalize inV x = c at *
  have HV := Lib.hid hv; clear hv
  go_enter Tryz.func126, Tryz.ntmps126
  go_wp2_with fail
  refine (HV.out _).mono ?_
  rintro _ w1 ⟨rfl, b1⟩
  go_wp2
  go_returns
  exact RetB.mk rfl b1

set_option maxRecDepth 1000000 in
set_option maxHeartbeats 3200000 in
theorem ListText_c (v : Value) (zs : List Int) (w : World) (h : Rd w v zs.length (ints zs)) (hp : zs.all inV = true) (hl : zs.length ≤ 64) (htab : Tab w) :
    Calls Tryz.prog 79 #[v] w (RetB (.string (str (listT zs))) w) := by
  have hcf := ContainsFuncInt_c 126 #[] (fun x => !inV x) v zs w h (enters Tryz.func126 (by kernel_rfl) rfl) (fun x _ w' _ => ListText1_c x w')
  have hany : zs.any (fun x => !inV x) = false := by
    rw [List.any_eq_false]
    intro x hx
    simp [List.all_eq_true.1 hp x hx]
  rw [hany] at hcf
  have hI : ∀ p ∈ zs, I64s p := fun p hx => by
    have := inB_t (List.all_eq_true.1 hp p hx)
    unfold I64s
    omega
  obtain ⟨hn, ao, cap, bb, off, rfl, hao, hcell⟩ := h.open
  rcases Nat.eq_zero_or_pos zs.length with hz | hz
  · have he : listT zs = [45] := by
      obtain rfl : zs = [] := List.eq_nil_of_length_eq_zero hz
      rfl
    rw [he]
    rw [hz] at hcf ⊢
    have HCF := Lib.hid hcf; clear hcf
    clear he hcell hao hany hp hI htab h
    go_enter Tryz.func79, Tryz.ntmps79
    go_wp2_with fail
    refine HCF.out.mono ?_
    rintro _ w1 ⟨rfl, b1⟩
    go_wp2
    go_returns
    exact RetB.mk rfl b1
  · obtain rfl : ao = some ⟨bb, off, none⟩ := hao hz
    have he : listT zs = Lib.join (zs.map Lib.itoa) [44] := by
      unfold listT
      rw [if_neg (by rintro rfl; simp at hz)]
    rw [he]
    have hjl : (Lib.join (zs.map Lib.itoa) [44]).length ≤ 1000000 := by
      have := listT_len hI
      rw [he] at this
      omega
    have hc0 := fun wr (hb : Below w.heap.size w wr) k (hk : k < zs.length) => hcell wr hb k (.int .i64 zs[k]) (by omega) (by simp [ints, hk])
    have hel := fun k (hk : k < zs.length) => hI zs[k] (List.getElem_mem hk)
    have htk := fun k (hk : k < zs.length) => (show ((zs.take k).map Lib.itoa).map str ++ [decB zs[k]] = ((zs.take (k + 1)).map Lib.itoa).map str by rw [List.take_succ_eq_append_getElem hk, List.map_append, List.map_append]; rfl)
    have htl : ∀ k, k ≤ zs.length → (((zs.take k).map Lib.itoa).map str).length = k := fun k hk => by simp; omega
    have hjo := fun v' w' (ho : OwnW w.heap.size w' v' ((zs.map Lib.itoa).map str)) => Join_c w.heap.size v' (zs.map Lib.itoa) ⟨#[44]⟩ w' ho (by rw [List.length_map]; exact hz) (by rw [List.length_map]; omega) (by show (Lib.join (zs.map Lib.itoa) [44]).length ≤ _; omega)
    have hend : ((zs.take zs.length).map Lib.itoa).map str = (zs.map Lib.itoa).map str := by rw [List.take_length]
    generalize hRES : str (Lib.join (zs.map Lib.itoa) [44]) = RES at *
    have hne : ((zs.length : Int) == 0) = false := beq_eq_false_iff_ne.2 (by omega)
    have HCF := Lib.hid hcf; clear hcf
    have HC0 := Lib.hid hc0; clear hc0
    have HEL := Lib.hid hel; clear hel
    have HTK := Lib.hid htk; clear htk
    have HTL := Lib.hid htl; clear htl
    have HJO := Lib.hid hjo; clear hjo
    have HEND := Lib.hid hend; clear hend
    have HTAB := Lib.hid htab; clear htab
    have HRES := Lib.hid hRES; clear hRES
    clear he hcell hjl hI hany hp h
    go_enter Tryz.func79, Tryz.ntmps79
    go_wp2_with fail
    refine HCF.out.mono ?_
    rintro _ w1 ⟨rfl, b1⟩
    go_wp2_with fail
    go_loopw [18, 3] (fun i u wr => ∃ (k : Nat), k ≤ zs.length ∧ i = .int .i64 k ∧ OwnW w.heap.size wr u (((zs.take k).map Lib.itoa).map str) ∧ Below w.heap.size w wr) (fun i _ _ => zs.length - (intOf i).toNat)
    case atStart => exact ⟨0, Nat.zero_le _, rfl, World.ownsRow_nil _ _ _ _, b1⟩
    case round =>
      obtain ⟨k, hk, rfl, ho, hb⟩ := hrel
      have hlk := HTL.out k hk
      have hlo := own_lo ho
      obtain ⟨au, pu, hu⟩ := own_shape ho
      subst hu
      rw [hlk]
      have HO := Lib.hid ho; clear ho
      have LO := Lib.hid hlo; clear hlo
      by_cases hlt : k < zs.length
      · have hix := ix (P := Tryz.prog) (T := 42) (n := zs.length) (cap := cap) Tryz.underlying42 cells_int64 has_int64 (ao := some ⟨bb, off, none⟩) (b := bb) (off := off) (fun _ => rfl) (k := k) hlt _ rfl
        have c0 := HC0.out wr hb k hlt
        have hi := HEL.out k hlt
        have hs := HTK.out k hlt
        have hd := Decimal_c zs[k] hi.1 hi.2 wr (HTAB.out.later hb)
        generalize zs[k] = z at *
        have HD := Lib.hid hd; clear hd
        have hfin : ∀ W v' w', Below wr.heap.size wr W → OwnW w.heap.size w' v' (((zs.take k).map Lib.itoa).map str ++ [decB z]) → Only (fun b => (Value.slice au (((zs.take k).map Lib.itoa).map str).length pu).ownBlock = some b) W w' → OwnW w.heap.size w' v' (((zs.take (k + 1)).map Lib.itoa).map str) ∧ Below w.heap.size w w' := fun W v' w' hW o q =>
          ⟨by rw [← hs]; exact o, Only.below (hb.trans (hW.mono hb.size)) q (Nat.le_trans hb.size hW.size) (fun b e => LO.out b e)⟩
        have HFIN := Lib.hid hfin; clear hfin
        clear hs hi
        go_wp2_with fail
        refine HD.out.mono ?_
        rintro _ w4 ⟨rfl, sb⟩
        have b5 := hb.trans (sb.mono hb.size)
        have o5 := own_later HO.out sb
        have O5 := Lib.hid o5; clear o5
        go_wp2_with (at_builtin; refine app_W (.tmp 22) (.tmp 25) _ _ _ _ _ (by rfl) (by rfl) (by rw [hlk]; rfl) (by rfl) O5.out (by omega) b5.size ?_; intro v2 w9 o9 q9)
        have hf := HFIN.out w4 v2 w9 sb o9 q9
        have HF := Lib.hid hf; clear hf
        clear o9 q9
        go_roundw
        case rel => exact ⟨k + 1, by omega, by go_num, HF.out.1, HF.out.2⟩
        case measure => simp [intOf]; omega
      · obtain rfl : k = zs.length := by omega
        have ho := HO.out
        rw [HEND.out, ← HEND.out, hlk, HEND.out] at ho
        have hj := HJO.out _ wr ho
        have HJ := Lib.hid hj; clear hj
        go_wp2_with fail
        refine HJ.out.mono ?_
        rintro _ w2 ⟨rfl, r2⟩
        go_wp2
        go_returns
        first | exact RetB.mk (congrArg Value.string HRES.out) (hb.trans (r2.mono hb.size)) | exact RetB.mk rfl (hb.trans (r2.mono hb.size))

end Go.Proofs.YtgdadbmhdljcdaaGreatDoor

/- Models as texts: the reference. -/
namespace Go.Proofs.YtgdadbmhdljcdaaGreatDoor
set_option linter.unusedVariables false
open Go.RowKit Go.Proofs.Bell Go.BigFrame

def outM (zs : List Int) (ws : List (List Int)) (k : Nat) : List UInt8 := Lib.join (listT zs :: (ws.take k).map listT) [47]
theorem outM_zero (zs : List Int) (ws : List (List Int)) : outM zs ws 0 = listT zs := by simp [outM, Lib.join_one]
theorem outM_step {zs : List Int} {ws : List (List Int)} {k : Nat} (h : k < ws.length) : outM zs ws (k + 1) = outM zs ws k ++ [47] ++ listT (ws.getD k []) := by
  unfold outM
  rw [List.take_succ_eq_append_getElem h, List.map_append, List.map_cons, List.map_nil, ← List.cons_append, join_snoc, if_neg (by simp)]
  simp [List.getD, h]
def modT (zs : List Int) (ws : List (List Int)) (bs : List Int) : List UInt8 := outM zs ws ws.length ++ [47] ++ listT bs
theorem modT_join (zs : List Int) (ws : List (List Int)) (bs : List Int) : modT zs ws bs = Lib.join ((listT zs :: ws.map listT) ++ [listT bs]) [47] := by
  unfold modT outM
  rw [join_snoc, if_neg (by simp), List.take_length]
def modTI (zs : List Int) (ws : List (List Int)) (bs : List Int) : ByteArray := if modelB zs ws bs then str (modT zs ws bs) else ⟨#[]⟩
def LsOk (zs : List Int) : Prop := zs.all inV = true ∧ zs.length ≤ 64
theorem LsOk.i64 {zs : List Int} (h : LsOk zs) : ∀ p ∈ zs, I64s p := fun p hp => by
  have := inB_t (List.all_eq_true.1 h.1 p hp)
  unfold I64s
  omega
theorem LsOk.len {zs : List Int} (h : LsOk zs) : (listT zs).length ≤ 2000 := by
  have := listT_len h.i64
  have := h.2
  omega
theorem ls_of {zs : List Int} {lo hi : Int} (h : ∀ x ∈ zs, lo ≤ x ∧ x ≤ hi) (h0 : -1000000000000 ≤ lo) (h1 : hi ≤ 1000000000000) (hl : zs.length ≤ 64) : LsOk zs := by
  refine ⟨List.all_eq_true.2 fun x hx => ?_, hl⟩
  have := h x hx
  simp only [inV, inB, Bool.and_eq_true, decide_eq_true_eq]
  omega
theorem zones_bd {zs : List Int} {hi : Int} (h : zonesB zs hi = true) : ∀ x ∈ zs, 0 ≤ x ∧ x ≤ hi := fun x hx => by
  obtain ⟨j, hj, rfl⟩ := List.getElem_of_mem hx
  simp only [zonesB, Bool.and_eq_true] at h
  have := List.all_eq_true.1 h.2 j (List.mem_range.2 hj)
  simp only [riseAt, Bool.and_eq_true] at this
  have := inB_t this.1
  rw [getD_eq hj] at this
  omega
theorem modelB_I {zs : List Int} {ws : List (List Int)} {bs : List Int} (h : modelB zs ws bs = true) : LsOk zs ∧ ws.length = 5 ∧ (∀ k, k < 5 → LsOk (ws.getD k [])) ∧ LsOk bs := by
  simp only [modelB, Bool.and_eq_true, decide_eq_true_eq, List.all_eq_true, List.mem_range] at h
  obtain ⟨⟨⟨hz, hw⟩, hb⟩, hk⟩ := h
  have hl := zonesB_len hz
  have hk' : ∀ k, k < 5 → (1 ≤ bs.getD k 0 ∧ bs.getD k 0 ≤ 1000000000) ∧ (ws.getD k []).length = zs.length ∧ (ws.getD k []).all inW = true := fun k h5 => by
    have := hk k h5
    simp only [okK, okRow, Bool.and_eq_true, decide_eq_true_eq] at this
    exact ⟨inB_t this.1.1.1, this.1.1.2, this.1.2⟩
  refine ⟨ls_of (zones_bd hz) (by omega) (by omega) (by omega), hw, fun k h5 => ?_, ?_⟩
  · obtain ⟨_, h2, h3⟩ := hk' k h5
    exact ls_of (lo := 0) (hi := 1000) (fun x hx => inB_t (List.all_eq_true.1 h3 x hx)) (by omega) (by omega) (by omega)
  · refine ls_of (lo := 1) (hi := 1000000000) (fun x hx => ?_) (by omega) (by omega) (by omega)
    obtain ⟨j, hj, rfl⟩ := List.getElem_of_mem hx
    have := (hk' j (by omega)).1
    rwa [getD_eq hj] at this
theorem outM_len {zs : List Int} {ws : List (List Int)} (h0 : LsOk zs) (hw : ws.length = 5) (h : ∀ k, k < 5 → LsOk (ws.getD k [])) : ∀ k, k ≤ 5 → (outM zs ws k).length ≤ 2000 + 2001 * k
  | 0, _ => by rw [outM_zero]; have := h0.len; omega
  | k + 1, hk => by
    have ih := outM_len h0 hw h k (by omega)
    have := (h k (by omega)).len
    rw [outM_step (by omega)]
    simp only [List.length_append, List.length_cons, List.length_nil]; omega

end Go.Proofs.YtgdadbmhdljcdaaGreatDoor

