/- Lists as texts: the program, where the list is one that it may write. -/
import Derived.Test.YtgdadbmhdljcdaaDoorTxtD
import Derived.Test.YtgdadbmhdljcdaaDoorTxtL
import Derived.Test.YtgdadbmhdljcdaaDoorTxtQ
import Derived.Test.YtgdadbmhdljcdaaDoorVm2
namespace Go.Proofs.YtgdadbmhdljcdaaDoor
set_option linter.unusedVariables false
open Go.RowKit Go.Proofs.Bell Go.BigFrame

def inV (x : Int) : Bool := inB x (-1000000000000) 1000000000000
theorem isValue_c (x : Int) (w : World) : Calls Tryd.prog 116 #[.int .i64 x] w (RetB (.bool (inV x)) w) := by
  have hv := fun w => within_c x (-1000000000000) 1000000000000 w
  rw [show inB x (-1000000000000) 1000000000000 = inV x from rfl] at hv
  generalize inV x = c at *
  have HV := Lib.hid hv; clear hv
  go_enter Tryd.func116, Tryd.ntmps116
  go_wp2_with (go_at_call 90; refine (HV.out _).mono ?_; rintro _ _ ⟨rfl, rfl⟩)
  go_returns
  exact RetB.mk rfl (Below.refl _ _)
theorem ListText1_c (x : Int) (w : World) : Calls Tryd.prog 115 #[.int .i64 x] w (RetB (.bool (!inV x)) w) := by
  have hv := fun w => isValue_c x w
  generalize inV x = c at *
  have HV := Lib.hid hv; clear hv
  go_enter Tryd.func115, Tryd.ntmps115
  go_wp2_with fail
  refine (HV.out _).mono ?_
  rintro _ w1 ⟨rfl, b1⟩
  go_wp2
  go_returns
  exact RetB.mk rfl b1

set_option maxRecDepth 1000000 in
set_option maxHeartbeats 3200000 in
theorem ListText_c (v : Value) (zs : List Int) (w : World) (h : Rd w v zs.length (ints zs)) (hp : zs.all inV = true) (hl : zs.length ≤ 64) (htab : Tab w) :
    Calls Tryd.prog 76 #[v] w (RetB (.string (str (listT zs))) w) := by
  have hcf := ContainsFuncInt_c 115 #[] (fun x => !inV x) v zs w h (enters Tryd.func115 (by kernel_rfl) rfl) (fun x _ w' _ => ListText1_c x w')
  have hany : zs.any (fun x => !inV x) = false := by
    rw [List.any_eq_false]
    intro x hx
    simp [List.all_eq_true.1 hp x hx]
  rw [hany] at hcf
  have hI : ∀ p ∈ zs, I64s p := fun p hx => by
    have := inB_t (List.all_eq_true.1 hp p hx)
    unfold I64s
    omega
  obtain ⟨hn, ao, cap, bb, off, rfl, hao, hcell⟩ := h.open
  rcases Nat.eq_zero_or_pos zs.length with hz | hz
  · have he : listT zs = [45] := by
      obtain rfl : zs = [] := List.eq_nil_of_length_eq_zero hz
      rfl
    rw [he]
    rw [hz] at hcf ⊢
    have HCF := Lib.hid hcf; clear hcf
    clear he hcell hao hany hp hI htab h
    go_enter Tryd.func76, Tryd.ntmps76
    go_wp2_with fail
    refine HCF.out.mono ?_
    rintro _ w1 ⟨rfl, b1⟩
    go_wp2
    go_returns
    exact RetB.mk rfl b1
  · obtain rfl : ao = some ⟨bb, off, none⟩ := hao hz
    have he : listT zs = Lib.join (zs.map Lib.itoa) [44] := by
      unfold listT
      rw [if_neg (by rintro rfl; simp at hz)]
    rw [he]
    have hjl : (Lib.join (zs.map Lib.itoa) [44]).length ≤ 1000000 := by
      have := listT_len hI
      rw [he] at this
      omega
    have hc0 := fun wr (hb : Below w.heap.size w wr) k (hk : k < zs.length) => hcell wr hb k (.int .i64 zs[k]) (by omega) (by simp [ints, hk])
    have hel := fun k (hk : k < zs.length) => hI zs[k] (List.getElem_mem hk)
    have htk := fun k (hk : k < zs.length) => (show ((zs.take k).map Lib.itoa).map str ++ [decB zs[k]] = ((zs.take (k + 1)).map Lib.itoa).map str by rw [List.take_succ_eq_append_getElem hk, List.map_append, List.map_append]; rfl)
    have htl : ∀ k, k ≤ zs.length → (((zs.take k).map Lib.itoa).map str).length = k := fun k hk => by simp; omega
    have hjo := fun v' w' (ho : OwnW w.heap.size w' v' ((zs.map Lib.itoa).map str)) => Join_c w.heap.size v' (zs.map Lib.itoa) ⟨#[44]⟩ w' ho (by rw [List.length_map]; exact hz) (by rw [List.length_map]; omega) (by show (Lib.join (zs.map Lib.itoa) [44]).length ≤ _; omega)
    have hend : ((zs.take zs.length).map Lib.itoa).map str = (zs.map Lib.itoa).map str := by rw [List.take_length]
    generalize hRES : str (Lib.join (zs.map Lib.itoa) [44]) = RES at *
    have hne : ((zs.length : Int) == 0) = false := beq_eq_false_iff_ne.2 (by omega)
    have HCF := Lib.hid hcf; clear hcf
    have HC0 := Lib.hid hc0; clear hc0
    have HEL := Lib.hid hel; clear hel
    have HTK := Lib.hid htk; clear htk
    have HTL := Lib.hid htl; clear htl
    have HJO := Lib.hid hjo; clear hjo
    have HEND := Lib.hid hend; clear hend
    have HTAB := Lib.hid htab; clear htab
    have HRES := Lib.hid hRES; clear hRES
    clear he hcell hjl hI hany hp h
    go_enter Tryd.func76, Tryd.ntmps76
    go_wp2_with fail
    refine HCF.out.mono ?_
    rintro _ w1 ⟨rfl, b1⟩
    go_wp2_with fail
    go_loopw [18, 3] (fun i u wr => ∃ (k : Nat), k ≤ zs.length ∧ i = .int .i64 k ∧ OwnW w.heap.size wr u (((zs.take k).map Lib.itoa).map str) ∧ Below w.heap.size w wr) (fun i _ _ => zs.length - (intOf i).toNat)
    case atStart => exact ⟨0, Nat.zero_le _, rfl, World.ownsRow_nil _ _ _ _, b1⟩
    case round =>
      obtain ⟨k, hk, rfl, ho, hb⟩ := hrel
      have hlk := HTL.out k hk
      have hlo := own_lo ho
      obtain ⟨au, pu, hu⟩ := own_shape ho
      subst hu
      rw [hlk]
      have HO := Lib.hid ho; clear ho
      have LO := Lib.hid hlo; clear hlo
      by_cases hlt : k < zs.length
      · have hix := ix (P := Tryd.prog) (T := 22) (n := zs.length) (cap := cap) Tryd.underlying22 cells_int64 has_int64 (ao := some ⟨bb, off, none⟩) (b := bb) (off := off) (fun _ => rfl) (k := k) hlt _ rfl
        have c0 := HC0.out wr hb k hlt
        have hi := HEL.out k hlt
        have hs := HTK.out k hlt
        have hd := Decimal_c zs[k] hi.1 hi.2 wr (HTAB.out.later hb)
        generalize zs[k] = z at *
        have HD := Lib.hid hd; clear hd
        have hfin : ∀ W v' w', Below wr.heap.size wr W → OwnW w.heap.size w' v' (((zs.take k).map Lib.itoa).map str ++ [decB z]) → Only (fun b => (Value.slice au (((zs.take k).map Lib.itoa).map str).length pu).ownBlock = some b) W w' → OwnW w.heap.size w' v' (((zs.take (k + 1)).map Lib.itoa).map str) ∧ Below w.heap.size w w' := fun W v' w' hW o q =>
          ⟨by rw [← hs]; exact o, Only.below (hb.trans (hW.mono hb.size)) q (Nat.le_trans hb.size hW.size) (fun b e => LO.out b e)⟩
        have HFIN := Lib.hid hfin; clear hfin
        clear hs hi
        go_wp2_with fail
        refine HD.out.mono ?_
        rintro _ w4 ⟨rfl, sb⟩
        have b5 := hb.trans (sb.mono hb.size)
        have o5 := own_later HO.out sb
        have O5 := Lib.hid o5; clear o5
        go_wp2_with (at_builtin; refine app_W (.tmp 22) (.tmp 25) _ _ _ _ _ (by rfl) (by rfl) (by rw [hlk]; rfl) (by rfl) O5.out (by omega) b5.size ?_; intro v2 w9 o9 q9)
        have hf := HFIN.out w4 v2 w9 sb o9 q9
        have HF := Lib.hid hf; clear hf
        clear o9 q9
        go_roundw
        case rel => exact ⟨k + 1, by omega, by go_num, HF.out.1, HF.out.2⟩
        case measure => simp [intOf]; omega
      · obtain rfl : k = zs.length := by omega
        have ho := HO.out
        rw [HEND.out, ← HEND.out, hlk, HEND.out] at ho
        have hj := HJO.out _ wr ho
        have HJ := Lib.hid hj; clear hj
        go_wp2_with fail
        refine HJ.out.mono ?_
        rintro _ w2 ⟨rfl, r2⟩
        go_wp2
        go_returns
        first | exact RetB.mk (congrArg Value.string HRES.out) (hb.trans (r2.mono hb.size)) | exact RetB.mk rfl (hb.trans (r2.mono hb.size))

end Go.Proofs.YtgdadbmhdljcdaaDoor
