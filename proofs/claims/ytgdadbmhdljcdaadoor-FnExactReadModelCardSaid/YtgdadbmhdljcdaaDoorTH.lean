/- Several texts of the proofs in one: Txt1, Txt2. -/
import Derived.Test.YtgdadbmhdljcdaaDoorGA
import Derived.Test.YtgdadbmhdljcdaaDoorTxtM
import Derived.Test.YtgdadbmhdljcdaaDoorTxtShlF
import Derived.Lib.Hide
import Derived.Lib.Join
/- Numbers as texts: the reference and the program. -/
namespace Go.Proofs.YtgdadbmhdljcdaaDoor
set_option linter.unusedVariables false
open Go.RowKit Go.Proofs.Bell Go.BigFrame

/-- the library's table reads as it should, in every later world -/
def Tab (w : World) : Prop := ∀ w', Below w.heap.size w w' → Lib.TabIs Tryd.prog w' "internal/strconv.uint64pow10" .u64 Lib.pow10Tab
theorem Tab.later {w w1 : World} (h : Tab w) (hb : Below w.heap.size w w1) : Tab w1 := fun w' h' => h w' (hb.trans (h'.mono hb.size))
theorem Tab.below {w w1 w2 : World} (h : Tab w) (hb : Below w.heap.size w w1) : Tab w1 := h.later hb

theorem grow_below (os : Array Obj) (w : World) : Below w.heap.size w (Sort.grow w os) :=
  ⟨rfl, rfl, rfl, by simp [Sort.grow], fun k hk => by simp only [Sort.grow]; exact Array.getElem?_append_left hk⟩

set_option maxHeartbeats 800000 in
theorem Decimal_c (n : Int) (h0 : -9223372036854775808 ≤ n) (h1 : n ≤ 9223372036854775807) (w : World) (ht : Tab w) : Calls Tryd.prog 57 #[.int .i64 n] w (RetB (.string (decB n)) w) := by
  have hf := Tryd.strconv_FormatInt_10 n h0 h1 w (ht w (Below.refl _ _))
  have HF := Lib.hid hf; clear hf
  unfold decB
  generalize (Lib.itoa n).toArray = r at *
  go_enter Tryd.func57, Tryd.ntmps57
  go_wp2_with fail
  refine HF.out.mono ?_
  rintro _ w1 ⟨rfl, k, os, rfl⟩
  go_wp2
  go_returns
  exact RetB.mk rfl (Below.trans (below_drewN (Below.refl _ _) k) ((grow_below os _).mono (Nat.le_of_eq rfl)))

set_option maxRecDepth 1000000 in
set_option maxHeartbeats 3200000 in
theorem l01Dec_c (n : Int) (h0 : -9223372036854775808 ≤ n) (h1 : n ≤ 9223372036854775807) (w : World) : Calls Tryd.prog 91 #[.int .i64 n] w (RetB (.string (decB n)) w) := by
  by_cases hz : n = 0
  · subst hz
    have e : decB 0 = ⟨#[48]⟩ := by unfold decB Lib.itoa; rw [if_neg (by decide), Lib.decDigits]; rfl
    rw [e]
    go_enter Tryd.func91, Tryd.ntmps91
    go_wp2
    go_returns
    exact RetB.mk rfl (Below.refl _ _)
  · have hstr := decS_str hz
    have hlen : (rdg n.natAbs).length ≤ 21 := rdg_len (by omega)
    have hpos : 1 ≤ (rdg n.natAbs).length := by rw [rdg_step (by omega)]; simp
    generalize decB n = RES at *
    unfold decS at hstr
    generalize hA : n.natAbs = A at *
    have hA2 : A ≤ 9223372036854775808 := by omega
    have hsg : (n < 0 ∧ n = -(A : Int)) ∨ (¬ n < 0 ∧ n = (A : Int)) := by omega
    generalize hRD : rdg A = RD at *
    have hrd : [] ++ rdg A = RD := hRD
    have HRD := Lib.hid hrd; clear hrd
    have HSTR := Lib.hid hstr; clear hstr
    clear hA hRD
    rcases hsg with ⟨hneg, hn⟩ | ⟨hneg, hn⟩
    · have HN := Lib.hid hn; clear hn
      have hnz : ((n : Int) == 0) = false := beq_eq_false_iff_ne.2 hz
      go_enter Tryd.func91, Tryd.ntmps91
      go_wp2_with fail
      go_loopw [4, 3] (fun m v wr => ∃ (a : Nat) (ds : List Int), m = .int .i64 (-(a : Int)) ∧ a ≤ 9223372036854775808 ∧ ds.length ≤ 21 ∧ OwnB w.heap.size wr v ds ∧ ds ++ rdg a = RD ∧ Below w.heap.size w wr) (fun m _ _ => (intOf m).natAbs)
      case atStart => exact ⟨A, [], by rw [HN.out], hA2, by simp, own_empty _ _ _ _ (Nat.le_refl _), HRD.out, by go_grown⟩
      case round =>
        obtain ⟨a, ds, rfl, ha, hdl, ho, hr, hb⟩ := hrel
        obtain ⟨ad, pd, rfl⟩ := own_shape ho
        by_cases hp : 0 < a
        · have t1 : (((-(a : Int)) : Int) == 0) = false := beq_eq_false_iff_ne.2 (by omega)
          have t1' : decide (a = 0) = false := decide_eq_false (by omega)
          rw [rdg_step hp] at hr
          have hcast : ((48 + a % 10 : Nat) : Int) = 48 + ((a % 10 : Nat) : Int) := by push_cast; rfl
          rw [hcast] at hr
          have hm0 : a % 10 ≤ 9 := by omega
          have et : Int.tmod (-(a : Int)) 10 = -((a % 10 : Nat) : Int) := by rw [Int.neg_tmod]; rfl
          have eq : Int.tdiv (-(a : Int)) 10 = -((a / 10 : Nat) : Int) := by rw [Int.neg_tdiv]; rfl
          have hlr : ds.length + 1 ≤ 21 := by have := congrArg List.length hr; simp at this; omega
          have hfin : ∀ v' w', OwnB w.heap.size w' v' (ds ++ [48 + ((a % 10 : Nat) : Int)]) → Only (fun b => (Value.slice ad ds.length pd).ownBlock = some b) wr w' → OwnB w.heap.size w' v' (ds ++ [48 + ((a % 10 : Nat) : Int)]) ∧ Below w.heap.size w w' := fun v' w' o q => ⟨o, Only.below hb q hb.size (fun b e => own_lo ho b e)⟩
          have ha2 : a / 10 ≤ 9223372036854775808 := by omega
          have hmeas : a / 10 < a := Nat.div_lt_self hp (by decide)
          generalize a % 10 = d at *
          generalize hQ : a / 10 = a' at *
          have HQ := Lib.hid hQ; clear hQ
          have HR := Lib.hid hr; clear hr
          have HC := Lib.hid hcast; clear hcast
          have HFIN := Lib.hid hfin; clear hfin
          have HO := Lib.hid ho; clear ho
          by_cases hd0 : d = 0
          · subst hd0
            go_wp2_with (at_builtin; refine app_B (.tmp 22) (.tmp 26) _ w.heap.size _ ds (48) (by rfl) (by rfl) (by rfl) (by rfl) HO.out (by omega) hb.size ?_; intro v9 w9 o9 q9; obtain ⟨o9, b9⟩ := HFIN.out v9 w9 (by simpa using o9) q9; clear q9; have O9 := Lib.hid o9; clear o9)
            go_roundw
            case rel => exact ⟨a', _, rfl, by omega, by simpa using hlr, O9.out, by rw [← HR.out]; simp, b9⟩
            case measure => simp [intOf]; omega
          · have td : decide ((-(d : Int)) < 0) = true := by simp; omega
            go_wp2_with (at_builtin; refine app_B (.tmp 22) (.tmp 26) _ w.heap.size _ ds (48 + (d : Int)) (by rfl) (by rfl) (by rfl) (by rfl) HO.out (by omega) hb.size ?_; intro v9 w9 o9 q9; obtain ⟨o9, b9⟩ := HFIN.out v9 w9 o9 q9; clear q9; have O9 := Lib.hid o9; clear o9)
            go_roundw
            case rel => exact ⟨a', _, rfl, by omega, by simpa using hlr, O9.out, by rw [← HR.out]; simp, b9⟩
            case measure => simp [intOf]; omega
        · obtain rfl : a = 0 := by omega
          rw [rdg_zero, List.append_nil] at hr
          subst hr
          have hstr := HSTR.out
          rw [if_pos hneg] at hstr
          have hfin : ∀ v' w', OwnB w.heap.size w' v' (ds ++ [45]) → Only (fun b => (Value.slice ad ds.length pd).ownBlock = some b) wr w' → OwnB w.heap.size w' v' (ds ++ [45]) ∧ Below w.heap.size w w' := fun v' w' o q => ⟨o, Only.below hb q hb.size (fun b e => own_lo ho b e)⟩
          have hFl : (ds ++ [45]).length ≤ 22 := by simp; omega
          have hF1 : 1 ≤ (ds ++ [45]).length := by simp
          generalize hFF : ds ++ [45] = F at *
          have HFF := Lib.hid hFF; clear hFF
          have HFIN := Lib.hid hfin; clear hfin
          have HO := Lib.hid ho; clear ho
          have HSTR2 := Lib.hid hstr; clear hstr
          clear HRD HSTR hlen
          go_wp2_with (at_builtin; refine app_B (.tmp 30) (.tmp 31) _ w.heap.size _ ds 45 (by rfl) (by rfl) (by rfl) (by rfl) HO.out (by omega) hb.size ?_; intro v9 w9 o9 q9; obtain ⟨o9, b9⟩ := HFIN.out v9 w9 (by rw [← HFF.out]; exact o9) q9; clear q9; obtain ⟨gd, cd, rfl, hg1, hg2⟩ := World.ownsRow.form o9 hF1; have O9 := Lib.hid o9; clear o9)
          go_loopw [7, 6] (fun i u wq => ∃ (k : Nat), i = .int .i64 ((k : Int) - 1) ∧ k ≤ F.length ∧ OwnB w9.heap.size wq u (F.drop k).reverse ∧ Below w9.heap.size w9 wq) (fun i _ _ => (intOf i + 1).toNat)
          case atStart => exact ⟨F.length, rfl, Nat.le_refl _, by rw [List.drop_length]; exact own_empty _ _ _ _ (Nat.le_refl _), by go_grown⟩
          case round =>
            obtain ⟨k, rfl, hk, ho, hb⟩ := hrel
            obtain ⟨au, pu, rfl⟩ := own_shape ho
            by_cases hp : 0 < k
            · have t1 : decide ((0 : Int) ≤ (k : Int) - 1) = true := decide_eq_true (by omega)
              have t2 : decide ((1 : Int) ≤ (k : Int)) = true := decide_eq_true (by omega)
              have hlt : k - 1 < F.length := by omega
              have hc := below_cell hb ((World.ownsRow.cellAt O9.out (k - 1) (by omega)).trans (bcells_at hlt))
              have hix := ix (P := Tryd.prog) (T := 125) (sz := 1) (n := F.length) (cap := cd) Tryd.underlying125 (by kernel_rfl) (by kernel_rfl) (ao := some ⟨gd, 0, none⟩) (b := gd) (off := 0) (fun _ => rfl) (k := k - 1) (by omega) ((k : Int) - 1) (by omega)
              rw [Nat.mul_one, Nat.zero_add] at hix
              have hst : (F.drop k).reverse ++ [F.getD (k - 1) 0] = (F.drop (k - 1)).reverse := by rw [List.drop_eq_getElem_cons hlt, show k - 1 + 1 = k by omega, List.reverse_cons]; simp [List.getD, hlt]
              have hlq : (F.drop k).reverse.length ≤ 1000000 := by simp; omega
              have hfin : ∀ v' w', OwnB w9.heap.size w' v' ((F.drop k).reverse ++ [F.getD (k - 1) 0]) → Only (fun b => (Value.slice au (F.drop k).reverse.length pu).ownBlock = some b) wr w' → OwnB w9.heap.size w' v' (F.drop (k - 1)).reverse ∧ Below w9.heap.size w9 w' := fun v' w' o q => ⟨by rw [← hst]; exact o, Only.below hb q hb.size (fun b e => own_lo ho b e)⟩
              have hcast : ((k - 1 : Nat) : Int) = (k : Int) - 1 := by omega
              have HFIN := Lib.hid hfin; clear hfin
              have HO := Lib.hid ho; clear ho
              have HST := Lib.hid hst; clear hst
              have HC := Lib.hid hcast; clear hcast
              generalize F.getD (k - 1) 0 = z at *
              go_wp2_with (at_builtin; refine app_B (.tmp 41) (.tmp 46) _ w9.heap.size _ (F.drop k).reverse z (by rfl) (by rfl) (by rfl) (by rfl) HO.out hlq hb.size ?_; intro v8 w8 o8 q8; obtain ⟨o8, b8⟩ := HFIN.out v8 w8 o8 q8; clear q8; have O8 := Lib.hid o8; clear o8)
              go_roundw
              case rel => exact ⟨k - 1, by rw [HC.out], by omega, O8.out, b8⟩
              case measure => simp [intOf]; omega
            · obtain rfl : k = 0 := by omega
              obtain ⟨gu, cu, hv, hu1, hu2⟩ := World.ownsRow.form ho (by rw [List.drop_zero, List.length_reverse]; exact hF1)
              simp only [Value.slice.injEq] at hv
              obtain ⟨rfl, _, rfl⟩ := hv
              have hcv := run_convert_bytes_arg (P := Tryd.prog) wr 125 5 Tryd.underlying125 Tryd.underlying5 gu 0 (List.drop 0 F).reverse.length pu (List.drop 0 F).reverse rfl (fun i hi => by rw [Nat.zero_add]; exact (World.ownsRow.cellAt ho i (by omega)).trans (bcells_at hi)) 9 Tryd.underlying9
              have hres : strOfNums (List.drop 0 F).reverse = RES := by rw [List.drop_zero]; exact HSTR2.out
              rw [hres] at hcv
              simp only [List.drop_zero, List.length_reverse] at hcv
              clear hres
              have hbw := b9.trans (hb.mono b9.size)
              clear ho
              go_wp2
              go_returns
              exact RetB.mk rfl hbw
    · have HN := Lib.hid hn; clear hn
      have hnz : ((n : Int) == 0) = false := beq_eq_false_iff_ne.2 hz
      go_enter Tryd.func91, Tryd.ntmps91
      go_wp2_with fail
      go_loopw [4, 3] (fun m v wr => ∃ (a : Nat) (ds : List Int), m = .int .i64 (a : Int) ∧ a ≤ 9223372036854775808 ∧ ds.length ≤ 21 ∧ OwnB w.heap.size wr v ds ∧ ds ++ rdg a = RD ∧ Below w.heap.size w wr) (fun m _ _ => (intOf m).natAbs)
      case atStart => exact ⟨A, [], by rw [HN.out], hA2, by simp, own_empty _ _ _ _ (Nat.le_refl _), HRD.out, by go_grown⟩
      case round =>
        obtain ⟨a, ds, rfl, ha, hdl, ho, hr, hb⟩ := hrel
        obtain ⟨ad, pd, rfl⟩ := own_shape ho
        by_cases hp : 0 < a
        · have t1 : (((a : Int) : Int) == 0) = false := beq_eq_false_iff_ne.2 (by omega)
          have t1' : decide (a = 0) = false := decide_eq_false (by omega)
          rw [rdg_step hp] at hr
          have hcast : ((48 + a % 10 : Nat) : Int) = 48 + ((a % 10 : Nat) : Int) := by push_cast; rfl
          rw [hcast] at hr
          have hm0 : a % 10 ≤ 9 := by omega
          have et : (a : Int) % 10 = ((a % 10 : Nat) : Int) := by push_cast; rfl
          have eq : (a : Int) / 10 = ((a / 10 : Nat) : Int) := by push_cast; rfl
          have hlr : ds.length + 1 ≤ 21 := by have := congrArg List.length hr; simp at this; omega
          have hfin : ∀ v' w', OwnB w.heap.size w' v' (ds ++ [48 + ((a % 10 : Nat) : Int)]) → Only (fun b => (Value.slice ad ds.length pd).ownBlock = some b) wr w' → OwnB w.heap.size w' v' (ds ++ [48 + ((a % 10 : Nat) : Int)]) ∧ Below w.heap.size w w' := fun v' w' o q => ⟨o, Only.below hb q hb.size (fun b e => own_lo ho b e)⟩
          have ha2 : a / 10 ≤ 9223372036854775808 := by omega
          have hmeas : a / 10 < a := Nat.div_lt_self hp (by decide)
          generalize a % 10 = d at *
          generalize hQ : a / 10 = a' at *
          have HQ := Lib.hid hQ; clear hQ
          have HR := Lib.hid hr; clear hr
          have HC := Lib.hid hcast; clear hcast
          have HFIN := Lib.hid hfin; clear hfin
          have HO := Lib.hid ho; clear ho
          have td : decide ((d : Int) < 0) = false := by simp
          go_wp2_with (at_builtin; refine app_B (.tmp 22) (.tmp 26) _ w.heap.size _ ds (48 + (d : Int)) (by rfl) (by rfl) (by rfl) (by rfl) HO.out (by omega) hb.size ?_; intro v9 w9 o9 q9; obtain ⟨o9, b9⟩ := HFIN.out v9 w9 o9 q9; clear q9; have O9 := Lib.hid o9; clear o9)
          go_roundw
          case rel => exact ⟨a', _, rfl, by omega, by simpa using hlr, O9.out, by rw [← HR.out]; simp, b9⟩
          case measure => simp [intOf]; omega
        · obtain rfl : a = 0 := by omega
          rw [rdg_zero, List.append_nil] at hr
          subst hr
          have hstr := HSTR.out
          rw [if_neg (by omega), List.append_nil] at hstr
          rw [show ((0 : Nat) : Int) = 0 from rfl]
          have b9 := hb
          have o9 := ho
          have hFl : ds.length ≤ 22 := by omega
          have hnn : decide (n < 0) = false := decide_eq_false (by omega)
          obtain ⟨gd, cd, hv9, hg1, hg2⟩ := World.ownsRow.form o9 hpos
          simp only [Value.slice.injEq] at hv9
          obtain ⟨rfl, _, rfl⟩ := hv9
          have O9 := Lib.hid o9; clear o9
          have HSTR2 := Lib.hid hstr; clear hstr
          clear HRD HSTR hlen ho
          generalize wr = w9 at *
          go_wp2_with fail
          go_loopw [7, 6] (fun i u wq => ∃ (k : Nat), i = .int .i64 ((k : Int) - 1) ∧ k ≤ ds.length ∧ OwnB w9.heap.size wq u (ds.drop k).reverse ∧ Below w9.heap.size w9 wq) (fun i _ _ => (intOf i + 1).toNat)
          case atStart => exact ⟨ds.length, rfl, Nat.le_refl _, by rw [List.drop_length]; exact own_empty _ _ _ _ (Nat.le_refl _), by go_grown⟩
          case round =>
            obtain ⟨k, rfl, hk, ho, hb⟩ := hrel
            obtain ⟨au, pu, rfl⟩ := own_shape ho
            by_cases hp : 0 < k
            · have t1 : decide ((0 : Int) ≤ (k : Int) - 1) = true := decide_eq_true (by omega)
              have t2 : decide ((1 : Int) ≤ (k : Int)) = true := decide_eq_true (by omega)
              have hlt : k - 1 < ds.length := by omega
              have hc := below_cell hb ((World.ownsRow.cellAt O9.out (k - 1) (by omega)).trans (bcells_at hlt))
              have hix := ix (P := Tryd.prog) (T := 125) (sz := 1) (n := ds.length) (cap := pd) Tryd.underlying125 (by kernel_rfl) (by kernel_rfl) (ao := some ⟨gd, 0, none⟩) (b := gd) (off := 0) (fun _ => rfl) (k := k - 1) (by omega) ((k : Int) - 1) (by omega)
              rw [Nat.mul_one, Nat.zero_add] at hix
              have hst : (ds.drop k).reverse ++ [ds.getD (k - 1) 0] = (ds.drop (k - 1)).reverse := by rw [List.drop_eq_getElem_cons hlt, show k - 1 + 1 = k by omega, List.reverse_cons]; simp [List.getD, hlt]
              have hlq : (ds.drop k).reverse.length ≤ 1000000 := by simp; omega
              have hfin : ∀ v' w', OwnB w9.heap.size w' v' ((ds.drop k).reverse ++ [ds.getD (k - 1) 0]) → Only (fun b => (Value.slice au (ds.drop k).reverse.length pu).ownBlock = some b) wr w' → OwnB w9.heap.size w' v' (ds.drop (k - 1)).reverse ∧ Below w9.heap.size w9 w' := fun v' w' o q => ⟨by rw [← hst]; exact o, Only.below hb q hb.size (fun b e => own_lo ho b e)⟩
              have hcast : ((k - 1 : Nat) : Int) = (k : Int) - 1 := by omega
              have HFIN := Lib.hid hfin; clear hfin
              have HO := Lib.hid ho; clear ho
              have HST := Lib.hid hst; clear hst
              have HC := Lib.hid hcast; clear hcast
              generalize ds.getD (k - 1) 0 = z at *
              go_wp2_with (at_builtin; refine app_B (.tmp 41) (.tmp 46) _ w9.heap.size _ (ds.drop k).reverse z (by rfl) (by rfl) (by rfl) (by rfl) HO.out hlq hb.size ?_; intro v8 w8 o8 q8; obtain ⟨o8, b8⟩ := HFIN.out v8 w8 o8 q8; clear q8; have O8 := Lib.hid o8; clear o8)
              go_roundw
              case rel => exact ⟨k - 1, by rw [HC.out], by omega, O8.out, b8⟩
              case measure => simp [intOf]; omega
            · obtain rfl : k = 0 := by omega
              obtain ⟨gu, cu, hv, hu1, hu2⟩ := World.ownsRow.form ho (by rw [List.drop_zero, List.length_reverse]; exact hpos)
              simp only [Value.slice.injEq] at hv
              obtain ⟨rfl, _, rfl⟩ := hv
              have hcv := run_convert_bytes_arg (P := Tryd.prog) wr 125 5 Tryd.underlying125 Tryd.underlying5 gu 0 (List.drop 0 ds).reverse.length pu (List.drop 0 ds).reverse rfl (fun i hi => by rw [Nat.zero_add]; exact (World.ownsRow.cellAt ho i (by omega)).trans (bcells_at hi)) 9 Tryd.underlying9
              have hres : strOfNums (List.drop 0 ds).reverse = RES := by rw [List.drop_zero]; exact HSTR2.out
              rw [hres] at hcv
              simp only [List.drop_zero, List.length_reverse] at hcv
              clear hres
              have hbw := b9.trans (hb.mono b9.size)
              clear ho
              go_wp2
              go_returns
              exact RetB.mk rfl hbw

end Go.Proofs.YtgdadbmhdljcdaaDoor

/- Texts put together: the plain words, and lists of texts of one's own. -/
namespace Go.Proofs.YtgdadbmhdljcdaaDoor
set_option linter.unusedVariables false
open Go.RowKit Go.Proofs.Bell Go.BigFrame

def str (l : List UInt8) : ByteArray := ⟨l.toArray⟩
theorem str_app (a b : List UInt8) : str a ++ str b = str (a ++ b) := by
  simp [str, ByteArray.append_eq]
  rfl
theorem str_size (l : List UInt8) : (str l).size = l.length := by simp [str, ByteArray.size]
theorem decB_str (n : Int) : decB n = str (Lib.itoa n) := rfl
theorem join_snoc (xs : List (List UInt8)) (y sep : List UInt8) : Lib.join (xs ++ [y]) sep = if xs = [] then y else Lib.join xs sep ++ sep ++ y := by
  cases xs with
  | nil => simp [Lib.join_one]
  | cons x r =>
    rw [List.cons_append, Lib.join_cons, Lib.join_cons, if_neg (by simp)]
    simp [Lib.joinTail]
def scells (ss : List ByteArray) : List Value := ss.map .string
theorem scells_at {ss : List ByteArray} {k : Nat} (h : k < ss.length) : (scells ss)[k]? = some (.string (ss.getD k ⟨#[]⟩)) := by simp [scells, List.getD, h]
def OwnW (base : Nat) (w : World) (v : Value) (ss : List ByteArray) : Prop := w.ownsRow base 9 1 v ss.length (scells ss)
theorem info_string : (Tryd.prog.info? 9).map (fun i => (i.zero, i.size, i.bytes)) = some (some (.string ⟨#[]⟩), 1, 16) := by kernel_rfl
theorem app_W {ops : Array Oper} {rest : List Oper} {o : Oper} {a : Act} {Q : Exit → Act → World → Prop} (s x : Operand) (W : World) (base : Nat) (v : Value) (qs : List ByteArray) (p : ByteArray)
    (ho : o.op = .call { callee := .builtin .append, args := #[s, x], argTypes := #[70, 70] }) (hgd : o.guard = none)
    (hs : a.eval s = v) (hx : a.eval x = .slice (some ⟨W.heap.size, 0, none⟩) 1 1) (hown : OwnW base W v qs) (hn : qs.length ≤ 1000000) (hbase : base ≤ W.heap.size)
    (h : ∀ v' w', OwnW base w' v' (qs ++ [p]) → Only (fun b => v.ownBlock = some b) W w' → wpList Tryd.prog ops Q rest (a.put o.dst v') w') :
    wpList Tryd.prog ops Q (o :: rest) a (W.alloc (.cells #[.string p] 9)) := by
  obtain ⟨i0, hi, hz0, hz1, hz2⟩ := info_parts info_string
  exact app1 s x 70 base 9 i0 _ 1 16 Tryd.underlying70 hi hz0 hz1 hz2 rfl (by decide) (by decide) W v qs.length (scells qs) _ rfl rfl ho hgd hs hx hown hn hbase
    (fun v' w' h1 h2 => h v' w' (by unfold OwnW; simpa [scells] using h1) h2)

/-- a list of texts, joined -/
theorem Join_c (base : Nat) (v : Value) (xs : List (List UInt8)) (sep : ByteArray) (w : World) (ho : OwnW base w v (xs.map str)) (h1 : 1 ≤ xs.length) (hl : xs.length ≤ 1000000) (hlen : (Lib.join xs sep.data.toList).length ≤ 1000000000) :
    Calls Tryd.prog 58 #[v, .string sep] w (RetB (.string (str (Lib.join xs sep.data.toList))) w) := by
  obtain ⟨g, c, rfl, hg1, hg2⟩ := World.ownsRow.form ho (by rw [List.length_map]; exact h1)
  have hm : (xs.map str).map (·.data.toList) = xs := by rw [List.map_map]; conv => rhs; rw [← List.map_id xs]
                                                        apply List.map_congr_left; intro x _; simp [str]
  have hcap : (xs.map str).length ≤ c := by
    obtain ⟨_, h⟩ := ho
    rcases h with ⟨h, _⟩ | ⟨g', cap, cur, hv, _, _, hn, _⟩
    · cases h
    · injection hv with e1 e2 e3; subst e3; exact hn
  have := Tryd.strings_Join g 0 c (xs.map str) sep w (fun j x hx => by
    rw [Nat.zero_add]
    have hj : j < (xs.map str).length := (List.getElem?_eq_some_iff.1 hx).1
    rw [World.ownsRow.cellAt ho j (by omega), scells, List.getElem?_map, hx]; rfl) hg2 (by simp; omega) hcap (by rw [hm]; omega)
  rw [hm] at this
  exact this.mono fun e w' ⟨h1, h2⟩ => ⟨h1, h2⟩

end Go.Proofs.YtgdadbmhdljcdaaDoor

