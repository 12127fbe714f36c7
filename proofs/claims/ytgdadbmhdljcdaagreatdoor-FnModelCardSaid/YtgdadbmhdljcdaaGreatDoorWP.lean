/- Several texts of the proofs in one: TxtC, TxtD. -/
import Derived.Test.YtgdadbmhdljcdaaGreatDoorGC
import Derived.Test.YtgdadbmhdljcdaaGreatDoorGG
import Derived.Test.YtgdadbmhdljcdaaGreatDoorTH
import Derived.Test.YtgdadbmhdljcdaaGreatDoorVA
import Derived.BigQuiet
import Derived.Deep.RegionLaw
/- Cuts as texts: the reference. -/
namespace Go.Proofs.YtgdadbmhdljcdaaGreatDoor
set_option linter.unusedVariables false
open Go.RowKit Go.Proofs.Bell Go.BigFrame

def cutT (p : Int × Int) : List UInt8 := Lib.itoa p.1 ++ [120] ++ Lib.itoa p.2
def cutsT (ps : List (Int × Int)) : List UInt8 := if ps = [] then [45] else Lib.join (ps.map cutT) [44]
def outJ (ps : List (Int × Int)) (k : Nat) : List UInt8 := Lib.join ((ps.take k).map cutT) [44]
theorem outJ_zero (ps : List (Int × Int)) : outJ ps 0 = [] := rfl
theorem outJ_step {ps : List (Int × Int)} {k : Nat} (h : k < ps.length) : outJ ps (k + 1) = if k = 0 then cutT ps[k] else outJ ps k ++ [44] ++ cutT ps[k] := by
  unfold outJ
  rw [List.take_succ_eq_append_getElem h, List.map_append, List.map_cons, List.map_nil, join_snoc]
  by_cases h0 : k = 0
  · subst h0; simp
  · rw [if_neg h0, if_neg (fun e => by have := congrArg List.length e; rw [List.length_map, List.length_take, List.length_nil] at this; omega)]
theorem outJ_end {ps : List (Int × Int)} (h : 1 ≤ ps.length) : cutsT ps = outJ ps ps.length := by
  unfold cutsT outJ
  rw [List.take_length, if_neg (by rintro rfl; simp at h)]
def I64s (n : Int) : Prop := -9223372036854775808 ≤ n ∧ n ≤ 9223372036854775807
theorem cutT_len {p : Int × Int} (h1 : I64s p.1) (h2 : I64s p.2) : 1 ≤ (cutT p).length ∧ (cutT p).length ≤ 43 := by
  have a := Lib.itoa_length_le p.1 h1.1 h1.2
  have b := Lib.itoa_length_le p.2 h2.1 h2.2
  unfold cutT
  simp; omega
theorem outJ_len {ps : List (Int × Int)} (h : ∀ p ∈ ps, I64s p.1 ∧ I64s p.2) : ∀ k, k ≤ ps.length → (outJ ps k).length ≤ 44 * k
  | 0, _ => by simp [outJ_zero]
  | k + 1, hk => by
    have ih := outJ_len h k (by omega)
    have hp := h ps[k] (List.getElem_mem (by omega))
    have hc := cutT_len hp.1 hp.2
    rw [outJ_step (by omega)]
    split
    · omega
    · simp; omega
theorem outJ_pos {ps : List (Int × Int)} (h : ∀ p ∈ ps, I64s p.1 ∧ I64s p.2) {k : Nat} (h1 : 1 ≤ k) (hk : k ≤ ps.length) : outJ ps k ≠ [] := by
  obtain ⟨k, rfl⟩ : ∃ j, k = j + 1 := ⟨k - 1, by omega⟩
  have hp := h ps[k] (List.getElem_mem (by omega))
  have hc := cutT_len hp.1 hp.2
  rw [outJ_step (by omega)]
  intro e
  have := congrArg List.length e
  rw [List.length_nil] at this
  split at this
  · omega
  · simp at this

end Go.Proofs.YtgdadbmhdljcdaaGreatDoor

/- Cuts as texts: both functions. -/
namespace Go.Proofs.YtgdadbmhdljcdaaGreatDoor
set_option linter.unusedVariables false
open Go.RowKit Go.Proofs.Bell Go.BigFrame

def cutsTI (ps : List (Int × Int)) : ByteArray := if cutsB ps then str (cutsT ps) else ⟨#[]⟩
theorem cutsB_I {ps : List (Int × Int)} (h : cutsB ps = true) : (∀ p ∈ ps, I64s p.1 ∧ I64s p.2) ∧ ps.length ≤ 64 := by
  simp only [cutsB, Bool.and_eq_true, decide_eq_true_eq, List.all_eq_true] at h
  refine ⟨fun p hp => ?_, h.2⟩
  have := h.1 p hp
  simp only [cutB, Bool.and_eq_true] at this
  have a := inB_t this.1
  have b := inB_t this.2
  unfold I64s
  omega

set_option maxRecDepth 1000000 in
set_option maxHeartbeats 3200000 in
theorem implCutsText_c (v : Value) (ps : List (Int × Int)) (w : World) (h : Rd w v ps.length (pairs ps)) (htab : Tab w) : Calls Tryz.prog 38 #[v] w (RetB (.string (cutsTI ps)) w) := by
  have hv := ValidCuts_c v ps w h
  cases t0 : cutsB ps <;> rw [t0] at hv
  · have he : cutsTI ps = ⟨#[]⟩ := by simp [cutsTI, t0]
    rw [he]
    have HV := Lib.hid hv; clear hv
    clear he h htab
    go_enter Tryz.func38, Tryz.ntmps38
    go_wp2_with fail
    refine HV.out.mono ?_
    rintro _ w1 ⟨rfl, b1⟩
    go_wp2
    go_returns
    exact RetB.mk rfl b1
  · obtain ⟨hI, hl⟩ := cutsB_I t0
    have hgo := fun w' (hb : Below w.heap.size w w') => h.later hb
    obtain ⟨hn, ao, cap, bb, off, rfl, hao, hcell⟩ := h.open
    rcases Nat.eq_zero_or_pos ps.length with hz | hz
    · have he : cutsTI ps = ⟨#[45]⟩ := by
        obtain rfl : ps = [] := List.eq_nil_of_length_eq_zero hz
        simp [cutsTI, t0, cutsT, str]
      rw [he]
      rw [hz] at hv ⊢
      have HV := Lib.hid hv; clear hv
      clear he hgo htab hcell hao
      go_enter Tryz.func38, Tryz.ntmps38
      go_wp2_with fail
      refine HV.out.mono ?_
      rintro _ w1 ⟨rfl, b1⟩
      go_wp2
      go_returns
      exact RetB.mk rfl b1
    · obtain rfl : ao = some ⟨bb, off, none⟩ := hao hz
      have he : cutsTI ps = str (Lib.join (ps.map cutT) [44]) := by
        simp only [cutsTI, t0, if_true, cutsT]
        rw [if_neg (by rintro rfl; simp at hz)]
      rw [he]
      have hjl : (Lib.join (ps.map cutT) [44]).length ≤ 1000000 := by
        have := outJ_len hI ps.length (Nat.le_refl _)
        unfold outJ at this
        rw [List.take_length] at this
        omega
      have hc0 := fun wr (hb : Below w.heap.size w wr) k (hk : k < ps.length) => hcell wr hb (k * 2) _ (by omega) (pairs_at hk).1
      have hc1 := fun wr (hb : Below w.heap.size w wr) k (hk : k < ps.length) => hcell wr hb (k * 2 + 1) _ (by omega) (pairs_at hk).2
      have hel := fun k (hk : k < ps.length) => hI ps[k] (List.getElem_mem hk)
      have htk := fun k (hk : k < ps.length) => (show ((ps.take k).map cutT).map str ++ [str (cutT ps[k])] = ((ps.take (k + 1)).map cutT).map str by rw [List.take_succ_eq_append_getElem hk, List.map_append, List.map_append]; rfl)
      have htl : ∀ k, k ≤ ps.length → (((ps.take k).map cutT).map str).length = k := fun k hk => by simp; omega
      have hjo := fun v' w' (ho : OwnW w.heap.size w' v' ((ps.map cutT).map str)) => Join_c w.heap.size v' (ps.map cutT) ⟨#[44]⟩ w' ho (by rw [List.length_map]; exact hz) (by rw [List.length_map]; omega) (by show (Lib.join (ps.map cutT) [44]).length ≤ _; omega)
      have hend : ((ps.take ps.length).map cutT).map str = (ps.map cutT).map str := by rw [List.take_length]
      generalize hRES : str (Lib.join (ps.map cutT) [44]) = RES at *
      have hjo := fun v' w' (ho : OwnW w.heap.size w' v' ((ps.map cutT).map str)) => (show RetB (.string (str (Lib.join (ps.map cutT) (⟨#[44]⟩ : ByteArray).data.toList))) w' = RetB (.string RES) w' by rw [← hRES]) ▸ hjo v' w' ho
      have hne : ((ps.length : Int) == 0) = false := beq_eq_false_iff_ne.2 (by omega)
      have HV := Lib.hid hv; clear hv
      have HC0 := Lib.hid hc0; clear hc0
      have HC1 := Lib.hid hc1; clear hc1
      have HEL := Lib.hid hel; clear hel
      have HTK := Lib.hid htk; clear htk
      have HTL := Lib.hid htl; clear htl
      have HJO := Lib.hid hjo; clear hjo
      have HEND := Lib.hid hend; clear hend
      have HTAB := Lib.hid htab; clear htab
      have HRES := Lib.hid hRES; clear hRES
      clear he hcell hgo hjl hI
      go_enter Tryz.func38, Tryz.ntmps38
      go_wp2_with fail
      refine HV.out.mono ?_
      rintro _ w1 ⟨rfl, b1⟩
      go_wp2_with fail
      go_loopw [14, 3] (fun i u wr => ∃ (k : Nat), k ≤ ps.length ∧ i = .int .i64 k ∧ OwnW w.heap.size wr u (((ps.take k).map cutT).map str) ∧ Below w.heap.size w wr) (fun i _ _ => ps.length - (intOf i).toNat)
      case atStart => exact ⟨0, Nat.zero_le _, rfl, World.ownsRow_nil _ _ _ _, b1⟩
      case round =>
        obtain ⟨k, hk, rfl, ho, hb⟩ := hrel
        have hlk := HTL.out k hk
        have hlo := own_lo ho
        obtain ⟨au, pu, hu⟩ := own_shape ho
        subst hu
        rw [hlk]
        have HO := Lib.hid ho; clear ho
        have LO := Lib.hid hlo; clear hlo
        by_cases hlt : k < ps.length
        · have hix := ix (P := Tryz.prog) (T := 65) (n := ps.length) (cap := cap) Tryz.underlying65 cells_Cut has_Cut (ao := some ⟨bb, off, none⟩) (b := bb) (off := off) (fun _ => rfl) (k := k) hlt _ rfl
          have c0 := HC0.out wr hb k hlt
          have c1 := HC1.out wr hb k hlt
          have hi := HEL.out k hlt
          have hi0 := hi.1
          have hi1 := hi.2
          have l0 := Lib.itoa_length_le (ps[k]).1 hi0.1 hi0.2
          have l1 := Lib.itoa_length_le (ps[k]).2 hi1.1 hi1.2
          have hs := HTK.out k hlt
          rw [show cutT ps[k] = Lib.itoa (ps[k]).1 ++ [120] ++ Lib.itoa (ps[k]).2 from rfl] at hs
          rw [← Nat.add_assoc] at c1
          generalize (ps[k]).1 = z at *
          generalize (ps[k]).2 = y at *
          have hst0 := str_size (Lib.itoa z)
          have hst1 := str_size (Lib.itoa y)
          rw [← decB_str] at hst0 hst1
          have hEq : decB z ++ ⟨#[120]⟩ ++ decB y = str (Lib.itoa z ++ [120] ++ Lib.itoa y) := by
            rw [decB_str, decB_str, show (⟨#[120]⟩ : ByteArray) = str [120] from rfl, str_app, str_app]
          rw [← hEq] at hs
          have hfin : ∀ W v' w', Below wr.heap.size wr W → OwnW w.heap.size w' v' (((ps.take k).map cutT).map str ++ [decB z ++ ⟨#[120]⟩ ++ decB y]) → Only (fun b => (Value.slice au (((ps.take k).map cutT).map str).length pu).ownBlock = some b) W w' → OwnW w.heap.size w' v' (((ps.take (k + 1)).map cutT).map str) ∧ Below w.heap.size w w' := fun W v' w' hW o q =>
            ⟨by rw [← hs]; exact o, Only.below (hb.trans (hW.mono hb.size)) q (Nat.le_trans hb.size hW.size) (fun b e => LO.out b e)⟩
          have hd : ∀ (s : Lat wr) (x : Int), I64s x → Calls Tryz.prog 46 #[.int .i64 x] s.world (RetB (.string (decB x)) s.world) := fun s x h => Decimal_c x h.1 h.2 s.world (HTAB.out.later (hb.trans (s.below.mono hb.size)))
          have h120 : (⟨#[120]⟩ : ByteArray).size = 1 := rfl
          have z1 : (decB z).size + (⟨#[120]⟩ : ByteArray).size ≤ 9223372036854775807 := by omega
          have z2 : (decB z ++ ⟨#[120]⟩).size + (decB y).size ≤ 9223372036854775807 := by rw [ByteArray.size_append]; omega
          have n1 : ((decB z).size : Int) + ((⟨#[120]⟩ : ByteArray).size : Int) ≤ 9223372036854775807 := by omega
          have n2 : ((decB z).size : Int) + 1 ≤ 9223372036854775807 := by omega
          have n3 : ((decB z ++ ⟨#[120]⟩).size : Int) + ((decB y).size : Int) ≤ 9223372036854775807 := by omega
          have n4 : ((decB z).size : Int) < 9223372036854775807 := by omega
          have n5 : ((decB z).size : Int) + 1 + ((decB y).size : Int) ≤ 9223372036854775807 := by omega
          clear h120
          have HD := Lib.hid hd; clear hd
          have HI0 := Lib.hid hi0; clear hi0
          have HI1 := Lib.hid hi1; clear hi1
          have HFIN := Lib.hid hfin; clear hfin
          clear hs hEq hst0 hst1 l0 l1 hi
          go_wp2_with fail
          have f0 : ∀ s : Lat (wr.alloc (.cells #[.int .i64 z, .int .i64 y] 74)), s.world.cell? ⟨wr.heap.size, 0, none⟩ = some (.int .i64 z) := fun s => s.cell (by simp [go_sem])
          have f1 : ∀ s : Lat (wr.alloc (.cells #[.int .i64 z, .int .i64 y] 74)), s.world.cell? ⟨wr.heap.size, 1, none⟩ = some (.int .i64 y) := fun s => s.cell (by simp [go_sem])
          have hd2 : ∀ (s : Lat (wr.alloc (.cells #[.int .i64 z, .int .i64 y] 74))) (x : Int), I64s x → Calls Tryz.prog 46 #[.int .i64 x] s.world (RetB (.string (decB x)) s.world) := fun s x h => HD.out ⟨s.world, Below.trans (by go_grown) (s.below.mono (by simp))⟩ x h
          have hbA : Below wr.heap.size wr (wr.alloc (.cells #[.int .i64 z, .int .i64 y] 74)) := by go_grown
          have HD2 := Lib.hid hd2; clear hd2
          generalize wr.alloc (.cells #[.int .i64 z, .int .i64 y] 74) = W1 at *
          refine wp_region_any (by kernel_rfl) ?_
          refine wpAny_take (i := 0) (v := _) rfl (by kernel_rfl) (by kernel_rfl) (by kernel_rfl) (fun _ _ _ h => h) (.inl ⟨rfl, fun _ => rfl⟩) ?_
          refine wpAny_pick (C := fun w' => ∃ s : Lat W1, w' = s.world) 9 [0] [1, 2, 3, 4, 5, 6, 7, 8] [9, 10, 11] (by kernel_rfl) (by kernel_rfl) (by kernel_rfl) ⟨⟨W1.drew, (Below.refl _ _).drew⟩, rfl⟩ ?_
          simp only [List.filterMap_cons, List.filterMap_nil, List.getElem?_cons_zero, List.getElem?_cons_succ, Act.put, List.setIfInBounds_toArray, List.set_cons_zero, List.set_cons_succ]
          show wpQuiet _ _ _ _ (_ :: _ :: _ :: _ :: _ :: _ :: _ :: _ :: []) _
          quiet_step (fail)
          repeat (go_big_quiet_step (first | (go_at_call 46; exact Lat.callB (HD2.out _ _ (by first | exact HI0.out | exact HI1.out)))))
          refine wpQuiet_nil ?_
          rintro _ ⟨s, rfl⟩
          have sb := hbA.trans (s.below.mono hbA.size)
          have b5 := hb.trans (sb.mono hb.size)
          have o5 := own_later HO.out sb
          generalize s.world = W9 at *
          have O5 := Lib.hid o5; clear o5
          clear f0 f1 z1 z2 n1 n2 n3 n4 n5
          refine wpList_step ?_
          intro K hK
          go_simp
          refine hK _ _ ?_
          refine app_W (.tmp 18) (.tmp 27) _ _ _ _ _ (by rfl) (by rfl) (by rw [hlk]; rfl) (by rfl) O5.out (by omega) b5.size ?_
          intro v2 w9 o9 q9
          have hf := HFIN.out W9 v2 w9 sb o9 q9
          have HF := Lib.hid hf; clear hf
          clear o9 q9
          go_wp2
          go_roundw
          case rel => exact ⟨k + 1, by omega, by go_num, HF.out.1, HF.out.2⟩
          case measure => simp [intOf]; omega
        · obtain rfl : k = ps.length := by omega
          have ho := HO.out
          rw [HEND.out, ← HEND.out, hlk, HEND.out] at ho
          have hj := HJO.out _ wr ho
          have HJ := Lib.hid hj; clear hj
          go_wp2_with fail
          refine HJ.out.mono ?_
          rintro _ w2 ⟨rfl, r2⟩
          go_wp2
          go_returns
          exact RetB.mk (congrArg Value.string HRES.out) (hb.trans (r2.mono hb.size))

end Go.Proofs.YtgdadbmhdljcdaaGreatDoor

