/- Several texts of the proofs in one: TxtRd, TxtRi, TxtLb. -/
import Derived.Test.YtgdadbmhdljcdaaGreatDoorGG
import Derived.Test.YtgdadbmhdljcdaaGreatDoorTA
import Derived.Test.YtgdadbmhdljcdaaGreatDoorTB
import Derived.Test.YtgdadbmhdljcdaaGreatDoorTD
import Derived.Test.YtgdadbmhdljcdaaGreatDoorTxtRa
import Derived.Test.YtgdadbmhdljcdaaGreatDoorTxtW
import Derived.Test.YtgdadbmhdljcdaaGreatDoorWP
/- Numbers read from texts: the program's ReadDecimal. -/
namespace Go.Proofs.YtgdadbmhdljcdaaGreatDoor
set_option linter.unusedVariables false
open Go.RowKit Go.Proofs.Bell Go.BigFrame

theorem Trim_c (s : ByteArray) (w : World) : Calls Tryz.prog 103 #[.string s, .string ⟨#[45]⟩] w (RetS (.string (str (unsg (byteL s)))) w) := by
  have h := Tryz.strings_TrimPrefix s ⟨#[45]⟩ w
  rw [show (⟨#[45]⟩ : ByteArray).data.toList = [45] from rfl, show s.data.toList = byteL s from rfl, trim_unsg] at h
  exact h.mono fun e w' ⟨h1, h2⟩ => ⟨h1, h2.symm⟩
theorem numF_long {l : List UInt8} (h : (unsg l).length = 0 ∨ 18 < (unsg l).length) : numF l = none := by
  unfold numF
  rw [if_pos (by omega)]

set_option maxRecDepth 1000000 in
set_option maxHeartbeats 1600000 in
theorem ReadDecimal_c (s : ByteArray) (w : World) (hs : s.size ≤ 2000000) (hr : RTab w) :
    Calls Tryz.prog 44 #[.string s] w (RetB (.tuple #[.int .i64 ((numF (byteL s)).getD 0), .bool (numF (byteL s)).isSome]) w) := by
  have ht := Trim_c s w
  have hp := Parse_c s w hs hr
  have hN := str_size (unsg (byteL s))
  by_cases c1 : (unsg (byteL s)).length = 0
  · rw [numF_long (.inl c1)]
    rw [c1] at hN
    have hq : decide ((0 : Int) < 1) = true := rfl
    clear hp c1
    generalize str (unsg (byteL s)) = D at *
    have HT := Lib.hid ht; clear ht
    go_enter Tryz.func44, Tryz.ntmps44
    go_wp2_with fail
    refine HT.out.mono ?_
    rintro _ _ ⟨rfl, rfl⟩
    go_wp2
    go_returns
    exact RetB.mk rfl (Below.refl _ _)
  · by_cases c2 : 18 < (unsg (byteL s)).length
    · rw [numF_long (.inr c2)]
      have hq1 : decide (((str (unsg (byteL s))).size : Int) < 1) = false := by rw [hN]; simp; omega
      have hq2 : decide ((18 : Int) < ((str (unsg (byteL s))).size : Int)) = true := by rw [hN]; simp; omega
      clear hp c1 c2 hN
      generalize str (unsg (byteL s)) = D at *
      have HT := Lib.hid ht; clear ht
      go_enter Tryz.func44, Tryz.ntmps44
      go_wp2_with fail
      refine HT.out.mono ?_
      rintro _ _ ⟨rfl, rfl⟩
      go_wp2
      go_returns
      exact RetB.mk rfl (Below.refl _ _)
    · have hq1 : decide (((str (unsg (byteL s))).size : Int) < 1) = false := by rw [hN]; simp; omega
      have hq2 : decide ((18 : Int) < ((str (unsg (byteL s))).size : Int)) = false := by rw [hN]; simp; omega
      have hpv : ∀ z, Lib.parseIntB 64 (byteL s) = .ok z → numF (byteL s) = if Lib.itoa z = byteL s then some z else none := fun z h => numF_of_parse h (by omega)
      have hpn : (∀ v, Lib.parseIntB 64 (byteL s) ≠ .ok v) → numF (byteL s) = none := numF_no_parse
      have hbd : ∀ z, Lib.parseIntB 64 (byteL s) = .ok z → -9223372036854775808 ≤ z ∧ z ≤ 9223372036854775807 := fun z => parse_bd
      have hde : ∀ (z : Int) w', Below w.heap.size w w' → -9223372036854775808 ≤ z ∧ z ≤ 9223372036854775807 → Calls Tryz.prog 46 #[.int .i64 z] w' (RetB (.string (decB z)) w') := fun z w' hb h => Decimal_c z h.1 h.2 w' (hr.later hb).1
      have hst : ∀ z : Int, Lib.itoa z = byteL s ↔ decB z = s := fun z => by
        rw [decB_str]
        constructor
        · intro e; rw [e, str_byteL]
        · intro e; rw [← e, byteL_str]
      clear c1 c2 hN hr
      unfold ParseR at hp
      generalize str (unsg (byteL s)) = D at *
      generalize numF (byteL s) = RES at *
      have HT := Lib.hid ht; clear ht
      have HP := Lib.hid hp; clear hp
      have HPV := Lib.hid hpv; clear hpv
      have HPN := Lib.hid hpn; clear hpn
      have HBD := Lib.hid hbd; clear hbd
      have HDE := Lib.hid hde; clear hde
      have HST := Lib.hid hst; clear hst
      go_enter Tryz.func44, Tryz.ntmps44
      go_wp2_with fail
      refine HT.out.mono ?_
      rintro _ _ ⟨rfl, rfl⟩
      go_wp2_with fail
      refine HP.out.mono ?_
      rintro _ w1 ⟨⟨n, x, rfl, ⟨hok, rfl⟩ | ⟨hno, t, p, rfl⟩⟩, b1⟩
      · have hv := HPV.out n hok
        have hd := HDE.out n w1 b1 (HBD.out n hok)
        have he := HST.out n
        by_cases c3 : decB n = s
        · rw [if_pos (he.2 c3)] at hv
          subst c3
          have HV := Lib.hid hv; clear hv
          have HD := Lib.hid hd; clear hd
          clear he hok
          go_wp2_with fail
          refine HD.out.mono ?_
          rintro _ w2 ⟨rfl, b2⟩
          go_wp2
          go_returns
          exact RetB.mk (by rw [HV.out]; rfl) (b1.trans (b2.mono b1.size))
        · rw [if_neg (fun e => c3 (he.1 e))] at hv
          have HV := Lib.hid hv; clear hv
          have HD := Lib.hid hd; clear hd
          clear he hok
          have hne : ((decB n).toList == s.toList) = false := by rw [toL_eq]; exact decide_eq_false c3
          generalize decB n = DD at *
          go_wp2_with fail
          refine HD.out.mono ?_
          rintro _ w2 ⟨rfl, b2⟩
          go_wp2
          go_returns
          exact RetB.mk (by rw [HV.out]; rfl) (b1.trans (b2.mono b1.size))
      · have hv := HPN.out hno
        have HV := Lib.hid hv; clear hv
        clear hno
        go_wp2
        go_returns
        exact RetB.mk (by rw [HV.out]; rfl) b1

end Go.Proofs.YtgdadbmhdljcdaaGreatDoor

/- Cuts read from a text: the program. -/
namespace Go.Proofs.YtgdadbmhdljcdaaGreatDoor
set_option linter.unusedVariables false
open Go.RowKit Go.Proofs.Bell Go.BigFrame

theorem cut_len (l : List UInt8) (c : UInt8) : (Lib.cut l [c]).1.length ≤ l.length ∧ (Lib.cut l [c]).2.1.length ≤ l.length := by
  unfold Lib.cut
  split <;> simp <;> omega
theorem CutS_c (s : ByteArray) (w : World) (hs : s.size ≤ 2000000) (hr : RTab w) :
    Calls Tryz.prog 96 #[.string s, .string ⟨#[120]⟩] w (RetB (.tuple #[.string (str (Lib.cut (byteL s) [120]).1), .string (str (Lib.cut (byteL s) [120]).2.1), .bool (Lib.cut (byteL s) [120]).2.2]) w) := by
  obtain ⟨_, ⟨m, hm⟩, _⟩ := hr
  refine (Tryz.strings_Cut s ⟨#[120]⟩ m w (by omega) hm).mono ?_
  rintro _ w' ⟨rfl, n, rfl⟩
  exact RetB.mk rfl (below_drewN (Below.refl _ _) _)
theorem take_map_snoc {α β : Type} (f : α → β) {xs : List α} {k : Nat} (h : k < xs.length) : (xs.take k).map f ++ [f xs[k]] = (xs.take (k + 1)).map f := by
  rw [List.take_succ_eq_append_getElem h, List.map_append]; rfl

set_option maxRecDepth 1000000 in
set_option maxHeartbeats 3200000 in
theorem implReadCuts_c (s : ByteArray) (w : World) (hs : s.size ≤ 2000000) (hrt : RTab w) :
    Calls Tryz.prog 37 #[.string s] w (RetC2 ((readC (byteL s)).getD []) (.bool (readC (byteL s)).isSome) w) := by
  by_cases c0 : s = ⟨#[45]⟩
  · subst c0
    have e : readC (byteL ⟨#[45]⟩) = some [] := rfl
    rw [e]
    clear hrt
    go_enter Tryz.func37, Tryz.ntmps37
    go_wp2
    go_returns
    exact ⟨_, rfl, World.ownsRow_nil _ _ _ _, Below.refl _ _⟩
  · have ht := dash_no c0
    have hL : byteL s ≠ [45] := fun e => c0 (by rw [← str_byteL s, e]; rfl)
    have hbl := byteL_len s
    have hsp := SplitR_c s 44 w hs hrt
    have hR := readC_I hL
    have hPl : (spl 44 (byteL s)).length ≤ 2000001 := by have := spl_len_le 44 (byteL s); omega
    have hPm : ∀ p ∈ spl 44 (byteL s), p.length ≤ 2000000 := fun p hp => by have := spl_mem_len hp; omega
    have hts : ∀ l, str l = s ↔ l = byteL s := fun l => ⟨fun e => by rw [← e, byteL_str], fun e => by rw [e, str_byteL]⟩
    have hsl : byteL s = [] ↔ s = ⟨#[]⟩ := ⟨fun e => by rw [← str_byteL s, e]; rfl, fun e => by rw [e]; rfl⟩
    generalize hRES : readC (byteL s) = RES at *
    generalize hPP : spl 44 (byteL s) = P at *
    have hcu := fun k (h : k < P.length) w' (hb : Below w.heap.size w w') => CutS_c (str P[k]) w' (by rw [str_size]; exact hPm _ (List.getElem_mem h)) (hrt.later hb)
    simp only [byteL_str] at hcu
    have hrd := fun (l : List UInt8) (h : l.length ≤ 2000000) w' (hb : Below w.heap.size w w') => ReadDecimal_c (str l) w' (by rw [str_size]; exact h) (hrt.later hb)
    simp only [byteL_str] at hrd
    have hQm : ∀ k (h : k < P.length), (Lib.cut P[k] [120]).1.length ≤ 2000000 ∧ (Lib.cut P[k] [120]).2.1.length ≤ 2000000 := fun k h => by have := cut_len P[k] 120; have := hPm _ (List.getElem_mem h); omega
    have hst : ∀ k (h : k < P.length), (P.take k).map cutI ++ [((numF (Lib.cut P[k] [120]).1).getD 0, (numF (Lib.cut P[k] [120]).2.1).getD 0)] = (P.take (k + 1)).map cutI := fun k h => take_map_snoc cutI h
    have hlt : ∀ k, k ≤ P.length → ((P.take k).map cutI).length = k := fun k h => by simp; omega
    have htake : P.take P.length = P := List.take_length
    have hcv := fun (v : Value) (qs : List (Int × Int)) w' (h : Rd w' v qs.length (pairs qs)) => ValidCuts_c v qs w' h
    have hct := fun (v : Value) (qs : List (Int × Int)) w' (h : Rd w' v qs.length (pairs qs)) (hb : Below w.heap.size w w') => implCutsText_c v qs w' h (hrt.later hb).1
    have hsc := fun k (h : k < P.length) => scells_str (ls := P) h
    have hSl : (P.map str).length = P.length := List.length_map ..
    have HSP := Lib.hid hsp; clear hsp
    have HR := Lib.hid hR; clear hR
    have HPM := Lib.hid hPm; clear hPm
    have HCU := Lib.hid hcu; clear hcu
    have HRD := Lib.hid hrd; clear hrd
    have HQM := Lib.hid hQm; clear hQm
    have HST := Lib.hid hst; clear hst
    have HLT := Lib.hid hlt; clear hlt
    have HTK := Lib.hid htake; clear htake
    have HCV := Lib.hid hcv; clear hcv
    have HCT := Lib.hid hct; clear hct
    have HSC := Lib.hid hsc; clear hsc
    have HSL := Lib.hid hSl; clear hSl
    have HTS := Lib.hid hts; clear hts
    have HSLN := Lib.hid hsl; clear hsl
    have HRES := Lib.hid hRES; clear hRES
    clear hL hbl c0 hrt hPP
    go_enter Tryz.func37, Tryz.ntmps37
    go_wp2_with fail
    refine HSP.out.mono ?_
    rintro _ w1 ⟨vp, rfl, op, bp⟩
    obtain ⟨ap, cp, gp, rfl, hap, _⟩ := own_open op
    rw [HSL.out]
    have OP := Lib.hid op; clear op
    have HAP := Lib.hid hap; clear hap
    go_wp2_with fail
    go_loopw [16, 4] (fun i v wr => ∃ (k : Nat), k ≤ P.length ∧ i = .int .i64 k ∧ OwnC w.heap.size wr v ((P.take k).map cutI) ∧ (∃ bs, OwnW bs wr (.slice ap P.length cp) (P.map str)) ∧ Below w.heap.size w wr) (fun i _ _ => P.length - (intOf i).toNat)
    case atStart => exact ⟨0, Nat.zero_le _, rfl, World.ownsRow_nil _ _ _ _, ⟨_, by have := OP.out; rw [HSL.out] at this; exact this⟩, bp⟩
    case round =>
      obtain ⟨k, hk, rfl, ho, ⟨bs, op⟩, hb⟩ := hrel
      have hql := HLT.out k hk
      by_cases hlt : k < P.length
      · have hapk : ap = some ⟨gp, 0, none⟩ := by
          have := HAP.out; rw [HSL.out] at this; exact this (by omega)
        subst hapk
        have hix := ix (P := Tryz.prog) (T := 80) (sz := 1) (n := P.length) (cap := cp) Tryz.underlying80 (by kernel_rfl) (by kernel_rfl) (ao := some ⟨gp, 0, none⟩) (b := gp) (off := 0) (fun _ => rfl) (k := k) hlt _ rfl
        rw [Nat.mul_one, Nat.zero_add] at hix
        have hc := (World.ownsRow.cellAt (by rw [← HSL.out] at op; exact op) k (by rw [HSL.out]; omega)).trans (HSC.out k hlt)
        have hs2 := HCU.out k hlt wr hb
        obtain ⟨av, pv, hv⟩ := own_shape ho
        subst hv
        have hst := HST.out k hlt
        have hqm := HQM.out k hlt
        have hb0 := hb.size
        generalize hqs : (P.take k).map cutI = qs at *
        generalize hqs2 : (P.take (k + 1)).map cutI = qs2 at *
        generalize str P[k] = SK at *
        generalize (Lib.cut P[k] [120]).1 = X at *
        generalize (Lib.cut P[k] [120]).2.1 = Y at *
        generalize (Lib.cut P[k] [120]).2.2 = Z at *
        rw [hql]
        have HO := Lib.hid ho; clear ho
        have OP2 := Lib.hid op; clear op
        have HST2 := Lib.hid hst; clear hst
        have HS2 := Lib.hid hs2; clear hs2
        have HQS := Lib.hid hqs; clear hqs
        have HQS2 := Lib.hid hqs2; clear hqs2
        clear OP HAP
        go_wp2_with fail
        refine HS2.out.mono ?_
        rintro _ w2 ⟨rfl, b2⟩
        clear hc
        go_wp2_with fail
        have bx := BoxC.new w2 74 0 0
        have b3 : Below wr.heap.size wr (w2.alloc (.cells #[.int .i64 0, .int .i64 0] 74)) := b2.trans ((show Below w2.heap.size w2 (w2.alloc (.cells #[.int .i64 0, .int .i64 0] 74)) by go_grown).mono b2.size)
        generalize hg : w2.heap.size = g at *
        generalize w2.alloc (.cells #[.int .i64 0, .int .i64 0] 74) = w3 at *
        have h3 := HRD.out X hqm.1 w3 (hb.trans (b3.mono hb0))
        refine h3.mono ?_
        rintro _ w4 ⟨rfl, b4⟩
        have bx4 := bx.later b4
        have e0 := bx4.c0
        have f0 := bx4.f 0
        have gw : wr.heap.size ≤ g := by rw [← hg]; exact b2.size
        clear h3 bx
        generalize (numF X).getD 0 = NX at *
        generalize (numF X).isSome = BX at *
        go_wp2_with fail
        have bx5 := bx4.set0 NX
        have b5 : Below wr.heap.size wr (w4.setCell ⟨g, 0, none⟩ (.int .i64 NX)) := Only.below (b3.trans (b4.mono b3.size)) (only_set w4 g 0 _) (Nat.le_trans b3.size b4.size) (fun b e => by rw [e]; exact gw)
        generalize w4.setCell ⟨g, 0, none⟩ (.int .i64 NX) = w5 at *
        have h5 := HRD.out Y hqm.2 w5 (hb.trans (b5.mono hb0))
        clear e0 f0 bx4 b4 b3
        refine h5.mono ?_
        rintro _ w6 ⟨rfl, b6⟩
        have bx6 := bx5.later b6
        have e1 := bx6.c1
        have f1 := bx6.f 1
        clear h5 bx5
        generalize (numF Y).getD 0 = NY at *
        generalize (numF Y).isSome = BY at *
        have bx7 := bx6.set1 NY
        have b7 : Below wr.heap.size wr (w6.setCell ⟨g, 1, none⟩ (.int .i64 NY)) := Only.below (b5.trans (b6.mono b5.size)) (only_set w6 g 1 _) (Nat.le_trans b5.size b6.size) (fun b e => by rw [e]; exact gw)
        have p0 := bx7.c0
        have p1 := bx7.c1
        have o7 := own_later HO.out b7
        have op7 := own_later OP2.out b7
        have hap7 := own_apart o7 op7 (by decide)
        have bw7 := hb.trans (b7.mono hb0)
        have z7 := bw7.size
        have hfin : ∀ v' w', OwnC w.heap.size w' v' (qs ++ [(NX, NY)]) → Only (fun b => (Value.slice av k pv).ownBlock = some b) (w6.setCell ⟨g, 1, none⟩ (.int .i64 NY)) w' → OwnC w.heap.size w' v' qs2 ∧ (∃ bs, OwnW bs w' (.slice (some ⟨gp, 0, none⟩) P.length cp) (P.map str)) ∧ Below w.heap.size w w' := fun v' w' o q =>
          ⟨by rw [← HST2.out]; exact o, ⟨_, own_only op7 q (fun b e h => hap7 b (by rw [hql]; exact h) e)⟩, Only.below bw7 q z7 (fun b e => own_lo o7 b (by rw [hql]; exact e))⟩
        have o4 : OwnC w.heap.size (w6.setCell ⟨g, 1, none⟩ (.int .i64 NY)) (.slice av k pv) qs := by unfold OwnC; rw [hql]; rw [hql] at o7; exact o7
        have O4 := Lib.hid o4; clear o4
        have HFIN := Lib.hid hfin; clear hfin
        clear o7 op7 hap7 bx6 bx7 hg
        go_wp2_with (at_builtin; refine app_CL (.tmp 38) (.tmp 40) _ _ _ _ _ _ (by rfl) (by rfl) (by rfl) (by rw [World.size_setCell]; rfl) O4.out (by omega) z7 ?_; intro v2 w9 o9 q9)
        have hf := HFIN.out v2 w9 o9 q9
        have HF := Lib.hid hf; clear hf
        clear o9 q9
        go_roundw
        case rel => exact ⟨k + 1, by omega, by go_num, by rw [HQS2.out]; exact HF.out.1, HF.out.2.1, HF.out.2.2⟩
        case measure => simp [intOf]; omega
      · obtain rfl : k = P.length := by omega
        rw [HTK.out] at ho
        have hr := HR.out
        have hv := HCV.out _ (P.map cutI) wr (Rd.of_own ho)
        have hct := fun w' (hb' : Below wr.heap.size wr w') => HCT.out _ (P.map cutI) w' (Rd.of_own (own_later ho hb')) (hb.trans (hb'.mono hb.size))
        obtain ⟨av, pv, hv'⟩ := own_shape ho
        subst hv'
        rw [List.length_map] at hv hct ⊢
        have htst : ∀ t, ((cutsTI (P.map cutI)).toList == s.toList) = t → cutsB (P.map cutI) = true → decide (cutsT (P.map cutI) = byteL s) = t := fun t h1 h2 => by
          rw [toL_eq] at h1
          unfold cutsTI at h1
          rw [if_pos h2] at h1
          rw [← h1]
          exact decide_eq_decide.2 (HTS.out _).symm
        have hrl : OwnC w.heap.size wr (.slice av P.length pv) (P.map cutI) := by unfold OwnC; rw [List.length_map]; unfold OwnC at ho; rw [List.length_map] at ho; exact ho
        have HO := Lib.hid hrl; clear hrl
        clear ho op hql
        cases t0 : cutsB (P.map cutI)
        · rw [t0] at hv
          rw [if_neg (by rw [t0]; rintro ⟨h, _⟩; cases h)] at hr
          have HV := Lib.hid hv; clear hv
          have HR2 := Lib.hid hr; clear hr
          clear hct htst t0
          go_wp2_with fail
          refine HV.out.mono ?_
          rintro _ w2 ⟨rfl, b2⟩
          go_wp2
          go_returns
          rw [HR2.out]
          exact ⟨_, rfl, World.ownsRow_nil _ _ _ _, hb.trans (b2.mono hb.size)⟩
        · rw [t0] at hv
          cases t1 : ((cutsTI (P.map cutI)).toList == s.toList)
          · have := htst _ t1 t0
            rw [if_neg (by rintro ⟨_, h⟩; rw [decide_eq_true h] at this; cases this)] at hr
            have HV := Lib.hid hv; clear hv
            have HR2 := Lib.hid hr; clear hr
            have HCT2 := Lib.hid hct; clear hct
            clear htst t0 this
            generalize cutsTI (P.map cutI) = TI at *
            go_wp2_with fail
            refine HV.out.mono ?_
            rintro _ w2 ⟨rfl, b2⟩
            go_wp2_with fail
            refine (HCT2.out w2 b2).mono ?_
            rintro _ w3 ⟨rfl, b3⟩
            go_wp2
            go_returns
            rw [HR2.out]
            exact ⟨_, rfl, World.ownsRow_nil _ _ _ _, hb.trans ((b2.trans (b3.mono b2.size)).mono hb.size)⟩
          · have := htst _ t1 t0
            rw [if_pos ⟨t0, of_decide_eq_true this⟩] at hr
            have HV := Lib.hid hv; clear hv
            have HR2 := Lib.hid hr; clear hr
            have HCT2 := Lib.hid hct; clear hct
            clear htst t0 this
            generalize cutsTI (P.map cutI) = TI at *
            go_wp2_with fail
            refine HV.out.mono ?_
            rintro _ w2 ⟨rfl, b2⟩
            go_wp2_with fail
            refine (HCT2.out w2 b2).mono ?_
            rintro _ w3 ⟨rfl, b3⟩
            have b4 := b2.trans (b3.mono b2.size)
            go_wp2
            go_returns
            rw [HR2.out]
            exact ⟨_, rfl, own_later HO.out b4, hb.trans (b4.mono hb.size)⟩

end Go.Proofs.YtgdadbmhdljcdaaGreatDoor

/- Lists read from a text: both functions. -/
namespace Go.Proofs.YtgdadbmhdljcdaaGreatDoor
set_option linter.unusedVariables false
open Go.RowKit Go.Proofs.Bell Go.BigFrame

set_option maxRecDepth 1000000 in
set_option maxHeartbeats 1600000 in
theorem ListTextI_c (v : Value) (zs : List Int) (w : World) (h : Rd w v zs.length (ints zs)) (htab : Tab w) :
    Calls Tryz.prog 79 #[v] w (RetB (.string (listTI zs)) w) := by
  by_cases hk : zs.all inV = true ∧ zs.length ≤ 64
  · have e : listTI zs = str (listT zs) := by unfold listTI; rw [if_pos hk]
    rw [e]
    exact ListText_c v zs w h hk.1 hk.2 htab
  · have e : listTI zs = ⟨#[]⟩ := by unfold listTI; rw [if_neg hk]
    rw [e]
    have hcf := ContainsFuncInt_c 126 #[] (fun x => !inV x) v zs w h (enters Tryz.func126 (by kernel_rfl) rfl) (fun x _ w' _ => ListText1_c x w')
    obtain ⟨hn, ao, cap, bb, off, rfl, hao, hcell⟩ := h.open
    by_cases hl : zs.length ≤ 64
    · have hany : zs.any (fun x => !inV x) = true := by
        rw [List.any_eq_true]
        have hnn : ¬ (zs.all inV = true) := fun e => hk ⟨e, hl⟩
        rw [List.all_eq_true] at hnn
        simp only [Classical.not_forall] at hnn
        obtain ⟨x, hx, hv⟩ := hnn
        exact ⟨x, hx, by simpa using hv⟩
      rw [hany] at hcf
      have HCF := Lib.hid hcf; clear hcf
      clear hcell hao hany htab h hk e
      go_enter Tryz.func79, Tryz.ntmps79
      go_wp2_with fail
      refine HCF.out.mono ?_
      rintro _ w1 ⟨rfl, b1⟩
      go_wp2
      go_returns
      exact RetB.mk rfl b1
    · clear hcf hcell hao htab h hk e
      have hgt : decide ((64 : Int) < (zs.length : Int)) = true := by simp; omega
      go_enter Tryz.func79, Tryz.ntmps79
      go_wp2
      go_returns
      exact RetB.mk rfl (Below.refl _ _)
theorem readN_snoc : ∀ (ls : List (List UInt8)) (l : List UInt8), readN (ls ++ [l]) = (readN ls).bind fun qs => (numF l).bind fun p => if inV p then some (qs ++ [p]) else none
  | [], l => by
    rw [List.nil_append, readN, readN]
    cases numF l with
    | none => rfl
    | some z => cases h : inV z <;> simp [readN, h]
  | x :: r, l => by
    rw [List.cons_append, readN, readN, readN_snoc r l]
    cases numF x with
    | none => rfl
    | some z =>
      cases readN r with
      | none => rfl
      | some q =>
        cases numF l with
        | none => cases h : inV z <;> simp [h]
        | some y => cases h : inV z <;> cases h2 : inV y <;> simp [h, h2]
theorem readN_no : ∀ {ls : List (List UInt8)} {l : List UInt8}, l ∈ ls → (∀ z, numF l = some z → inV z = false) → readN ls = none
  | x :: r, l, h, hn => by
    rw [readN]
    rcases List.mem_cons.1 h with e | h
    · subst e
      cases hx : numF l with
      | none => rfl
      | some z =>
        have := hn z hx
        cases readN r <;> simp [this]
    · rw [readN_no h hn]; cases numF x <;> rfl
theorem readN_len {ls : List (List UInt8)} {ps : List Int} (h : readN ls = some ps) : ps.length = ls.length := by
  have := congrArg List.length (readN_some h).1
  rwa [List.length_map] at this

set_option maxRecDepth 1000000 in
set_option maxHeartbeats 3200000 in
theorem implReadList_c (s : ByteArray) (w : World) (hs : s.size ≤ 2000000) (hrt : RTab w) :
    Calls Tryz.prog 77 #[.string s] w (RetI2 ((readL (byteL s)).getD []) (.bool (readL (byteL s)).isSome) w) := by
  by_cases c0 : s = ⟨#[45]⟩
  · subst c0
    have e : readL (byteL ⟨#[45]⟩) = some [] := rfl
    rw [e]
    clear hrt
    go_enter Tryz.func77, Tryz.ntmps77
    go_wp2
    go_returns
    exact ⟨_, rfl, World.ownsRow_nil _ _ _ _, Below.refl _ _⟩
  · have ht := dash_no c0
    have hL : byteL s ≠ [45] := fun e => c0 (by rw [← str_byteL s, e]; rfl)
    have hbl := byteL_len s
    have hsp := SplitR_c s 44 w hs hrt
    have hR := readL_I hL
    have hT := listTI_eq (s := s) hL
    have hPl : (spl 44 (byteL s)).length ≤ 2000001 := by have := spl_len_le 44 (byteL s); omega
    have hPm : ∀ p ∈ spl 44 (byteL s), p.length ≤ 2000000 := fun p hp => by have := spl_mem_len hp; omega
    have hval : ∀ zs, readL (byteL s) = some zs → ((spl 44 (byteL s)).map fun x => (numF x).getD 0) = zs := fun zs h => by
      rw [hR] at h
      split at h
      · exact Option.some.inj h
      · cases h
    generalize hRES : readL (byteL s) = RES at *
    generalize hPP : spl 44 (byteL s) = P at *
    have hrd := fun k (h : k < P.length) w' (hb : Below w.heap.size w w') => ReadDecimal_c (str P[k]) w' (by rw [str_size]; exact hPm _ (List.getElem_mem h)) (hrt.later hb)
    simp only [byteL_str] at hrd
    have hst : ∀ k (h : k < P.length), (P.take k).map (fun x => (numF x).getD 0) ++ [(numF P[k]).getD 0] = (P.take (k + 1)).map (fun x => (numF x).getD 0) := fun k h => take_map_snoc _ h
    have hlen : ∀ k, k ≤ P.length → ((P.take k).map (fun x => (numF x).getD 0)).length = k := fun k h => by simp; omega
    have htake : P.take P.length = P := List.take_length
    have hct := fun (v : Value) (qs : List Int) w' (h : Rd w' v qs.length (ints qs)) (hb : Below w.heap.size w w') => ListTextI_c v qs w' h (hrt.later hb).1
    have hsc := fun k (h : k < P.length) => scells_str (ls := P) h
    have hSl : (P.map str).length = P.length := List.length_map ..
    clear hR
    have HSP := Lib.hid hsp; clear hsp
    have HT := Lib.hid hT; clear hT
    have HVAL := Lib.hid hval; clear hval
    have HPM := Lib.hid hPm; clear hPm
    have HRD := Lib.hid hrd; clear hrd
    have HST := Lib.hid hst; clear hst
    have HLT := Lib.hid hlen; clear hlen
    have HTK := Lib.hid htake; clear htake
    have HCT := Lib.hid hct; clear hct
    have HSC := Lib.hid hsc; clear hsc
    have HSL := Lib.hid hSl; clear hSl
    have HRES := Lib.hid hRES; clear hRES
    clear hL hbl c0 hrt hPP
    go_enter Tryz.func77, Tryz.ntmps77
    go_wp2_with fail
    refine HSP.out.mono ?_
    rintro _ w1 ⟨vp, rfl, op, bp⟩
    obtain ⟨ap, cp, gp, rfl, hap, _⟩ := own_open op
    rw [HSL.out]
    have OP := Lib.hid op; clear op
    have HAP := Lib.hid hap; clear hap
    go_wp2_with fail
    go_loopw [14, 4] (fun i v wr => ∃ (k : Nat), k ≤ P.length ∧ i = .int .i64 k ∧ OwnI w.heap.size wr v ((P.take k).map fun x => (numF x).getD 0) ∧ (∃ bs, OwnW bs wr (.slice ap P.length cp) (P.map str)) ∧ Below w.heap.size w wr) (fun i _ _ => P.length - (intOf i).toNat)
    case atStart => exact ⟨0, Nat.zero_le _, rfl, World.ownsRow_nil _ _ _ _, ⟨_, by have := OP.out; rw [HSL.out] at this; exact this⟩, bp⟩
    case round =>
      obtain ⟨k, hk, rfl, ho, ⟨bs, op⟩, hb⟩ := hrel
      have hql := HLT.out k hk
      by_cases hlt : k < P.length
      · have hapk : ap = some ⟨gp, 0, none⟩ := by
          have := HAP.out; rw [HSL.out] at this; exact this (by omega)
        subst hapk
        have hix := ix (P := Tryz.prog) (T := 80) (sz := 1) (n := P.length) (cap := cp) Tryz.underlying80 (by kernel_rfl) (by kernel_rfl) (ao := some ⟨gp, 0, none⟩) (b := gp) (off := 0) (fun _ => rfl) (k := k) hlt _ rfl
        rw [Nat.mul_one, Nat.zero_add] at hix
        have hc := (World.ownsRow.cellAt (by rw [← HSL.out] at op; exact op) k (by rw [HSL.out]; omega)).trans (HSC.out k hlt)
        obtain ⟨av, pv, hv⟩ := own_shape ho
        subst hv
        have hst := HST.out k hlt
        have h3 := HRD.out k hlt wr hb
        have hb0 := hb.size
        generalize hqs : ((P.take k).map fun x => (numF x).getD 0) = qs at *
        generalize hqs2 : ((P.take (k + 1)).map fun x => (numF x).getD 0) = qs2 at *
        generalize str P[k] = SK at *
        generalize (numF P[k]).getD 0 = NX at *
        generalize (numF P[k]).isSome = BX at *
        have HO := Lib.hid ho; clear ho
        have OP2 := Lib.hid op; clear op
        have HST2 := Lib.hid hst; clear hst
        have H3 := Lib.hid h3; clear h3
        have HQS := Lib.hid hqs; clear hqs
        have HQS2 := Lib.hid hqs2; clear hqs2
        have HQL := Lib.hid hql; clear hql
        clear OP HAP
        go_wp2_with fail
        refine H3.out.mono ?_
        rintro _ w4 ⟨rfl, b4⟩
        clear hc
        have o7 := own_later HO.out b4
        have op7 := own_later OP2.out b4
        have hap7 := own_apart o7 op7 (by decide)
        have bw7 := hb.trans (b4.mono hb0)
        have z7 := bw7.size
        have hfin : ∀ v' w', OwnI w.heap.size w' v' (qs ++ [NX]) → Only (fun b => (Value.slice av qs.length pv).ownBlock = some b) w4 w' → OwnI w.heap.size w' v' qs2 ∧ (∃ bs, OwnW bs w' (.slice (some ⟨gp, 0, none⟩) P.length cp) (P.map str)) ∧ Below w.heap.size w w' := fun v' w' o q =>
          ⟨by rw [← HST2.out]; exact o, ⟨_, own_only op7 q (fun b e h => hap7 b h e)⟩, Only.below bw7 q z7 (fun b e => own_lo o7 b e)⟩
        have O4 := Lib.hid o7; clear o7
        have HFIN := Lib.hid hfin; clear hfin
        clear op7 hap7
        go_wp2_with (at_builtin; refine app_IL (.tmp 23) (.tmp 25) _ _ _ _ _ (by rfl) (by rfl) (by rfl) (by rfl) O4.out (by have := HQL.out; omega) z7 ?_; intro v2 w9 o9 q9)
        have hf := HFIN.out v2 w9 o9 q9
        have HF := Lib.hid hf; clear hf
        clear o9 q9
        go_roundw
        case rel => exact ⟨k + 1, by omega, by go_num, by rw [HQS2.out]; exact HF.out.1, HF.out.2.1, HF.out.2.2⟩
        case measure => simp [intOf]; omega
      · obtain rfl : k = P.length := by omega
        rw [HTK.out] at ho
        have hct := HCT.out _ (P.map fun x => (numF x).getD 0) wr (Rd.of_own ho) hb
        obtain ⟨av, pv, hv'⟩ := own_shape ho
        subst hv'
        rw [List.length_map] at hct ⊢
        have hrl : OwnI w.heap.size wr (.slice av P.length pv) (P.map fun x => (numF x).getD 0) := by unfold OwnI; rw [List.length_map]; unfold OwnI at ho; rw [List.length_map] at ho; exact ho
        have hTT := HT.out
        have hVV := HVAL.out
        generalize (P.map fun x => (numF x).getD 0) = ZZ at *
        have hiso : RES.isSome = ((listTI ZZ).toList == s.toList) := by
          rw [toL_eq]
          by_cases e : listTI ZZ = s
          · rw [decide_eq_true e]; exact hTT.2 e
          · rw [decide_eq_false e]
            cases hx : RES.isSome with
            | false => rfl
            | true => exact absurd (hTT.1 hx) e
        generalize listTI ZZ = TI at *
        have HO := Lib.hid hrl; clear hrl
        have HCT2 := Lib.hid hct; clear hct
        have HVV := Lib.hid hVV; clear hVV
        clear ho op hql hTT
        cases t1 : (TI.toList == s.toList)
        · rw [t1] at hiso
          have hn : RES = none := by cases RES with
            | none => rfl
            | some z => cases hiso
          have HN := Lib.hid hn; clear hn
          clear hiso
          go_wp2_with fail
          refine HCT2.out.mono ?_
          rintro _ w3 ⟨rfl, b3⟩
          go_wp2
          go_returns
          rw [HN.out]
          exact ⟨_, rfl, World.ownsRow_nil _ _ _ _, hb.trans (b3.mono hb.size)⟩
        · rw [t1] at hiso
          have hn : RES = some ZZ := by cases RES with
            | none => cases hiso
            | some z => rw [HVV.out z rfl]
          have HN := Lib.hid hn; clear hn
          clear hiso
          go_wp2_with fail
          refine HCT2.out.mono ?_
          rintro _ w3 ⟨rfl, b3⟩
          go_wp2
          go_returns
          rw [HN.out]
          exact ⟨_, rfl, own_later HO.out b3, hb.trans (b3.mono hb.size)⟩

end Go.Proofs.YtgdadbmhdljcdaaGreatDoor

