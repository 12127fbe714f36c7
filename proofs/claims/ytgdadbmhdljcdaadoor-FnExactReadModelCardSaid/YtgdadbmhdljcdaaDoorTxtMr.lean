/- A model read from a text: the reference. -/
import Derived.Test.YtgdadbmhdljcdaaDoorTF
import Derived.Test.YtgdadbmhdljcdaaDoorTxtPr
import Derived.Test.YtgdadbmhdljcdaaDoorVm
namespace Go.Proofs.YtgdadbmhdljcdaaDoor
set_option linter.unusedVariables false
open Go.RowKit Go.Proofs.Bell Go.BigFrame

set_option maxRecDepth 1000000 in
set_option maxHeartbeats 6400000 in
theorem specReadModel_c (s : ByteArray) (w : World) (hs : s.size ≤ 2000000) :
    Calls Tryd.prog 10 #[.string s] w (RetM2 (mdZ (readM (byteL s))) (mdW (readM (byteL s))) (mdB (readM (byteL s))) (.bool (readM (byteL s)).isSome) w) := by
  have hbl := byteL_len s
  have hsp := fun w' => l01Split_c s 47 w' hs
  have hN7 : (spl 47 (byteL s)).length ≠ 7 → readM (byteL s) = none := fun h => by unfold readM; rw [if_neg h]
  have hRd : (spl 47 (byteL s)).length = 7 → ∀ ls, readLs readL (spl 47 (byteL s)) = some ls → readM (byteL s) = if modelB (toM ls).1 (toM ls).2.1 (toM ls).2.2 then some (toM ls) else none := fun h7 ls h => by unfold readM; rw [if_pos h7, h]
  have hRn : (spl 47 (byteL s)).length = 7 → readLs readL (spl 47 (byteL s)) = none → readM (byteL s) = none := fun h7 h => by unfold readM; rw [if_pos h7, h]
  have hPl : (spl 47 (byteL s)).length ≤ 2000001 := by have := spl_len_le' 47 (byteL s); omega
  have hPm : ∀ p ∈ spl 47 (byteL s), p.length ≤ 2000000 := fun p hp => by have := spl_mem_len hp; omega
  generalize readM (byteL s) = RES at *
  generalize spl 47 (byteL s) = P at *
  have hsp2 := fun (k : Nat) (h : k < P.length) w' => specReadList_c (str P[k]) w' (by rw [str_size]; exact hPm _ (List.getElem_mem h))
  simp only [byteL_str] at hsp2
  have hst : ∀ k (h : k < P.length) qs, readLs readL (P.take k) = some qs → ∀ p, readL P[k] = some p → readLs readL (P.take (k + 1)) = some (qs ++ [p]) := fun k h qs hq p hp => by
    rw [List.take_succ_eq_append_getElem h, readLs_snoc, hq, hp]; rfl
  have hno : P.length = 7 → ∀ k (h : k < P.length), readL P[k] = none → RES = none := fun h7 k h hn => hRn h7 (readLs_no (List.getElem_mem h) hn)
  have hlenq : ∀ k qs, k ≤ P.length → readLs readL (P.take k) = some qs → qs.length = k := fun k qs hk h => by
    rw [readLs_len h, List.length_take]; omega
  have htake : P.take P.length = P := List.take_length
  have h0q : readLs readL (P.take 0) = some [] := rfl
  have hsc := fun k (h : k < P.length) => scells_str (ls := P) h
  have hSl : (P.map str).length = P.length := List.length_map ..
  clear hRn hbl
  have HSP := Lib.hid hsp; clear hsp
  have HN7 := Lib.hid hN7; clear hN7
  have HR := Lib.hid hRd; clear hRd
  have HPM := Lib.hid hPm; clear hPm
  have HSP2 := Lib.hid hsp2; clear hsp2
  have HST := Lib.hid hst; clear hst
  have HNO := Lib.hid hno; clear hno
  have HLQ := Lib.hid hlenq; clear hlenq
  have HTK := Lib.hid htake; clear htake
  have H0Q := Lib.hid h0q; clear h0q
  have HSC := Lib.hid hsc; clear hsc
  have HSL := Lib.hid hSl; clear hSl
  go_enter Tryd.func10, Tryd.ntmps10
  go_wp2_with fail
  have bx0' : BoxE (w.alloc (.cells #[nv, nv, nv] 25)) w.heap.size 25 [nv, nv, nv] := BoxE.new w 25 [nv, nv, nv]
  have b1 : Below w.heap.size w (w.alloc (.cells #[nv, nv, nv] 25)) := by go_grown
  unfold nv at bx0' b1
  obtain ⟨g0, hg⟩ : ∃ g, g = w.heap.size := ⟨_, rfl⟩
  rw [← hg] at bx0'
  rw [← hg]
  have hg0 : w.heap.size ≤ g0 := Nat.le_of_eq hg.symm
  clear hg
  generalize w.alloc (.cells #[.slice none 0 0, .slice none 0 0, .slice none 0 0] 25) = w0 at *
  refine (HSP.out _).mono ?_
  rintro _ w1 ⟨vp, rfl, op, bp⟩
  have bx1 := bx0'.later bp
  have b2 := b1.trans (bp.mono b1.size)
  obtain ⟨ap, cp, gp, rfl, hap, _⟩ := own_open op
  rw [HSL.out]
  rw [HSL.out] at hap
  by_cases h7 : P.length = 7
  · have hap7 := hap (by omega)
    subst hap7
    have op' : ∃ bs, OwnW bs w1 (.slice (some ⟨gp, 0, none⟩) 7 cp) (P.map str) := ⟨_, by have := op; rw [HSL.out, h7] at this; exact this⟩
    rw [h7]
    clear op hap
    have OP := Lib.hid op'; clear op'
    have bxn : BoxE (w1.alloc (.cells #[nv, nv, nv] 25)) w1.heap.size 25 [nv, nv, nv] := BoxE.new w1 25 [nv, nv, nv]
    have b12 : Below w1.heap.size w1 (w1.alloc (.cells #[nv, nv, nv] 25)) := by go_grown
    have zlt : w1.heap.size < (w1.alloc (.cells #[nv, nv, nv] 25)).heap.size := by simp
    unfold nv at bxn b12 zlt
    have b3 := b2.trans (b12.mono b2.size)
    have bx3 := bx1.later b12
    have lt0 := bx1.v.lt
    have op3 : ∃ bs, OwnW bs (w1.alloc (.cells #[.slice none 0 0, .slice none 0 0, .slice none 0 0] 25)) (.slice (some ⟨gp, 0, none⟩) 7 cp) (P.map str) := by
      obtain ⟨bs, h⟩ := OP.out
      exact ⟨bs, own_later h b12⟩
    have OP3 := Lib.hid op3; clear op3
    have BXN := Lib.hid bxn; clear bxn
    have BX3 := Lib.hid bx3; clear bx3
    have H7 := Lib.hid h7; clear h7
    clear bx0' bx1 bp b1 b12
    go_wp2_with fail
    obtain ⟨g1, hge⟩ : ∃ g, g = w1.heap.size := ⟨_, rfl⟩
    rw [← hge]
    have BXN2 := BXN.out
    rw [← hge] at BXN2
    have BXN3 := Lib.hid BXN2; clear BXN2
    have hg10 : g0 < g1 := by omega
    have hg1' : w.heap.size ≤ g1 := by have := b2.size; omega
    clear BXN hge OP zlt
    generalize w1.alloc (.cells #[.slice none 0 0, .slice none 0 0, .slice none 0 0] 25) = w2 at *
    clear b2
    go_loopw [6] (fun i wr => ∃ (k : Nat) (ls : List (List Int)) (zv wv bv : Value) (us : List Value), k ≤ 7 ∧ i = .int .i64 k ∧ readLs readL (P.take k) = some ls ∧ OwnM w.heap.size wr.heap.size wr zv wv bv us (toM ls).1 (toM ls).2.1 (toM ls).2.2 ∧ (∃ bs, OwnW bs wr (.slice (some ⟨gp, 0, none⟩) 7 cp) (P.map str)) ∧
      BoxE wr g0 25 [.slice none 0 0, .slice none 0 0, .slice none 0 0] ∧ BoxE wr g1 25 [zv, wv, bv] ∧ Below w.heap.size w wr) (fun i _ => 7 - (intOf i).toNat)
    case atStart => exact ⟨0, [], _, _, _, [], Nat.zero_le _, rfl, H0Q.out, OwnM.nils _ _ _, OP3.out, BX3.out, BXN3.out, b3⟩
    case round =>
      obtain ⟨k, ls, zv, wv, bv, us, hk, rfl, hq, hm, ⟨bs, op⟩, bx, by1, hb⟩ := hrel
      have hlt7 : k ≤ P.length := by have := H7.out; omega
      have hql := HLQ.out k ls hlt7 hq
      clear OP3 BX3 BXN3
      by_cases hlt : k < 7
      · have hltP : k < P.length := by have := H7.out; omega
        have hdec : decide ((k : Int) < 7) = true := by simp; omega
        have hix := ix (P := Tryd.prog) (T := 70) (sz := 1) (n := 7) (cap := cp) Tryd.underlying70 (by kernel_rfl) (by kernel_rfl) (ao := some ⟨gp, 0, none⟩) (b := gp) (off := 0) (fun _ => rfl) (k := k) hlt _ rfl
        rw [Nat.mul_one, Nat.zero_add] at hix
        have hc := (World.ownsRow.cellAt (by rw [← H7.out, ← HSL.out] at op; exact op) k (by rw [HSL.out, H7.out]; omega)).trans (HSC.out k hltP)
        have hs2 := HSP2.out k hltP wr
        have hst := HST.out k hltP ls hq
        have hno := HNO.out H7.out k hltP
        have hb0 := hb.size
        generalize readL P[k] = CR at *
        generalize hq2 : readLs readL (P.take (k + 1)) = RK at *
        generalize str P[k] = SK at *
        have HM := Lib.hid hm; clear hm
        have OP2 := Lib.hid op; clear op
        have HST2 := Lib.hid hst; clear hst
        have HNO2 := Lib.hid hno; clear hno
        have HS2 := Lib.hid hs2; clear hs2
        have HQ2 := Lib.hid hq2; clear hq2
        have BX := Lib.hid bx; clear bx
        have BY := Lib.hid by1; clear by1
        have HQL := Lib.hid hql; clear hql
        clear hq hltP hlt7
        cases CR with
        | none =>
          have hn := HNO2.out rfl
          have HN := Lib.hid hn; clear hn
          clear HST2
          go_wp2_with fail
          refine HS2.out.mono ?_
          rintro _ w2 ⟨vl, rfl, ol, b2⟩
          obtain ⟨al, pl, hvl⟩ := own_shape ol
          subst hvl
          have b3 := hb.trans (b2.mono hb0)
          have hth := (BX.out.later b2).v.there
          have hfin : ∀ w', Only (· = g0) w2 w' → Below w.heap.size w w' := fun w' q => Only.below b3 q b3.size (fun b e => by rw [e]; exact hg0)
          have HTH := Lib.hid hth; clear hth
          have HFIN := Lib.hid hfin; clear hfin
          clear ol hc hix b2 b3
          go_wp2_with (refine wpList_store_held rfl 25 (.tmp 2) (.tmp 30) rfl g0 0 #[.slice none 0 0, .slice none 0 0, .slice none 0 0] rfl rfl HTH.out (by kernel_rfl) (by kernel_rfl) ?_; intro w5 q5 r5 o5 f5; have e0 : w5.cell? ⟨g0, 0, none⟩ = some (.slice none 0 0) := r5 0 _ rfl; have e1 : w5.cell? ⟨g0, 1, none⟩ = some (.slice none 0 0) := r5 1 _ rfl; have e2 : w5.cell? ⟨g0, 2, none⟩ = some (.slice none 0 0) := r5 2 _ rfl; have Q5 := Lib.hid q5; clear q5; clear r5 o5 f5)
          refine bodyPost_ret (v := .tuple #[.agg #[.slice none 0 0, .slice none 0 0, .slice none 0 0], .bool false]) (by simp [results, Tryd.results10, go_sem, e0, e1, e2]) rfl ?_
          rw [HN.out]
          exact RetM2.nil (HFIN.out _ Q5.out)
        | some p =>
          have hst := HST2.out p rfl
          have hcase : k = 0 ∨ (1 ≤ k ∧ k ≤ 5) ∨ k = 6 := by omega
          have HST3 := Lib.hid hst; clear hst
          clear HST2 HNO2
          rcases hcase with rfl | ⟨hk1, hk5⟩ | rfl
          · have hls : ls = [] := List.eq_nil_of_length_eq_zero HQL.out
            subst hls
            go_wp2_with fail
            refine HS2.out.mono ?_
            rintro _ w2 ⟨vl, rfl, ol, b2⟩
            have b3 := hb.trans (b2.mono hb0)
            have by2 := BY.out.later b2
            have hm2 : OwnM w.heap.size w2.heap.size w2 vl wv bv us p (toM []).2.1 (toM []).2.2 := HM.out.newZ (Nat.le_refl _) hb0 b2 ol
            have bx2 := BX.out.later b2
            have op2 := own_later OP2.out b2
            obtain ⟨al, pl, hvl⟩ := own_shape ol
            subst hvl
            have y0 := by2.v.c 0 _ rfl
            have f0 := by2.v.f 0
            have qs := only_set w2 g1 0 (.slice al p.length pl)
            have hm3 := (hm2.box by2 qs).wide (hi' := (w2.setCell ⟨g1, 0, none⟩ (.slice al p.length pl)).heap.size) (Nat.le_refl _) (by simp)
            have bx3 := bx2.only qs (by omega)
            have by3 := by2.set 0 (.slice al p.length pl)
            have op3 := own_only op2 qs (fun b e h => own_box op2 by2 (by decide) b e h)
            have b4 := Only.below b3 qs b3.size (fun b e => by rw [e]; exact hg1')
            have HM3 := Lib.hid hm3; clear hm3
            have BX3 := Lib.hid bx3; clear bx3
            have BY3 := Lib.hid by3; clear by3
            have OP3 := Lib.hid op3; clear op3
            have B4 := Lib.hid b4; clear b4
            clear ol hc hix b2 b3 by2 hm2 bx2 op2 qs hdec
            go_wp2
            go_roundw
            case rel => exact ⟨1, [p], _, _, _, _, by omega, rfl, HQ2.out.trans HST3.out, HM3.out, ⟨_, OP3.out⟩, BX3.out, BY3.out, B4.out⟩
            case measure => simp [intOf]
          · have t0 : ((k : Int) == 0) = false := beq_eq_false_iff_ne.2 (by omega)
            have t6 : ((k : Int) == 6) = false := beq_eq_false_iff_ne.2 (by omega)
            have hmid := toM_mid HQL.out hk1 hk5 p
            have hwl := toM_wlen HQL.out (show k ≤ 6 by omega)
            have HMID := Lib.hid hmid; clear hmid
            have HWL := Lib.hid hwl; clear hwl
            go_wp2_with fail
            refine HS2.out.mono ?_
            rintro _ w2 ⟨vl, rfl, ol, b2⟩
            have b3 := hb.trans (b2.mono hb0)
            have by2 := BY.out.later b2
            have hm2 := HM.out.later b2
            have bx2 := BX.out.later b2
            have op2 := own_later OP2.out b2
            obtain ⟨al, pl, hvl⟩ := own_shape ol
            subst hvl
            obtain ⟨aw, pw, hvw⟩ := own_shape hm2.s.row
            subst hvw
            have y1 := by2.v.c 1 _ rfl
            have z3 := b3.size
            have hap := hm2.row_apart op2
            have n0 := own_box hm2.s.row bx2 (by decide)
            have n1 := own_box hm2.s.row by2 (by decide)
            have hfin : ∀ v' w', w'.ownsRow w.heap.size 22 1 v' ((toM ls).2.1.length + 1) (us ++ [.slice al p.length pl]) → Only (fun b => (Value.slice aw (toM ls).2.1.length pw).ownBlock = some b) w2 w' → (∀ b, v'.ownBlock = some b → (Value.slice aw (toM ls).2.1.length pw).ownBlock = some b ∨ w2.heap.size ≤ b) →
                (OwnM w.heap.size (w'.setCell ⟨g1, 1, none⟩ v').heap.size (w'.setCell ⟨g1, 1, none⟩ v') zv v' bv (us ++ [.slice al p.length pl]) (toM ls).1 ((toM ls).2.1 ++ [p]) (toM ls).2.2 ∧ (∃ bs, OwnW bs (w'.setCell ⟨g1, 1, none⟩ v') (.slice (some ⟨gp, 0, none⟩) 7 cp) (P.map str)) ∧
                  BoxE (w'.setCell ⟨g1, 1, none⟩ v') g0 25 [.slice none 0 0, .slice none 0 0, .slice none 0 0] ∧ BoxE (w'.setCell ⟨g1, 1, none⟩ v') g1 25 [zv, v', bv] ∧ Below w.heap.size w (w'.setCell ⟨g1, 1, none⟩ v')) ∧
                w'.cell? ⟨g1, 1, none⟩ = some (.slice aw (toM ls).2.1.length pw) ∧ w'.frozen? ⟨g1, 1, none⟩ = false := fun v' w' o q hat => by
              have hm4 := hm2.newS (row := p) b2.size hb0 ol o q hat
              have by5 := by2.only q (fun e => n1 _ e rfl)
              have bx5 := bx2.only q (fun e => n0 _ e rfl)
              have op5 := own_only op2 q (fun b e h => hap b h e)
              have qs := only_set w' g1 1 v'
              have hbb := Only.below b3 q z3 (fun b e => own_lo hm2.s.row b e)
              exact ⟨⟨(hm4.box by5 qs).wide (Nat.le_refl _) (by simp), ⟨_, own_only op5 qs (fun b e h => own_box op5 by5 (by decide) b e h)⟩, bx5.only qs (by omega), by5.set 1 v', Only.below hbb qs hbb.size (fun b e => by rw [e]; exact hg1')⟩, by5.v.c 1 _ rfl, by5.v.f 1⟩
            have o4 := hm2.s.row
            have O4 := Lib.hid o4; clear o4
            have HFIN := Lib.hid hfin; clear hfin
            clear ol hc hix b2 by2 hm2 bx2 op2 hap n0 n1 hdec b3
            go_wp2_with (at_builtin; refine app_SSL (.tmp 33) (.tmp 35) _ _ _ _ _ _ _ _ (by rfl) (by rfl) (by rfl) (by rfl) O4.out (by have := HWL.out; omega) z3 ?_; intro v2 w9 o9 q9 h9; obtain ⟨ad, pd, hv2⟩ := own_shape o9; subst hv2; obtain ⟨hf, c9, f9⟩ := HFIN.out _ w9 o9 q9 h9; have HF := Lib.hid hf; clear hf; clear o9 q9 h9)
            go_roundw
            case rel => exact ⟨k + 1, ls ++ [p], _, _, _, _, by omega, by go_num, HQ2.out.trans HST3.out, by rw [HMID.out]; exact HF.out.1, HF.out.2.1, HF.out.2.2.1, HF.out.2.2.2.1, HF.out.2.2.2.2⟩
            case measure => simp [intOf]; omega
          · have h6 := toM_6 HQL.out p
            have H6 := Lib.hid h6; clear h6
            go_wp2_with fail
            refine HS2.out.mono ?_
            rintro _ w2 ⟨vl, rfl, ol, b2⟩
            have b3 := hb.trans (b2.mono hb0)
            have by2 := BY.out.later b2
            have hm2 : OwnM w.heap.size w2.heap.size w2 zv wv vl us (toM ls).1 (toM ls).2.1 p := HM.out.newB (Nat.le_refl _) hb0 b2 ol
            have bx2 := BX.out.later b2
            have op2 := own_later OP2.out b2
            obtain ⟨al, pl, hvl⟩ := own_shape ol
            subst hvl
            have y2 := by2.v.c 2 _ rfl
            have f2 := by2.v.f 2
            have qs := only_set w2 g1 2 (.slice al p.length pl)
            have hm3 := (hm2.box by2 qs).wide (hi' := (w2.setCell ⟨g1, 2, none⟩ (.slice al p.length pl)).heap.size) (Nat.le_refl _) (by simp)
            have bx3 := bx2.only qs (by omega)
            have by3 := by2.set 2 (.slice al p.length pl)
            have op3 := own_only op2 qs (fun b e h => own_box op2 by2 (by decide) b e h)
            have b4 := Only.below b3 qs b3.size (fun b e => by rw [e]; exact hg1')
            have HM3 := Lib.hid hm3; clear hm3
            have BX3 := Lib.hid bx3; clear bx3
            have BY3 := Lib.hid by3; clear by3
            have OP3 := Lib.hid op3; clear op3
            have B4 := Lib.hid b4; clear b4
            clear ol hc hix b2 b3 by2 hm2 bx2 op2 qs hdec
            go_wp2
            go_roundw
            case rel => exact ⟨7, ls ++ [p], _, _, _, _, by omega, rfl, HQ2.out.trans HST3.out, by rw [H6.out]; exact HM3.out, ⟨_, OP3.out⟩, BX3.out, BY3.out, B4.out⟩
            case measure => simp [intOf]
      · obtain rfl : k = 7 := by omega
        have hdec : decide (((7 : Nat) : Int) < 7) = false := by simp
        have e7 : P.take 7 = P := by have := HTK.out; rw [H7.out] at this; exact this
        rw [e7] at hq
        have hr := HR.out H7.out ls hq
        have hv := l08Ok_c g1 zv wv bv (toM ls).1 (toM ls).2.1 (toM ls).2.2 wr (by1.v.c 0 _ rfl) (by1.v.c 1 _ rfl) (by1.v.c 2 _ rfl) (Rd.of_own hm.z) hm.s.rd (Rd.of_own hm.b)
        obtain ⟨az, pz, hz'⟩ := own_shape hm.z
        subst hz'
        obtain ⟨aw, pw, hw'⟩ := own_shape hm.s.row
        subst hw'
        obtain ⟨ab, pb, hb'⟩ := own_shape hm.b
        subst hb'
        have hfin : ∀ w2 w', Dr wr w2 → Only (· = g0) w2 w' → OwnM w.heap.size w'.heap.size w' (.slice az (toM ls).1.length pz) (.slice aw (toM ls).2.1.length pw) (.slice ab (toM ls).2.2.length pb) us (toM ls).1 (toM ls).2.1 (toM ls).2.2 ∧ Below w.heap.size w w' := fun w2 w' d q => by
          have b2 := Dr.below d
          have m2 := hm.later b2
          have bx2 := bx.later b2
          exact ⟨(m2.box bx2 q).wide (Nat.le_refl _) (Nat.le_trans b2.size q.size), Only.below (hb.trans (b2.mono hb.size)) q (Nat.le_trans hb.size b2.size) (fun b e => by rw [e]; exact hg0)⟩
        have hth : ∀ w2, Dr wr w2 → w2.there g0 0 3 ∧ w2.cell? ⟨g1, 0, none⟩ = some (.slice az (toM ls).1.length pz) ∧ w2.cell? ⟨g1, 1, none⟩ = some (.slice aw (toM ls).2.1.length pw) ∧ w2.cell? ⟨g1, 2, none⟩ = some (.slice ab (toM ls).2.2.length pb) :=
          fun w2 d => ⟨(bx.later (Dr.below d)).v.there, (by1.later (Dr.below d)).v.c 0 _ rfl, (by1.later (Dr.below d)).v.c 1 _ rfl, (by1.later (Dr.below d)).v.c 2 _ rfl⟩
        clear hm
        generalize toM ls = M at *
        obtain ⟨ZS, WS, BS⟩ := M
        dsimp only at hfin hth hr hv ⊢
        have HFIN := Lib.hid hfin; clear hfin
        have HTH := Lib.hid hth; clear hth
        have HR1 := Lib.hid hr; clear hr
        clear op bx by1 hq hql e7
        cases t0 : modelB ZS WS BS <;> rw [t0] at hv
        · have HV := Lib.hid hv; clear hv
          have T0 := Lib.hid t0; clear t0
          go_wp2_with fail
          refine HV.out.mono ?_
          rintro _ w2 ⟨rfl, d2⟩
          obtain ⟨ht, c0, c1, c2⟩ := HTH.out w2 d2
          have hf := HFIN.out w2
          have D2 := Lib.hid d2; clear d2
          have HF := Lib.hid hf; clear hf
          have HT := Lib.hid ht; clear ht
          clear c0 c1 c2
          go_wp2_with (refine wpList_store_held rfl 25 (.tmp 2) (.tmp 48) rfl g0 0 #[.slice none 0 0, .slice none 0 0, .slice none 0 0] rfl rfl HT.out (by kernel_rfl) (by kernel_rfl) ?_; intro w5 q5 r5 o5 f5; have e0 : w5.cell? ⟨g0, 0, none⟩ = some (.slice none 0 0) := r5 0 _ rfl; have e1 : w5.cell? ⟨g0, 1, none⟩ = some (.slice none 0 0) := r5 1 _ rfl; have e2 : w5.cell? ⟨g0, 2, none⟩ = some (.slice none 0 0) := r5 2 _ rfl; have Q5 := Lib.hid q5; clear q5; clear r5 o5 f5)
          refine bodyPost_ret (v := .tuple #[.agg #[.slice none 0 0, .slice none 0 0, .slice none 0 0], .bool false]) (by simp [results, Tryd.results10, go_sem, e0, e1, e2]) rfl ?_
          have hr2 := HR1.out
          rw [T0.out] at hr2
          rw [if_neg (by simp)] at hr2
          rw [hr2]
          exact RetM2.nil (HF.out _ D2.out Q5.out).2
        · have HV := Lib.hid hv; clear hv
          have T0 := Lib.hid t0; clear t0
          go_wp2_with fail
          refine HV.out.mono ?_
          rintro _ w2 ⟨rfl, d2⟩
          obtain ⟨ht, c0, c1, c2⟩ := HTH.out w2 d2
          have hf := HFIN.out w2
          have D2 := Lib.hid d2; clear d2
          have HF := Lib.hid hf; clear hf
          have HT := Lib.hid ht; clear ht
          go_wp2_with (refine wpList_store_held rfl 25 (.tmp 2) (.tmp 49) rfl g0 0 #[.slice az ZS.length pz, .slice aw WS.length pw, .slice ab BS.length pb] rfl rfl HT.out (by kernel_rfl) (by kernel_rfl) ?_; intro w5 q5 r5 o5 f5; have e0 : w5.cell? ⟨g0, 0, none⟩ = some (.slice az ZS.length pz) := r5 0 _ rfl; have e1 : w5.cell? ⟨g0, 1, none⟩ = some (.slice aw WS.length pw) := r5 1 _ rfl; have e2 : w5.cell? ⟨g0, 2, none⟩ = some (.slice ab BS.length pb) := r5 2 _ rfl; have Q5 := Lib.hid q5; clear q5; clear r5 o5 f5)
          refine bodyPost_ret (v := .tuple #[.agg #[.slice az ZS.length pz, .slice aw WS.length pw, .slice ab BS.length pb], .bool true]) (by simp [results, Tryd.results10, go_sem, e0, e1, e2]) rfl ?_
          have hr2 := HR1.out
          rw [T0.out] at hr2
          rw [if_pos rfl] at hr2
          rw [hr2]
          exact ⟨_, _, _, us, rfl, (HF.out _ D2.out Q5.out).1, (HF.out _ D2.out Q5.out).2⟩
  · have hn := HN7.out h7
    have hne : ((P.length : Int) == 7) = false := beq_eq_false_iff_ne.2 (by omega)
    have hth := bx1.v.there
    have hfin : ∀ w', Only (· = g0) w1 w' → Below w.heap.size w w' := fun w' q => Only.below b2 q b2.size (fun b e => by rw [e]; exact hg0)
    have HN := Lib.hid hn; clear hn
    have HTH := Lib.hid hth; clear hth
    have HFIN := Lib.hid hfin; clear hfin
    clear op hap bx1 bx0' bp b1 b2
    go_wp2_with (refine wpList_store_held rfl 25 (.tmp 2) (.tmp 14) rfl g0 0 #[.slice none 0 0, .slice none 0 0, .slice none 0 0] rfl rfl HTH.out (by kernel_rfl) (by kernel_rfl) ?_; intro w5 q5 r5 o5 f5; have e0 : w5.cell? ⟨g0, 0, none⟩ = some (.slice none 0 0) := r5 0 _ rfl; have e1 : w5.cell? ⟨g0, 1, none⟩ = some (.slice none 0 0) := r5 1 _ rfl; have e2 : w5.cell? ⟨g0, 2, none⟩ = some (.slice none 0 0) := r5 2 _ rfl; have Q5 := Lib.hid q5; clear q5; clear r5 o5 f5)
    refine bodyPost_ret (v := .tuple #[.agg #[.slice none 0 0, .slice none 0 0, .slice none 0 0], .bool false]) (by simp [results, Tryd.results10, go_sem, e0, e1, e2]) rfl ?_
    rw [HN.out]
    exact RetM2.nil (HFIN.out _ Q5.out)

theorem readM_bd (l : List UInt8) : (mdZ (readM l)).length ≤ 100000 ∧ SzSS (mdW (readM l)) ≤ 100000 ∧ (mdB (readM l)).length ≤ 100000 := by
  cases h : readM l with
  | none => exact ⟨by simp [mdZ], by decide, by simp [mdB]⟩
  | some m =>
    obtain ⟨zs, ws, bs⟩ := m
    obtain ⟨h1, h2, h3, h4⟩ := modelB_I (readM_some h).1
    have a := h1.2
    have b := h4.2
    have k0 := (h3 0 (by decide)).2
    have k1 := (h3 1 (by decide)).2
    have k2 := (h3 2 (by decide)).2
    have k3 := (h3 3 (by decide)).2
    have k4 := (h3 4 (by decide)).2
    show zs.length ≤ _ ∧ SzSS ws ≤ _ ∧ bs.length ≤ _
    simp only at a b h2 k0 k1 k2 k3 k4
    refine ⟨by omega, ?_, by omega⟩
    unfold SzSS
    rw [h2]
    simp only [lensK]
    omega

end Go.Proofs.YtgdadbmhdljcdaaDoor
