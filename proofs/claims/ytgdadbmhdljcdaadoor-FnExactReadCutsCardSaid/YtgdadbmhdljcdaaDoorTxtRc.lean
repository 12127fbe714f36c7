/- Cuts read from a text: the reference. -/
import Derived.Test.YtgdadbmhdljcdaaDoorGG
import Derived.Test.YtgdadbmhdljcdaaDoorTxtN5
import Derived.Test.YtgdadbmhdljcdaaDoorTxtNw
import Derived.Test.YtgdadbmhdljcdaaDoorTxtRa
import Derived.Test.YtgdadbmhdljcdaaDoorTxtW
namespace Go.Proofs.YtgdadbmhdljcdaaDoor
set_option linter.unusedVariables false
open Go.RowKit Go.Proofs.Bell Go.BigFrame

theorem readF_snoc : ∀ (ls : List (List UInt8)) (l : List UInt8), readF (ls ++ [l]) = (readF ls).bind fun qs => (cutR l).map fun p => qs ++ [p]
  | [], l => by
    rw [List.nil_append, readF, readF]
    cases cutR l <;> rfl
  | x :: r, l => by
    rw [List.cons_append, readF, readF, readF_snoc r l]
    cases cutR x <;> cases readF r <;> cases cutR l <;> rfl
theorem readF_no : ∀ {ls : List (List UInt8)} {l : List UInt8}, l ∈ ls → cutR l = none → readF ls = none
  | x :: r, l, h, hn => by
    rw [readF]
    rcases List.mem_cons.1 h with e | h
    · rw [← e, hn]
    · rw [readF_no h hn]; cases cutR x <;> rfl
theorem cutR_len {l : List UInt8} (h : (spl 120 l).length ≠ 2) : cutR l = none := by
  unfold cutR
  split
  · rename_i a b e; rw [e] at h; exact absurd rfl h
  · rfl
theorem two_of {α : Type} {xs : List α} (h : xs.length = 2) : ∃ a b, xs = [a, b] := by
  match xs, h with
  | [a, b], _ => exact ⟨a, b, rfl⟩

set_option maxRecDepth 1000000 in
set_option maxHeartbeats 3200000 in
theorem specReadCuts_c (s : ByteArray) (w : World) (hs : s.size ≤ 2000000) :
    Calls Tryd.prog 32 #[.string s] w (RetC2 ((readC (byteL s)).getD []) (.bool (readC (byteL s)).isSome) w) := by
  by_cases c0 : s = ⟨#[45]⟩
  · subst c0
    have e : readC (byteL ⟨#[45]⟩) = some [] := rfl
    rw [e]
    go_enter Tryd.func32, Tryd.ntmps32
    go_wp2
    go_returns
    exact ⟨_, rfl, own_empty _ _ _ _ (Nat.le_refl _), by go_grown⟩
  · have ht := dash_no c0
    have hL : byteL s ≠ [45] := fun e => c0 (by rw [← str_byteL s, e]; rfl)
    have hbl := byteL_len s
    have hsp := fun w' => l01Split_c s 44 w' hs
    have hR : ∀ qs, readF (spl 44 (byteL s)) = some qs → readC (byteL s) = if cutsB qs then some qs else none := fun qs h => by unfold readC; rw [if_neg hL, h]
    have hRn : readF (spl 44 (byteL s)) = none → readC (byteL s) = none := fun h => by unfold readC; rw [if_neg hL, h]
    have hPl : (spl 44 (byteL s)).length ≤ 2000001 := by have := spl_len_le' 44 (byteL s); omega
    have hPm : ∀ p ∈ spl 44 (byteL s), p.length ≤ 2000000 := fun p hp => by have := spl_mem_len hp; omega
    generalize readC (byteL s) = RES at *
    generalize spl 44 (byteL s) = P at *
    have hsp2 := fun (k : Nat) (h : k < P.length) w' => l01Split_c (str P[k]) 120 w' (by rw [str_size]; exact hPm _ (List.getElem_mem h))
    simp only [byteL_str] at hsp2
    have hnu := fun (l : List UInt8) (h : l.length ≤ 2000000) w' => l01Number_c (str l) w' (by rw [str_size]; exact h)
    simp only [byteL_str] at hnu
    have hQm : ∀ k (h : k < P.length), ∀ q ∈ spl 120 P[k], q.length ≤ 2000000 := fun k h q hq => by have := spl_mem_len hq; have := hPm _ (List.getElem_mem h); omega
    have hst : ∀ k (h : k < P.length) qs, readF (P.take k) = some qs → ∀ p, cutR P[k] = some p → readF (P.take (k + 1)) = some (qs ++ [p]) := fun k h qs hq p hp => by
      rw [List.take_succ_eq_append_getElem h, readF_snoc, hq, hp]; rfl
    have hno : ∀ k (h : k < P.length), cutR P[k] = none → RES = none := fun k h hn => hRn (readF_no (List.getElem_mem h) hn)
    have hlenq : ∀ k qs, k ≤ P.length → readF (P.take k) = some qs → qs.length = k := fun k qs hk h => by
      have := congrArg List.length (readF_some h)
      rw [List.length_map, List.length_take] at this; omega
    have htake : P.take P.length = P := List.take_length
    have h0q : readF (P.take 0) = some [] := rfl
    have hcv := fun (v : Value) (qs : List (Int × Int)) w' (h : Rd w' v qs.length (pairs qs)) => l09Cuts_c v qs w' h
    have hsc := fun k (h : k < P.length) => scells_str (ls := P) h
    have hSl : (P.map str).length = P.length := List.length_map ..
    have HSP := Lib.hid hsp; clear hsp
    have HR := Lib.hid hR; clear hR
    have HPM := Lib.hid hPm; clear hPm
    have HSP2 := Lib.hid hsp2; clear hsp2
    have HNU := Lib.hid hnu; clear hnu
    have HQM := Lib.hid hQm; clear hQm
    have HST := Lib.hid hst; clear hst
    have HNO := Lib.hid hno; clear hno
    have HLQ := Lib.hid hlenq; clear hlenq
    have HTK := Lib.hid htake; clear htake
    have H0Q := Lib.hid h0q; clear h0q
    have HCV := Lib.hid hcv; clear hcv
    have HSC := Lib.hid hsc; clear hsc
    have HSL := Lib.hid hSl; clear hSl
    clear hRn hL hbl c0
    go_enter Tryd.func32, Tryd.ntmps32
    go_wp2_with fail
    refine (HSP.out _).mono ?_
    rintro _ w1 ⟨vp, rfl, op, bp⟩
    have b1 : Below w.heap.size w w1 := Below.trans (by go_grown) (bp.mono (by simp))
    have oc : OwnC w.heap.size w1 (.slice (some ⟨w.heap.size, 0, none⟩) 0 0) [] := own_later (own_empty w 85 2 _ (Nat.le_refl _)) bp
    obtain ⟨ap, cp, gp, rfl, hap, _⟩ := own_open op
    rw [HSL.out]
    have OC := Lib.hid oc; clear oc
    have OP := Lib.hid op; clear op
    have B1 := Lib.hid b1; clear b1
    have HAP := Lib.hid hap; clear hap
    clear bp
    go_wp2_with fail
    go_loopw [6, 4] (fun i v wr => ∃ (k : Nat) (qs : List (Int × Int)), k ≤ P.length ∧ i = .int .i64 k ∧ readF (P.take k) = some qs ∧ OwnC w.heap.size wr v qs ∧ (∃ bs, OwnW bs wr (.slice ap P.length cp) (P.map str)) ∧ Below w.heap.size w wr) (fun i _ _ => P.length - (intOf i).toNat)
    case atStart => exact ⟨0, [], Nat.zero_le _, rfl, H0Q.out, OC.out, ⟨_, by have := OP.out; rw [HSL.out] at this; exact this⟩, B1.out⟩
    case round =>
      obtain ⟨k, qs, hk, rfl, hq, ho, ⟨bs, op⟩, hb⟩ := hrel
      have hql := HLQ.out k qs hk hq
      by_cases hlt : k < P.length
      · have hapk : ap = some ⟨gp, 0, none⟩ := by
          have := HAP.out; rw [HSL.out] at this; exact this (by omega)
        subst hapk
        have hix := ix (P := Tryd.prog) (T := 70) (sz := 1) (n := P.length) (cap := cp) Tryd.underlying70 (by kernel_rfl) (by kernel_rfl) (ao := some ⟨gp, 0, none⟩) (b := gp) (off := 0) (fun _ => rfl) (k := k) hlt _ rfl
        rw [Nat.mul_one, Nat.zero_add] at hix
        have hc := (World.ownsRow.cellAt (by rw [← HSL.out] at op; exact op) k (by rw [HSL.out]; omega)).trans (HSC.out k hlt)
        have hs2 := HSP2.out k hlt wr
        obtain ⟨av, pv, hv⟩ := own_shape ho
        subst hv
        have hst := HST.out k hlt qs hq
        have hno := HNO.out k hlt
        have hqm := HQM.out k hlt
        have hcl := cutR_len (l := P[k])
        have hcd : cutR P[k] = match spl 120 P[k] with
          | [a, b] => match numF a, numF b with
            | some z, some k => some (z, k)
            | _, _ => none
          | _ => none := rfl
        have hQl : (spl 120 P[k]).length ≤ 2000001 := by have := spl_len_le' 120 P[k]; have := HPM.out _ (List.getElem_mem hlt); omega
        have hb0 := hb.size
        generalize cutR P[k] = CR at *
        generalize hq2 : readF (P.take (k + 1)) = RK at *
        generalize spl 120 P[k] = Q at *
        generalize str P[k] = SK at *
        rw [hql]
        have HO := Lib.hid ho; clear ho
        have OP2 := Lib.hid op; clear op
        have HST2 := Lib.hid hst; clear hst
        have HNO2 := Lib.hid hno; clear hno
        have HQM2 := Lib.hid hqm; clear hqm
        have HCL := Lib.hid hcl; clear hcl
        have HCD := Lib.hid hcd; clear hcd
        have HS2 := Lib.hid hs2; clear hs2
        have HQ2 := Lib.hid hq2; clear hq2
        clear hq OC OP B1 HAP
        go_wp2_with fail
        refine HS2.out.mono ?_
        rintro _ w2 ⟨vq, rfl, oq, b2⟩
        obtain ⟨aq, cq, gq, rfl, haq, _⟩ := own_open oq
        rw [List.length_map] at haq ⊢
        by_cases c2 : Q.length = 2
        · obtain ⟨x, y, rfl⟩ := two_of c2
          obtain rfl := haq (by simp)
          have cx := World.ownsRow.cellAt oq 0 (by simp)
          have cy := World.ownsRow.cellAt oq 1 (by simp)
          have ix0 := ix (P := Tryd.prog) (T := 70) (sz := 1) (n := 2) (cap := cq) Tryd.underlying70 (by kernel_rfl) (by kernel_rfl) (ao := some ⟨gq, 0, none⟩) (b := gq) (off := 0) (fun _ => rfl) (k := 0) (by decide) 0 rfl
          have ix1 := ix (P := Tryd.prog) (T := 70) (sz := 1) (n := 2) (cap := cq) Tryd.underlying70 (by kernel_rfl) (by kernel_rfl) (ao := some ⟨gq, 0, none⟩) (b := gq) (off := 0) (fun _ => rfl) (k := 1) (by decide) 1 rfl
          have cx' : w2.cell? ⟨gq, 0, none⟩ = some (.string (str x)) := cx
          have cy' : w2.cell? ⟨gq, 1, none⟩ = some (.string (str y)) := cy
          have n1 := HNU.out x (HQM2.out x (by simp)) w2
          have n2 := HNU.out y (HQM2.out y (by simp)) w2
          have hcd := HCD.out
          simp only at hcd
          have b3 := hb.trans (b2.mono hb0)
          have o3 := own_later HO.out b2
          have op3 := own_later OP2.out b2
          have hap3 := own_apart o3 op3 (by decide)
          generalize str x = SX at *
          generalize str y = SY at *
          generalize numF x = NX at *
          generalize numF y = NY at *
          clear cx cy haq oq
          have O3 := Lib.hid o3; clear o3
          have OP3 := Lib.hid op3; clear op3
          have HAP3 := Lib.hid hap3; clear hap3
          have z3 := b3.size
          have N1 := Lib.hid n1; clear n1
          have N2 := Lib.hid n2; clear n2
          cases NX with
          | none =>
            have hn := HNO2.out (by rw [hcd])
            have HN := Lib.hid hn; clear hn
            clear hcd
            go_wp2_with fail
            refine N1.out.mono ?_
            rintro _ _ ⟨rfl, rfl⟩
            go_wp2_with fail
            refine N2.out.mono ?_
            rintro _ _ ⟨rfl, rfl⟩
            go_wp2
            go_returns
            rw [HN.out]
            exact ⟨_, rfl, World.ownsRow_nil _ _ _ _, b3⟩
          | some z =>
            cases NY with
            | none =>
              have hn := HNO2.out (by rw [hcd])
              have HN := Lib.hid hn; clear hn
              clear hcd
              go_wp2_with fail
              refine N1.out.mono ?_
              rintro _ _ ⟨rfl, rfl⟩
              go_wp2_with fail
              refine N2.out.mono ?_
              rintro _ _ ⟨rfl, rfl⟩
              go_wp2
              go_returns
              rw [HN.out]
              exact ⟨_, rfl, World.ownsRow_nil _ _ _ _, b3⟩
            | some y =>
              have hst := HST2.out (z, y) hcd
              have hfin : ∀ v' w', OwnC w.heap.size w' v' (qs ++ [(z, y)]) → Only (fun b => (Value.slice av k pv).ownBlock = some b) w2 w' → OwnC w.heap.size w' v' (qs ++ [(z, y)]) ∧ (∃ bs, OwnW bs w' (.slice (some ⟨gp, 0, none⟩) P.length cp) (P.map str)) ∧ Below w.heap.size w w' := fun v' w' o q =>
                ⟨o, ⟨_, own_only OP3.out q (fun b e h => HAP3.out b (by rw [hql]; exact h) e)⟩, Only.below b3 q z3 (fun b e => own_lo O3.out b (by rw [hql]; exact e))⟩
              have o4 : OwnC w.heap.size w2 (.slice av k pv) qs := by unfold OwnC; rw [hql]; have := O3.out; rw [hql] at this; exact this
              have O4 := Lib.hid o4; clear o4
              have HFIN := Lib.hid hfin; clear hfin
              have HST3 := Lib.hid hst; clear hst
              clear hcd
              go_wp2_with fail
              refine N1.out.mono ?_
              rintro _ _ ⟨rfl, rfl⟩
              go_wp2_with fail
              refine N2.out.mono ?_
              rintro _ _ ⟨rfl, rfl⟩
              go_wp2_with (at_builtin; refine app_CL (.tmp 52) (.tmp 56) _ _ _ _ _ _ (by rfl) (by rfl) (by rfl) (by rfl) O4.out (by omega) z3 ?_; intro v2 w9 o9 q9)
              have hf := HFIN.out v2 w9 o9 q9
              have HF := Lib.hid hf; clear hf
              clear o9 q9
              go_roundw
              case rel => exact ⟨k + 1, qs ++ [(z, y)], by omega, by go_num, HQ2.out.trans HST3.out, HF.out.1, HF.out.2.1, HF.out.2.2⟩
              case measure => simp [intOf]; omega
        · have hn := HNO2.out (HCL.out c2)
          have hne : ((Q.length : Int) != 2) = true := by simp; omega
          have hne2 : ((Q.length : Int) == 2) = false := beq_eq_false_iff_ne.2 (by omega)
          have b3 := hb.trans (b2.mono hb0)
          have HN := Lib.hid hn; clear hn
          clear oq haq
          go_wp2
          go_returns
          rw [HN.out]
          exact ⟨_, rfl, World.ownsRow_nil _ _ _ _, b3⟩
      · obtain rfl : k = P.length := by omega
        rw [HTK.out] at hq
        have hr := HR.out qs hq
        have hv := HCV.out _ qs wr (Rd.of_own ho)
        obtain ⟨av, pv, hv'⟩ := own_shape ho
        subst hv'
        cases t0 : cutsB qs <;> rw [t0] at hv hr
        · have HV := Lib.hid hv; clear hv
          have HR2 := Lib.hid hr; clear hr
          have HO := Lib.hid ho; clear ho
          clear op hq t0 hql
          go_wp2_with fail
          refine HV.out.mono ?_
          rintro _ _ ⟨rfl, rfl⟩
          go_wp2
          go_returns
          rw [HR2.out]
          exact ⟨_, rfl, World.ownsRow_nil _ _ _ _, hb⟩
        · have HV := Lib.hid hv; clear hv
          have HR2 := Lib.hid hr; clear hr
          have HO := Lib.hid ho; clear ho
          clear op hq t0 hql
          go_wp2_with fail
          refine HV.out.mono ?_
          rintro _ _ ⟨rfl, rfl⟩
          go_wp2
          go_returns
          rw [HR2.out]
          exact ⟨_, rfl, HO.out, hb⟩

theorem readC_len (l : List UInt8) : ((readC l).getD []).length ≤ 1000000 := by
  cases h : readC l with
  | none => simp
  | some ps =>
    have := (readC_some h).1
    simp only [cutsB, Bool.and_eq_true, decide_eq_true_eq] at this
    show ps.length ≤ _
    omega

end Go.Proofs.YtgdadbmhdljcdaaDoor
