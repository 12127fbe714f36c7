/- A profile read from a text: the reference. -/
import Derived.Test.YtgdadbmhdljcdaaDoorGD
import Derived.Test.YtgdadbmhdljcdaaDoorGE
import Derived.Test.YtgdadbmhdljcdaaDoorTxtPr
namespace Go.Proofs.YtgdadbmhdljcdaaDoor
set_option linter.unusedVariables false
open Go.RowKit Go.Proofs.Bell Go.BigFrame

theorem readRs_snoc (f : List UInt8 → Option (Int × Int × Int)) : ∀ (ls : List (List UInt8)) (l : List UInt8), readRs f (ls ++ [l]) = (readRs f ls).bind fun qs => (f l).map fun p => qs ++ [p]
  | [], l => by
    rw [List.nil_append, readRs, readRs]
    cases f l <;> rfl
  | x :: r, l => by
    rw [List.cons_append, readRs, readRs, readRs_snoc f r l]
    cases f x <;> cases readRs f r <;> cases f l <;> rfl
theorem readRs_no {f : List UInt8 → Option (Int × Int × Int)} : ∀ {ls : List (List UInt8)} {l : List UInt8}, l ∈ ls → f l = none → readRs f ls = none
  | x :: r, l, h, hn => by
    rw [readRs]
    rcases List.mem_cons.1 h with e | h
    · rw [← e, hn]
    · rw [readRs_no h hn]; cases f x <;> rfl
theorem readRs_len {f : List UInt8 → Option (Int × Int × Int)} : ∀ {ls : List (List UInt8)} {ps : List (Int × Int × Int)}, readRs f ls = some ps → ps.length = ls.length
  | [], ps, h => by obtain rfl := Option.some.inj h; rfl
  | l :: r, ps, h => by
    unfold readRs at h
    split at h
    · rename_i p qs h1 h2
      obtain rfl := Option.some.inj h
      rw [List.length_cons, List.length_cons, readRs_len h2]
    · cases h
def prN (r : Option PrR) : ByteArray := (r.getD (⟨#[]⟩, [])).1
def prL (r : Option PrR) : List (Int × Int × Int) := (r.getD (⟨#[]⟩, [])).2
theorem tail_take {α : Type} {xs : List α} {k : Nat} (h1 : 1 ≤ k) (h : k < xs.length) : (xs.take (k + 1)).tail = (xs.take k).tail ++ [xs[k]] := by
  rw [List.take_succ_eq_append_getElem h]
  cases hx : xs.take k with
  | nil => exact absurd (congrArg List.length hx) (by rw [List.length_take, List.length_nil]; omega)
  | cons a r => rfl
theorem mem_tail_of {α : Type} {xs : List α} {k : Nat} (h1 : 1 ≤ k) (h : k < xs.length) : xs[k] ∈ xs.tail := by
  rw [List.mem_iff_getElem]
  exact ⟨k - 1, by rw [List.length_tail]; omega, by rw [List.getElem_tail]; congr 1; omega⟩

set_option maxRecDepth 1000000 in
set_option maxHeartbeats 3200000 in
theorem l05Read_c (s : ByteArray) (w : World) (hs : s.size ≤ 2000000) :
    Calls Tryd.prog 80 #[.string s] w (RetP2 (prN (readP (byteL s))) (prL (readP (byteL s))) (.bool (readP (byteL s)).isSome) w) := by
  have hbl := byteL_len s
  have hsp := fun w' => l01Split_c s 32 w' hs
  have hRd : ∀ rs, readRs ringR (spl 32 (byteL s)).tail = some rs → readP (byteL s) = if profB (str ((spl 32 (byteL s)).headD [])) rs then some (str ((spl 32 (byteL s)).headD []), rs) else none := fun rs h => by unfold readP; rw [h]
  have hRn : readRs ringR (spl 32 (byteL s)).tail = none → readP (byteL s) = none := fun h => by unfold readP; rw [h]
  have hPl : (spl 32 (byteL s)).length ≤ 2000001 := by have := spl_len_le' 32 (byteL s); omega
  have hP1 : 1 ≤ (spl 32 (byteL s)).length := by
    cases h : spl 32 (byteL s) with
    | nil => exact absurd h (spl_ne 32 _)
    | cons _ _ => simp
  have hPm : ∀ p ∈ spl 32 (byteL s), p.length ≤ 2000000 := fun p hp => by have := spl_mem_len hp; omega
  generalize readP (byteL s) = RES at *
  generalize spl 32 (byteL s) = P at *
  have h0 : P.headD [] = P[0] := by cases P with
    | nil => simp at hP1
    | cons a r => rfl
  have hnm : (str P[0]).size ≤ maxLen := by rw [str_size]; have := hPm P[0] (List.getElem_mem _); unfold maxLen; omega
  rw [h0] at hRd
  have hsp2 := fun (k : Nat) (h : k < P.length) w' => l05ReadRing_c (str P[k]) w' (by rw [str_size]; exact hPm _ (List.getElem_mem h))
  simp only [byteL_str] at hsp2
  have hst : ∀ k (_ : 1 ≤ k) (h : k < P.length) qs, readRs ringR (P.take k).tail = some qs → ∀ p, ringR P[k] = some p → readRs ringR (P.take (k + 1)).tail = some (qs ++ [p]) := fun k h1 h qs hq p hp => by
    rw [tail_take h1 h, readRs_snoc, hq, hp]; rfl
  have hno : ∀ k (_ : 1 ≤ k) (h : k < P.length), ringR P[k] = none → RES = none := fun k h1 h hn => hRn (readRs_no (mem_tail_of h1 h) hn)
  have hlenq : ∀ k qs, 1 ≤ k → k ≤ P.length → readRs ringR (P.take k).tail = some qs → qs.length = k - 1 := fun k qs h1 hk h => by
    rw [readRs_len h, List.length_tail, List.length_take]; omega
  have htake : P.take P.length = P := List.take_length
  have h0q : readRs ringR (P.take 1).tail = some [] := by
    have : (P.take 1).tail = [] := List.eq_nil_of_length_eq_zero (by rw [List.length_tail, List.length_take]; omega)
    rw [this]; rfl
  have hok0 := fun (NM : ByteArray) (hnm : NM.size ≤ maxLen) (g : Nat) (sv : Value) (ps : List (Int × Int × Int)) w' hg c0 c1 h => l05Ok_c g NM sv ps w' hg hnm c0 c1 h
  have hok := hok0 (str P[0]) hnm
  clear hok0
  have hsc := fun k (h : k < P.length) => scells_str (ls := P) h
  have hSl : (P.map str).length = P.length := List.length_map ..
  have hrz := fun k (h : k < P.length) p => ringR_Z (l := P[k]) (p := p)
  generalize hN : str P[0] = NM at *
  have HSP := Lib.hid hsp; clear hsp
  have HR := Lib.hid hRd; clear hRd
  have HPM := Lib.hid hPm; clear hPm
  have HSP2 := Lib.hid hsp2; clear hsp2
  have HST := Lib.hid hst; clear hst
  have HNO := Lib.hid hno; clear hno
  have HLQ := Lib.hid hlenq; clear hlenq
  have HTK := Lib.hid htake; clear htake
  have H0Q := Lib.hid h0q; clear h0q
  have HOK := Lib.hid hok; clear hok
  have HSC := Lib.hid hsc; clear hsc
  have HSL := Lib.hid hSl; clear hSl
  have HRZ := Lib.hid hrz; clear hrz
  have HNM := Lib.hid hN; clear hN
  clear hRn hbl h0
  go_enter Tryd.func80, Tryd.ntmps80
  go_wp2_with fail
  have bx0 := BoxE.new w 45 [.string ⟨#[]⟩, .slice none 0 0]
  have b1 : Below w.heap.size w (w.alloc (.cells #[.string ⟨#[]⟩, .slice none 0 0] 45)) := by go_grown
  have z0 : w.heap.size + 1 ≤ (w.alloc (.cells #[.string ⟨#[]⟩, .slice none 0 0] 45)).heap.size := by simp
  have bx0' : BoxE (w.alloc (.cells #[.string ⟨#[]⟩, .slice none 0 0] 45)) w.heap.size 45 [.string ⟨#[]⟩, .slice none 0 0] := bx0
  clear bx0
  obtain ⟨g0, hg⟩ : ∃ g, g = w.heap.size := ⟨_, rfl⟩
  rw [← hg] at bx0'
  rw [← hg]
  have hg0 : w.heap.size ≤ g0 := Nat.le_of_eq hg.symm
  have hg0' : g0 < (w.alloc (.cells #[.string ⟨#[]⟩, .slice none 0 0] 45)).heap.size := by omega
  generalize w.alloc (.cells #[.string ⟨#[]⟩, .slice none 0 0] 45) = w0 at *
  refine (HSP.out _).mono ?_
  rintro _ w1 ⟨vp, rfl, op, bp⟩
  have bx1 := bx0'.later bp
  have b2 := b1.trans (bp.mono b1.size)
  obtain ⟨ap, cp, gp, rfl, hap, _⟩ := own_open op
  rw [HSL.out]
  obtain rfl := hap (by rw [HSL.out]; omega)
  have hc0 := (World.ownsRow.cellAt op 0 (by rw [HSL.out]; omega)).trans (HSC.out 0 (by omega))
  rw [HNM.out] at hc0
  have ix0 := ix (P := Tryd.prog) (T := 70) (sz := 1) (n := P.length) (cap := cp) Tryd.underlying70 (by kernel_rfl) (by kernel_rfl) (ao := some ⟨gp, 0, none⟩) (b := gp) (off := 0) (fun _ => rfl) (k := 0) (by omega) 0 rfl
  rw [Nat.zero_mul, Nat.zero_add] at ix0
  have op' : ∃ bs, OwnW bs w1 (.slice (some ⟨gp, 0, none⟩) P.length cp) (P.map str) := ⟨_, by have := op; rw [HSL.out] at this; exact this⟩
  clear op hap
  have OP := Lib.hid op'; clear op'
  have hg1 : w0.heap.size ≤ w1.heap.size := bp.size
  have bxn := BoxE.new w1 45 [.string NM, .slice none 0 0]
  have bxn' : BoxE (w1.alloc (.cells #[.string NM, .slice none 0 0] 45)) w1.heap.size 45 [.string NM, .slice none 0 0] := bxn
  have b3 : Below w.heap.size w (w1.alloc (.cells #[.string NM, .slice none 0 0] 45)) := Below.trans b2 ((show Below w1.heap.size w1 (w1.alloc (.cells #[.string NM, .slice none 0 0] 45)) by go_grown).mono b2.size)
  have bx3 := bx1.later (w' := w1.alloc (.cells #[.string NM, .slice none 0 0] 45)) (by go_grown)
  have op3 : ∃ bs, OwnW bs (w1.alloc (.cells #[.string NM, .slice none 0 0] 45)) (.slice (some ⟨gp, 0, none⟩) P.length cp) (P.map str) := by
    obtain ⟨bs, h⟩ := OP.out
    exact ⟨bs, own_later h (by go_grown)⟩
  have OP3 := Lib.hid op3; clear op3
  have BXN := Lib.hid bxn'; clear bxn'
  have BX3 := Lib.hid bx3; clear bx3
  clear bxn bx0' bx1 hg bp b1
  go_wp2_with fail
  obtain ⟨g1, hge⟩ : ∃ g, g = w1.heap.size := ⟨_, rfl⟩
  rw [← hge]
  have BXN2 := BXN.out
  rw [← hge] at BXN2
  have BXN3 := Lib.hid BXN2; clear BXN2
  have hg10 : g0 < g1 := by omega
  have hg1' : w.heap.size ≤ g1 := by omega
  clear BXN hge ix0 hc0 OP
  generalize w1.alloc (.cells #[.string NM, .slice none 0 0] 45) = w2 at *
  clear b2 z0
  go_loopw [6] (fun i wr => ∃ (k : Nat) (qs : List (Int × Int × Int)) (v : Value), 1 ≤ k ∧ k ≤ P.length ∧ i = .int .i64 k ∧ readRs ringR (P.take k).tail = some qs ∧ OwnR w.heap.size wr v qs ∧ (∃ bs, OwnW bs wr (.slice (some ⟨gp, 0, none⟩) P.length cp) (P.map str)) ∧
    BoxE wr g0 45 [.string ⟨#[]⟩, .slice none 0 0] ∧ BoxE wr g1 45 [.string NM, v] ∧ Below w.heap.size w wr) (fun i _ => P.length - (intOf i).toNat)
  case atStart => exact ⟨1, [], _, Nat.le_refl _, hP1, rfl, H0Q.out, World.ownsRow_nil _ _ _ _, OP3.out, BX3.out, BXN3.out, b3⟩
  case round =>
    obtain ⟨k, qs, v, hk1, hk, rfl, hq, ho, ⟨bs, op⟩, bx, by1, hb⟩ := hrel
    have hql := HLQ.out k qs hk1 hk hq
    clear OP3 BX3 BXN3
    by_cases hlt : k < P.length
    · have hix := ix (P := Tryd.prog) (T := 70) (sz := 1) (n := P.length) (cap := cp) Tryd.underlying70 (by kernel_rfl) (by kernel_rfl) (ao := some ⟨gp, 0, none⟩) (b := gp) (off := 0) (fun _ => rfl) (k := k) hlt _ rfl
      rw [Nat.mul_one, Nat.zero_add] at hix
      have hc := (World.ownsRow.cellAt (by rw [← HSL.out] at op; exact op) k (by rw [HSL.out]; omega)).trans (HSC.out k hlt)
      have hs2 := HSP2.out k hlt wr
      obtain ⟨av, pv, hv⟩ := own_shape ho
      subst hv
      have hst := HST.out k hk1 hlt qs hq
      have hno := HNO.out k hk1 hlt
      have hrz := HRZ.out k hlt
      have hb0 := hb.size
      generalize ringR P[k] = CR at *
      generalize ringZ P[k] = CZ at *
      generalize hq2 : readRs ringR (P.take (k + 1)).tail = RK at *
      generalize str P[k] = SK at *
      have HO := Lib.hid ho; clear ho
      have OP2 := Lib.hid op; clear op
      have HST2 := Lib.hid hst; clear hst
      have HNO2 := Lib.hid hno; clear hno
      have HRZ2 := Lib.hid hrz; clear hrz
      have HS2 := Lib.hid hs2; clear hs2
      have HQ2 := Lib.hid hq2; clear hq2
      have BX := Lib.hid bx; clear bx
      have BY := Lib.hid by1; clear by1
      have HQL := Lib.hid hql; clear hql
      clear hq
      go_wp2_with fail
      refine HS2.out.mono ?_
      rintro _ w2 ⟨rfl, b2⟩
      clear hc hix
      have b3 := hb.trans (b2.mono hb0)
      have o3 := own_later HO.out b2
      have op3 := own_later OP2.out b2
      have bx3 := BX.out.later b2
      have by3 := BY.out.later b2
      have z3 := b3.size
      cases CR with
      | none =>
        have hn := HNO2.out rfl
        have HN := Lib.hid hn; clear hn
        have hth := bx3.v.there
        have hfin : ∀ w', Only (· = g0) (w2.alloc (.cells #[.int .i64 CZ.1, .int .i64 CZ.2.1, .int .i64 CZ.2.2] 98)) w' → Below w.heap.size w w' := fun w' q => Only.below (B := w.heap.size) (a := w) (Below.trans b3 ((show Below w2.heap.size w2 (w2.alloc (.cells #[.int .i64 CZ.1, .int .i64 CZ.2.1, .int .i64 CZ.2.2] 98)) by go_grown).mono z3)) q (by simp; omega) (fun b e => by rw [e]; exact hg0)
        have hth2 := there_below (w' := w2.alloc (.cells #[.int .i64 CZ.1, .int .i64 CZ.2.1, .int .i64 CZ.2.2] 98)) (by go_grown) hth
        have HTH := Lib.hid hth2; clear hth2
        have HFIN := Lib.hid hfin; clear hfin
        clear o3 op3 bx3 by3 hth HRZ2 HST2
        go_wp2_with (refine wpList_store_held rfl 45 (.tmp 2) (.tmp 31) rfl g0 0 #[.string ⟨#[]⟩, .slice none 0 0] rfl rfl HTH.out (by kernel_rfl) (by kernel_rfl) ?_; intro w5 q5 r5 o5 f5; have e0 : w5.cell? ⟨g0, 0, none⟩ = some (.string ⟨#[]⟩) := r5 0 _ rfl; have e1 : w5.cell? ⟨g0, 1, none⟩ = some (.slice none 0 0) := r5 1 _ rfl; have Q5 := Lib.hid q5; clear q5; clear r5 o5 f5)
        refine bodyPost_ret (v := .tuple #[.agg #[.string ⟨#[]⟩, .slice none 0 0], .bool false]) (by simp [results, Tryd.results80, go_sem, e0, e1]) rfl ?_
        rw [HN.out]
        exact ⟨_, rfl, World.ownsRow_nil _ _ _ _, HFIN.out _ Q5.out⟩
      | some p =>
        obtain ⟨x, y, z⟩ := p
        have hz := HRZ2.out _ rfl
        have hst := HST2.out _ rfl
        rw [hz]
        have b4 : Below w.heap.size w (w2.alloc (.cells #[.int .i64 x, .int .i64 y, .int .i64 z] 98)) := Below.trans b3 ((show Below w2.heap.size w2 (w2.alloc (.cells #[.int .i64 x, .int .i64 y, .int .i64 z] 98)) by go_grown).mono z3)
        have b24 : Below w2.heap.size w2 (w2.alloc (.cells #[.int .i64 x, .int .i64 y, .int .i64 z] 98)) := by go_grown
        have o4 := own_later o3 b24
        have op4 := own_later op3 b24
        have bx4 := bx3.later b24
        have by4 := by3.later b24
        have hap4 := own_apart o4 op4 (by decide)
        have n0 := own_box o4 bx4 (by decide)
        have n1 := own_box o4 by4 (by decide)
        have z4 := b4.size
        have l4 := own_lo o4
        have hfin : ∀ v' w', OwnR w.heap.size w' v' (qs ++ [(x, y, z)]) → Only (fun b => (Value.slice av qs.length pv).ownBlock = some b) (w2.alloc (.cells #[.int .i64 x, .int .i64 y, .int .i64 z] 98)) w' →
            (OwnR w.heap.size (w'.setCell ⟨g1, 1, none⟩ v') v' (qs ++ [(x, y, z)]) ∧ (∃ bs, OwnW bs (w'.setCell ⟨g1, 1, none⟩ v') (.slice (some ⟨gp, 0, none⟩) P.length cp) (P.map str)) ∧
              BoxE (w'.setCell ⟨g1, 1, none⟩ v') g0 45 [.string ⟨#[]⟩, .slice none 0 0] ∧ BoxE (w'.setCell ⟨g1, 1, none⟩ v') g1 45 [.string NM, v'] ∧ Below w.heap.size w (w'.setCell ⟨g1, 1, none⟩ v')) ∧
            w'.cell? ⟨g1, 1, none⟩ = some (.slice av qs.length pv) ∧ w'.frozen? ⟨g1, 1, none⟩ = false := fun v' w' o q => by
          have by5 := by4.only q (fun e => n1 _ e rfl)
          have bx5 := bx4.only q (fun e => n0 _ e rfl)
          have op5 := own_only op4 q (fun b e h => hap4 b h e)
          have n5 := own_box o by5 (by decide)
          have hbb := Only.below b4 q z4 (fun b e => l4 b e)
          refine ⟨⟨own_set o (fun k hk => Ne.symm (n5 k hk)) v', ⟨_, own_only op5 (only_set w' g1 1 v') (fun b e h => own_box op5 by5 (by decide) b e h)⟩, bx5.only (only_set w' g1 1 v') (by omega), by5.set 1 v', Only.below hbb (only_set w' g1 1 v') hbb.size (fun b e => by rw [e]; exact hg1')⟩, by5.v.c 1 _ rfl, by5.v.f 1⟩
        have y1 : (w2.alloc (.cells #[.int .i64 x, .int .i64 y, .int .i64 z] 98)).cell? ⟨g1, 1, none⟩ = some (.slice av qs.length pv) := by4.v.c 1 _ rfl
        have O4 := Lib.hid o4; clear o4
        have HFIN := Lib.hid hfin; clear hfin
        have HST3 := Lib.hid hst; clear hst
        have HZ := Lib.hid hz; clear hz
        clear o3 op3 bx3 by3 op4 bx4 by4 hap4 n0 n1 l4 b24
        have hll : (qs ++ [(x, y, z)]).length = qs.length + 1 := by simp
        have HLL := Lib.hid hll; clear hll
        have hq3 : qs.length ≤ 3000000 := by have := HQL.out; omega
        go_wp2_with (at_builtin; refine app_RL (.tmp 33) (.tmp 35) _ _ _ _ _ _ _ (by rfl) (by rfl) (by rfl) (by rw [World.size_alloc]; rfl) O4.out hq3 z4 ?_; intro v2 w9 o9 q9; obtain ⟨ad, pd, hv2⟩ := own_shape o9; rw [HLL.out] at hv2; subst hv2; obtain ⟨hf, c9, f9⟩ := HFIN.out _ w9 o9 q9; have HF := Lib.hid hf; clear hf; clear o9 q9)
        go_roundw
        case rel => exact ⟨k + 1, qs ++ [(x, y, z)], _, by omega, by omega, by go_num, HQ2.out.trans HST3.out, HF.out.1, HF.out.2.1, HF.out.2.2.1, HF.out.2.2.2.1, HF.out.2.2.2.2⟩
        case measure => simp [intOf]; omega
    · obtain rfl : k = P.length := by omega
      rw [HTK.out] at hq
      have hr := HR.out qs hq
      have hv := HOK.out g1 v qs wr by1.v.lt (by1.v.c 0 _ rfl) (by1.v.c 1 _ rfl) (Rd.of_own ho)
      obtain ⟨av, pv, hv'⟩ := own_shape ho
      subst hv'
      have hfin : ∀ w2 w', Dr wr w2 → Only (· = g0) w2 w' → OwnR w.heap.size w' (.slice av qs.length pv) qs ∧ Below w.heap.size w w' := fun w2 w' d q => by
        have b2 := Dr.below d
        have o2 := own_later ho b2
        have bx2 := bx.later b2
        exact ⟨own_only o2 q (fun b e h => own_box o2 bx2 (by decide) b e h), Only.below (hb.trans (b2.mono hb.size)) q (Nat.le_trans hb.size b2.size) (fun b e => by rw [e]; exact hg0)⟩
      have hth : ∀ w2, Dr wr w2 → w2.there g0 0 2 ∧ w2.cell? ⟨g1, 0, none⟩ = some (.string NM) ∧ w2.cell? ⟨g1, 1, none⟩ = some (.slice av qs.length pv) := fun w2 d => ⟨(bx.later (Dr.below d)).v.there, (by1.later (Dr.below d)).v.c 0 _ rfl, (by1.later (Dr.below d)).v.c 1 _ rfl⟩
      have HFIN := Lib.hid hfin; clear hfin
      have HTH := Lib.hid hth; clear hth
      clear ho op bx by1 hq hql
      cases t0 : profB NM qs <;> rw [t0] at hv hr
      · have HV := Lib.hid hv; clear hv
        have HR2 := Lib.hid hr; clear hr
        clear t0
        go_wp2_with fail
        refine HV.out.mono ?_
        rintro _ w2 ⟨rfl, d2⟩
        obtain ⟨ht, c0, c1⟩ := HTH.out w2 d2
        have hf := HFIN.out w2
        have D2 := Lib.hid d2; clear d2
        have HF := Lib.hid hf; clear hf
        have HT := Lib.hid ht; clear ht
        clear c0 c1
        go_wp2_with (refine wpList_store_held rfl 45 (.tmp 2) (.tmp 40) rfl g0 0 #[.string ⟨#[]⟩, .slice none 0 0] rfl rfl HT.out (by kernel_rfl) (by kernel_rfl) ?_; intro w5 q5 r5 o5 f5; have e0 : w5.cell? ⟨g0, 0, none⟩ = some (.string ⟨#[]⟩) := r5 0 _ rfl; have e1 : w5.cell? ⟨g0, 1, none⟩ = some (.slice none 0 0) := r5 1 _ rfl; have Q5 := Lib.hid q5; clear q5; clear r5 o5 f5)
        refine bodyPost_ret (v := .tuple #[.agg #[.string ⟨#[]⟩, .slice none 0 0], .bool false]) (by simp [results, Tryd.results80, go_sem, e0, e1]) rfl ?_
        rw [HR2.out]
        exact ⟨_, rfl, World.ownsRow_nil _ _ _ _, (HF.out _ D2.out Q5.out).2⟩
      · have HV := Lib.hid hv; clear hv
        have HR2 := Lib.hid hr; clear hr
        clear t0
        go_wp2_with fail
        refine HV.out.mono ?_
        rintro _ w2 ⟨rfl, d2⟩
        obtain ⟨ht, c0, c1⟩ := HTH.out w2 d2
        have hf := HFIN.out w2
        have D2 := Lib.hid d2; clear d2
        have HF := Lib.hid hf; clear hf
        have HT := Lib.hid ht; clear ht
        go_wp2_with (refine wpList_store_held rfl 45 (.tmp 2) (.tmp 41) rfl g0 0 #[.string NM, .slice av qs.length pv] rfl rfl HT.out (by kernel_rfl) (by kernel_rfl) ?_; intro w5 q5 r5 o5 f5; have e0 : w5.cell? ⟨g0, 0, none⟩ = some (.string NM) := r5 0 _ rfl; have e1 : w5.cell? ⟨g0, 1, none⟩ = some (.slice av qs.length pv) := r5 1 _ rfl; have Q5 := Lib.hid q5; clear q5; clear r5 o5 f5)
        refine bodyPost_ret (v := .tuple #[.agg #[.string NM, .slice av qs.length pv], .bool true]) (by simp [results, Tryd.results80, go_sem, e0, e1]) rfl ?_
        rw [HR2.out]
        exact ⟨_, rfl, (HF.out _ D2.out Q5.out).1, (HF.out _ D2.out Q5.out).2⟩

theorem readP_len (l : List UInt8) : (prL (readP l)).length ≤ 1000000 := by
  unfold prL
  cases h : readP l with
  | none => simp
  | some p =>
    have := (profB_I (readP_some h).1).2.1
    show p.2.length ≤ _
    omega

end Go.Proofs.YtgdadbmhdljcdaaDoor
