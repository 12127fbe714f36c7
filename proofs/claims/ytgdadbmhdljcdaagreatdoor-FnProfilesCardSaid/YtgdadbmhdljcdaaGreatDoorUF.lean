/- Several texts of the proofs in one: TxtPr, TxtPl, TxtPj. -/
import Derived.Test.YtgdadbmhdljcdaaGreatDoorGD
import Derived.Test.YtgdadbmhdljcdaaGreatDoorGE
import Derived.Test.YtgdadbmhdljcdaaGreatDoorTA
import Derived.Test.YtgdadbmhdljcdaaGreatDoorTD
import Derived.Test.YtgdadbmhdljcdaaGreatDoorTE
import Derived.Test.YtgdadbmhdljcdaaGreatDoorTG
import Derived.Test.YtgdadbmhdljcdaaGreatDoorTxtRa
import Derived.Test.YtgdadbmhdljcdaaGreatDoorTxtW
/- A ring read from a text: the reference. -/
namespace Go.Proofs.YtgdadbmhdljcdaaGreatDoor
set_option linter.unusedVariables false
open Go.RowKit Go.Proofs.Bell Go.BigFrame

theorem three_of {α : Type} {xs : List α} (h : xs.length = 3) : ∃ a b c, xs = [a, b, c] := by
  match xs, h with
  | [a, b, c], _ => exact ⟨a, b, c, rfl⟩
theorem ringR_len {l : List UInt8} (h : (spl 47 l).length ≠ 3) : ringR l = none ∧ ringI l = none := by
  unfold ringR ringI
  constructor
  · split
    · rename_i a b c e; rw [e] at h; exact absurd rfl h
    · rfl
  · split
    · rename_i a b c e; rw [e] at h; exact absurd rfl h
    · rfl
def ringZ (l : List UInt8) : Int × Int × Int := (ringI l).getD (0, 0, 0)
theorem ringR_Z {l : List UInt8} {p : Int × Int × Int} (h : ringR l = some p) : ringZ l = p := by
  unfold ringR at h
  unfold ringZ ringI
  split at h
  · split at h
    · rename_i x y z ha hb hc
      obtain rfl := Option.some.inj h
      simp only [ha, hb, hc]; rfl
    · cases h
  · cases h
end Go.Proofs.YtgdadbmhdljcdaaGreatDoor

/- A profile read from a text: the reference. -/
namespace Go.Proofs.YtgdadbmhdljcdaaGreatDoor
set_option linter.unusedVariables false
open Go.RowKit Go.Proofs.Bell Go.BigFrame

theorem readRs_snoc (f : List UInt8 → Option (Int × Int × Int)) : ∀ (ls : List (List UInt8)) (l : List UInt8), readRs f (ls ++ [l]) = (readRs f ls).bind fun qs => (f l).map fun p => qs ++ [p]
  | [], l => by
    rw [List.nil_append, readRs, readRs]
    cases f l <;> rfl
  | x :: r, l => by
    rw [List.cons_append, readRs, readRs, readRs_snoc f r l]
    cases f x <;> cases readRs f r <;> cases f l <;> rfl
theorem readRs_no {f : List UInt8 → Option (Int × Int × Int)} : ∀ {ls : List (List UInt8)} {l : List UInt8}, l ∈ ls → f l = none → readRs f ls = none
  | x :: r, l, h, hn => by
    rw [readRs]
    rcases List.mem_cons.1 h with e | h
    · rw [← e, hn]
    · rw [readRs_no h hn]; cases f x <;> rfl
theorem readRs_len {f : List UInt8 → Option (Int × Int × Int)} : ∀ {ls : List (List UInt8)} {ps : List (Int × Int × Int)}, readRs f ls = some ps → ps.length = ls.length
  | [], ps, h => by obtain rfl := Option.some.inj h; rfl
  | l :: r, ps, h => by
    unfold readRs at h
    split at h
    · rename_i p qs h1 h2
      obtain rfl := Option.some.inj h
      rw [List.length_cons, List.length_cons, readRs_len h2]
    · cases h
def prN (r : Option PrR) : ByteArray := (r.getD (⟨#[]⟩, [])).1
def prL (r : Option PrR) : List (Int × Int × Int) := (r.getD (⟨#[]⟩, [])).2
theorem tail_take {α : Type} {xs : List α} {k : Nat} (h1 : 1 ≤ k) (h : k < xs.length) : (xs.take (k + 1)).tail = (xs.take k).tail ++ [xs[k]] := by
  rw [List.take_succ_eq_append_getElem h]
  cases hx : xs.take k with
  | nil => exact absurd (congrArg List.length hx) (by rw [List.length_take, List.length_nil]; omega)
  | cons a r => rfl
theorem mem_tail_of {α : Type} {xs : List α} {k : Nat} (h1 : 1 ≤ k) (h : k < xs.length) : xs[k] ∈ xs.tail := by
  rw [List.mem_iff_getElem]
  exact ⟨k - 1, by rw [List.length_tail]; omega, by rw [List.getElem_tail]; congr 1; omega⟩

theorem readP_len (l : List UInt8) : (prL (readP l)).length ≤ 1000000 := by
  unfold prL
  cases h : readP l with
  | none => simp
  | some p =>
    have := (profB_I (readP_some h).1).2.1
    show p.2.length ≤ _
    omega

end Go.Proofs.YtgdadbmhdljcdaaGreatDoor

/- A profile read from a text: the program. -/
namespace Go.Proofs.YtgdadbmhdljcdaaGreatDoor
set_option linter.unusedVariables false
open Go.RowKit Go.Proofs.Bell Go.BigFrame

set_option maxRecDepth 1000000 in
set_option maxHeartbeats 3200000 in
theorem implReadProfile_c (s : ByteArray) (w : World) (hs : s.size ≤ 2000000) (hrt : RTab w) :
    Calls Tryz.prog 8 #[.string s] w (RetP2 (prN (readP (byteL s))) (prL (readP (byteL s))) (.bool (readP (byteL s)).isSome) w) := by
  have hbl := byteL_len s
  have hsp := fun w' (hb : Below w.heap.size w w') => SplitR_c s 32 w' hs (hrt.later hb)
  rw [readP_I]
  have hRd : ∀ rs, readRs ringI (spl 32 (byteL s)).tail = some rs → readPI (byteL s) = if profB (str ((spl 32 (byteL s)).headD [])) rs = true ∧ outP (str ((spl 32 (byteL s)).headD [])) rs rs.length = byteL s then some (str ((spl 32 (byteL s)).headD []), rs) else none := fun rs h => by unfold readPI; rw [h]
  have hRn : readRs ringI (spl 32 (byteL s)).tail = none → readPI (byteL s) = none := fun h => by unfold readPI; rw [h]
  have hPl : (spl 32 (byteL s)).length ≤ 2000001 := by have := spl_len_le' 32 (byteL s); omega
  have hP1 : 1 ≤ (spl 32 (byteL s)).length := by
    cases h : spl 32 (byteL s) with
    | nil => exact absurd h (spl_ne 32 _)
    | cons _ _ => simp
  have hPm : ∀ p ∈ spl 32 (byteL s), p.length ≤ 2000000 := fun p hp => by have := spl_mem_len hp; omega
  have hts : ∀ l, str l = s ↔ l = byteL s := fun l => ⟨fun e => by rw [← e, byteL_str], fun e => by rw [e, str_byteL]⟩
  generalize readPI (byteL s) = RES at *
  generalize spl 32 (byteL s) = P at *
  have h0 : P.headD [] = P[0] := by cases P with
    | nil => simp at hP1
    | cons a r => rfl
  have hnm : (str P[0]).size ≤ maxLen := by rw [str_size]; have := hPm P[0] (List.getElem_mem _); unfold maxLen; omega
  rw [h0] at hRd
  have hsp2 := fun (k : Nat) (h : k < P.length) w' (hb : Below w.heap.size w w') => SplitR_c (str P[k]) 47 w' (by rw [str_size]; exact hPm _ (List.getElem_mem h)) (hrt.later hb)
  simp only [byteL_str] at hsp2
  have hrd := fun (l : List UInt8) (h : l.length ≤ 2000000) w' (hb : Below w.heap.size w w') => ReadDecimal_c (str l) w' (by rw [str_size]; exact h) (hrt.later hb)
  simp only [byteL_str] at hrd
  have hQm : ∀ k (h : k < P.length), ∀ q ∈ spl 47 P[k], q.length ≤ 2000000 := fun k h q hq => by have := spl_mem_len hq; have := hPm _ (List.getElem_mem h); omega
  have hst : ∀ k (_ : 1 ≤ k) (h : k < P.length) qs, readRs ringI (P.take k).tail = some qs → ∀ p, ringI P[k] = some p → readRs ringI (P.take (k + 1)).tail = some (qs ++ [p]) := fun k h1 h qs hq p hp => by
    rw [tail_take h1 h, readRs_snoc, hq, hp]; rfl
  have hno : ∀ k (_ : 1 ≤ k) (h : k < P.length), ringI P[k] = none → RES = none := fun k h1 h hn => hRn (readRs_no (mem_tail_of h1 h) hn)
  have hlenq : ∀ k qs, 1 ≤ k → k ≤ P.length → readRs ringI (P.take k).tail = some qs → qs.length = k - 1 := fun k qs h1 hk h => by
    rw [readRs_len h, List.length_tail, List.length_take]; omega
  have htake : P.take P.length = P := List.take_length
  have h0q : readRs ringI (P.take 1).tail = some [] := by
    have : (P.take 1).tail = [] := List.eq_nil_of_length_eq_zero (by rw [List.length_tail, List.length_take]; omega)
    rw [this]; rfl
  have hok0 := fun (NM : ByteArray) (hnm : NM.size ≤ maxLen) (sv : Value) (ps : List (Int × Int × Int)) w' h => ValidProfile_c NM sv ps w' hnm h
  have hpt0 := fun (NM : ByteArray) (hnm : NM.size ≤ maxLen) (sv : Value) (ps : List (Int × Int × Int)) w' h (hb : Below w.heap.size w w') => implProfileText_c NM sv ps w' hnm h (hrt.later hb).1
  have hok := hok0 (str P[0]) hnm
  have hpt := hpt0 (str P[0]) hnm
  clear hok0 hpt0
  have hsc := fun k (h : k < P.length) => scells_str (ls := P) h
  have hSl : (P.map str).length = P.length := List.length_map ..
  generalize hN : str P[0] = NM at *
  have HSP := Lib.hid hsp; clear hsp
  have HR := Lib.hid hRd; clear hRd
  have HPM := Lib.hid hPm; clear hPm
  have HSP2 := Lib.hid hsp2; clear hsp2
  have HRD := Lib.hid hrd; clear hrd
  have HQM := Lib.hid hQm; clear hQm
  have HST := Lib.hid hst; clear hst
  have HNO := Lib.hid hno; clear hno
  have HLQ := Lib.hid hlenq; clear hlenq
  have HTK := Lib.hid htake; clear htake
  have H0Q := Lib.hid h0q; clear h0q
  have HOK := Lib.hid hok; clear hok
  have HPT := Lib.hid hpt; clear hpt
  have HSC := Lib.hid hsc; clear hsc
  have HSL := Lib.hid hSl; clear hSl
  have HNM := Lib.hid hN; clear hN
  have HTS := Lib.hid hts; clear hts
  clear hRn hbl h0
  go_enter Tryz.func8, Tryz.ntmps8
  go_wp2_with fail
  have bx0 := BoxE.new w 26 [.string ⟨#[]⟩, .slice none 0 0]
  have b1 : Below w.heap.size w (w.alloc (.cells #[.string ⟨#[]⟩, .slice none 0 0] 26)) := by go_grown
  have bx0' : BoxE (w.alloc (.cells #[.string ⟨#[]⟩, .slice none 0 0] 26)) w.heap.size 26 [.string ⟨#[]⟩, .slice none 0 0] := bx0
  have z0 : w.heap.size + 1 ≤ (w.alloc (.cells #[.string ⟨#[]⟩, .slice none 0 0] 26)).heap.size := by simp
  clear bx0
  obtain ⟨g0, hg⟩ : ∃ g, g = w.heap.size := ⟨_, rfl⟩
  rw [← hg] at bx0'
  rw [← hg]
  have hg0 : w.heap.size ≤ g0 := Nat.le_of_eq hg.symm
  have hg0' : g0 < (w.alloc (.cells #[.string ⟨#[]⟩, .slice none 0 0] 26)).heap.size := by omega
  generalize w.alloc (.cells #[.string ⟨#[]⟩, .slice none 0 0] 26) = w0 at *
  refine (HSP.out _ b1).mono ?_
  rintro _ w1 ⟨vp, rfl, op, bp⟩
  have bx1 := bx0'.later bp
  have b2 := b1.trans (bp.mono b1.size)
  obtain ⟨ap, cp, gp, rfl, hap, _⟩ := own_open op
  have hcap : P.length ≤ cp ∧ cp ≤ 9223372036854775807 := by
    obtain ⟨_, h⟩ := op
    rcases h with ⟨h, _⟩ | ⟨g', cap, cur, hv, _, _, hn, hm, _⟩
    · injection h with h1 h2 h3; rw [HSL.out] at h2; omega
    · injection hv with e1 e2 e3; subst e3; rw [HSL.out] at hn; unfold maxLen at hm; omega
  rw [HSL.out]
  obtain rfl := hap (by rw [HSL.out]; omega)
  have hc0 := (World.ownsRow.cellAt op 0 (by rw [HSL.out]; omega)).trans (HSC.out 0 (by omega))
  rw [HNM.out] at hc0
  have ix0 := ix (P := Tryz.prog) (T := 80) (sz := 1) (n := P.length) (cap := cp) Tryz.underlying80 (by kernel_rfl) (by kernel_rfl) (ao := some ⟨gp, 0, none⟩) (b := gp) (off := 0) (fun _ => rfl) (k := 0) (by omega) 0 rfl
  rw [Nat.zero_mul, Nat.zero_add] at ix0
  have op' : ∃ bs, OwnW bs w1 (.slice (some ⟨gp, 0, none⟩) P.length cp) (P.map str) := ⟨_, by have := op; rw [HSL.out] at this; exact this⟩
  clear op hap
  have OP := Lib.hid op'; clear op'
  have hg1 : w0.heap.size ≤ w1.heap.size := bp.size
  have bxn' : BoxE (w1.alloc (.cells #[.string NM, .slice none 0 0] 26)) w1.heap.size 26 [.string NM, .slice none 0 0] := BoxE.new w1 26 [.string NM, .slice none 0 0]
  have b3 : Below w.heap.size w (w1.alloc (.cells #[.string NM, .slice none 0 0] 26)) := Below.trans b2 ((show Below w1.heap.size w1 (w1.alloc (.cells #[.string NM, .slice none 0 0] 26)) by go_grown).mono b2.size)
  have bx3 := bx1.later (w' := w1.alloc (.cells #[.string NM, .slice none 0 0] 26)) (by go_grown)
  have op3 : ∃ bs, OwnW bs (w1.alloc (.cells #[.string NM, .slice none 0 0] 26)) (.slice (some ⟨gp, 0, none⟩) P.length cp) (P.map str) := by
    obtain ⟨bs, h⟩ := OP.out
    exact ⟨bs, own_later h (by go_grown)⟩
  have OP3 := Lib.hid op3; clear op3
  have BXN := Lib.hid bxn'; clear bxn'
  have BX3 := Lib.hid bx3; clear bx3
  clear bx0' bx1 hg bp b1
  obtain ⟨of, cq, hof, hsl⟩ := reslice_one (g := gp) (n := P.length) (c := cp) hP1 hcap.1 (by omega)
  have HOF := Lib.hid hof; clear hof
  go_wp2_with fail
  obtain ⟨g1, hge⟩ : ∃ g, g = w1.heap.size := ⟨_, rfl⟩
  rw [← hge]
  have BXN2 := BXN.out
  rw [← hge] at BXN2
  have BXN3 := Lib.hid BXN2; clear BXN2
  have hg10 : g0 < g1 := by omega
  have hg1' : w.heap.size ≤ g1 := by omega
  clear BXN hge ix0 hc0 OP hsl hcap
  generalize w1.alloc (.cells #[.string NM, .slice none 0 0] 26) = w2 at *
  clear b2 z0
  go_loopw [19] (fun i wr => ∃ (k : Nat) (qs : List (Int × Int × Int)) (v : Value), k + 1 ≤ P.length ∧ i = .int .i64 k ∧ readRs ringI (P.take (k + 1)).tail = some qs ∧ OwnR w.heap.size wr v qs ∧ (∃ bs, OwnW bs wr (.slice (some ⟨gp, 0, none⟩) P.length cp) (P.map str)) ∧
    BoxE wr g0 26 [.string ⟨#[]⟩, .slice none 0 0] ∧ BoxE wr g1 26 [.string NM, v] ∧ Below w.heap.size w wr) (fun i _ => P.length - (intOf i).toNat)
  case atStart => exact ⟨0, [], _, hP1, rfl, H0Q.out, World.ownsRow_nil _ _ _ _, OP3.out, BX3.out, BXN3.out, b3⟩
  case round =>
    obtain ⟨k, qs, v, hk, rfl, hq, ho, ⟨bs, op⟩, bx, by1, hb⟩ := hrel
    have hql := HLQ.out (k + 1) qs (by omega) hk hq
    clear OP3 BX3 BXN3
    by_cases hlt : k < P.length - 1
    · have hltk : k + 1 < P.length := by omega
      obtain rfl : of = 1 := by have := HOF.out; omega
      have hix := ix (P := Tryz.prog) (T := 80) (sz := 1) (n := P.length - 1) (cap := cq) Tryz.underlying80 (by kernel_rfl) (by kernel_rfl) (ao := some ⟨gp, 1, none⟩) (b := gp) (off := 1) (fun _ => rfl) (k := k) hlt _ rfl
      rw [Nat.mul_one, Nat.add_comm] at hix
      have hc := (World.ownsRow.cellAt (by rw [← HSL.out] at op; exact op) (k + 1) (by rw [HSL.out]; omega)).trans (HSC.out (k + 1) hltk)
      have hs2 := HSP2.out (k + 1) hltk wr hb
      obtain ⟨av, pv, hv⟩ := own_shape ho
      subst hv
      have hst := HST.out (k + 1) (by omega) hltk qs hq
      have hno := HNO.out (k + 1) (by omega) hltk
      have hqm := HQM.out (k + 1) hltk
      have hcl : (spl 47 P[k + 1]).length ≠ 3 → ringI P[k + 1] = none := fun hne => (ringR_len hne).2
      have hId : ringI P[k + 1] = match spl 47 P[k + 1] with
        | [a, b, c] => some ((numF a).getD 0, (numF b).getD 0, (numF c).getD 0)
        | _ => none := rfl
      have hQl : (spl 47 P[k + 1]).length ≤ 2000001 := by have := spl_len_le' 47 P[k + 1]; have := HPM.out _ (List.getElem_mem hltk); omega
      have hb0 := hb.size
      generalize ringI P[k + 1] = CR at *
      generalize hq2 : readRs ringI (P.take (k + 1 + 1)).tail = RK at *
      generalize spl 47 P[k + 1] = Q at *
      generalize str P[k + 1] = SK at *
      have HO := Lib.hid ho; clear ho
      have OP2 := Lib.hid op; clear op
      have HST2 := Lib.hid hst; clear hst
      have HNO2 := Lib.hid hno; clear hno
      have HQM2 := Lib.hid hqm; clear hqm
      have HCL := Lib.hid hcl; clear hcl
      have HID := Lib.hid hId; clear hId
      have HS2 := Lib.hid hs2; clear hs2
      have HQ2 := Lib.hid hq2; clear hq2
      have BX := Lib.hid bx; clear bx
      have BY := Lib.hid by1; clear by1
      have HQL := Lib.hid hql; clear hql
      clear hq
      go_wp2_with fail
      refine HS2.out.mono ?_
      rintro _ w2 ⟨vq, rfl, oq, b2⟩
      clear hc hix
      obtain ⟨aq, cq, gq, rfl, haq, _⟩ := own_open oq
      rw [List.length_map] at haq ⊢
      have b3 := hb.trans (b2.mono hb0)
      have o3 := own_later HO.out b2
      have op3 := own_later OP2.out b2
      have bx3 := BX.out.later b2
      have by3 := BY.out.later b2
      have z3 := b3.size
      by_cases c2 : Q.length = 3
      · obtain ⟨x, y, z, rfl⟩ := three_of c2
        obtain rfl := haq (by simp)
        have cx : w2.cell? ⟨gq, 0, none⟩ = some (.string (str x)) := World.ownsRow.cellAt oq 0 (by simp)
        have cy : w2.cell? ⟨gq, 1, none⟩ = some (.string (str y)) := World.ownsRow.cellAt oq 1 (by simp)
        have cz : w2.cell? ⟨gq, 2, none⟩ = some (.string (str z)) := World.ownsRow.cellAt oq 2 (by simp)
        have ix0 := ix (P := Tryz.prog) (T := 80) (sz := 1) (n := 3) (cap := cq) Tryz.underlying80 (by kernel_rfl) (by kernel_rfl) (ao := some ⟨gq, 0, none⟩) (b := gq) (off := 0) (fun _ => rfl) (k := 0) (by decide) 0 rfl
        have ix1 := ix (P := Tryz.prog) (T := 80) (sz := 1) (n := 3) (cap := cq) Tryz.underlying80 (by kernel_rfl) (by kernel_rfl) (ao := some ⟨gq, 0, none⟩) (b := gq) (off := 0) (fun _ => rfl) (k := 1) (by decide) 1 rfl
        have ix2 := ix (P := Tryz.prog) (T := 80) (sz := 1) (n := 3) (cap := cq) Tryz.underlying80 (by kernel_rfl) (by kernel_rfl) (ao := some ⟨gq, 0, none⟩) (b := gq) (off := 0) (fun _ => rfl) (k := 2) (by decide) 2 rfl
        have hcd := HID.out
        simp only at hcd
        have hst := HST2.out _ hcd
        have m1 := HQM2.out x (by simp)
        have m2 := HQM2.out y (by simp)
        have m3 := HQM2.out z (by simp)
        have O3 := Lib.hid o3; clear o3
        have OP3 := Lib.hid op3; clear op3
        have BX3 := Lib.hid bx3; clear bx3
        have BY3 := Lib.hid by3; clear by3
        have HST3 := Lib.hid hst; clear hst
        have gq2 : gq < w2.heap.size := World.block_lt_of_cell? _ _ cx
        clear oq haq hcd
        go_wp2_with fail
        have bv : BoxV (w2.alloc (.cells #[.int .i64 0, .int .i64 0, .int .i64 0] 37)) w2.heap.size [.int .i64 0, .int .i64 0, .int .i64 0] := BoxV.new w2 37 [.int .i64 0, .int .i64 0, .int .i64 0]
        have b4 : Below w2.heap.size w2 (w2.alloc (.cells #[.int .i64 0, .int .i64 0, .int .i64 0] 37)) := by go_grown
        obtain ⟨g2, hg2e⟩ : ∃ g, g = w2.heap.size := ⟨_, rfl⟩
        rw [← hg2e] at bv
        rw [← hg2e]
        have hg2 : w2.heap.size ≤ g2 := Nat.le_of_eq hg2e.symm
        clear hg2e
        generalize w2.alloc (.cells #[.int .i64 0, .int .i64 0, .int .i64 0] 37) = w4 at *
        have cy4 := below_cell b4 cy
        have cz4 := below_cell b4 cz
        clear cx cy cz
        refine (HRD.out x m1 w4 (b3.trans (b4.mono z3))).mono ?_
        rintro _ w5 ⟨rfl, b5⟩
        have bv5 := bv.later b5
        have b25 := b4.trans (b5.mono b4.size)
        have cy5 := below_cell b5 cy4
        have cz5 := below_cell b5 cz4
        have e0 := bv5.c 0 _ rfl
        have f0 := bv5.f 0
        generalize (numF x).getD 0 = NX at *
        generalize (numF x).isSome = BX at *
        clear bv b5 b4 cy4 cz4
        go_wp2_with fail
        have bv6 : BoxV (w5.setCell ⟨g2, 0, none⟩ (.int .i64 NX)) g2 [.int .i64 NX, .int .i64 0, .int .i64 0] := bv5.set 0 _
        have b26 : Below w2.heap.size w2 (w5.setCell ⟨g2, 0, none⟩ (.int .i64 NX)) := Only.below b25 (only_set w5 g2 0 _) b25.size (fun b e => by rw [e]; exact hg2)
        have cy6 : (w5.setCell ⟨g2, 0, none⟩ (.int .i64 NX)).cell? ⟨gq, 1, none⟩ = some (.string (str y)) := cell_only (only_set w5 g2 0 _) cy5 (by show ¬ gq = g2; omega)
        have cz6 : (w5.setCell ⟨g2, 0, none⟩ (.int .i64 NX)).cell? ⟨gq, 2, none⟩ = some (.string (str z)) := cell_only (only_set w5 g2 0 _) cz5 (by show ¬ gq = g2; omega)
        generalize w5.setCell ⟨g2, 0, none⟩ (.int .i64 NX) = w6 at *
        clear e0 f0 bv5 b25 cy5 cz5
        refine (HRD.out y m2 w6 (b3.trans (b26.mono z3))).mono ?_
        rintro _ w7 ⟨rfl, b7⟩
        have bv7 := bv6.later b7
        have b27 := b26.trans (b7.mono b26.size)
        have cz7 := below_cell b7 cz6
        have e1 := bv7.c 1 _ rfl
        have f1 := bv7.f 1
        generalize (numF y).getD 0 = NY at *
        generalize (numF y).isSome = BY2 at *
        clear bv6 b7 b26 cy6 cz6
        go_wp2_with fail
        have bv8 : BoxV (w7.setCell ⟨g2, 1, none⟩ (.int .i64 NY)) g2 [.int .i64 NX, .int .i64 NY, .int .i64 0] := bv7.set 1 _
        have b28 : Below w2.heap.size w2 (w7.setCell ⟨g2, 1, none⟩ (.int .i64 NY)) := Only.below b27 (only_set w7 g2 1 _) b27.size (fun b e => by rw [e]; exact hg2)
        have cz8 : (w7.setCell ⟨g2, 1, none⟩ (.int .i64 NY)).cell? ⟨gq, 2, none⟩ = some (.string (str z)) := cell_only (only_set w7 g2 1 _) cz7 (by show ¬ gq = g2; omega)
        generalize w7.setCell ⟨g2, 1, none⟩ (.int .i64 NY) = w8 at *
        clear e1 f1 bv7 b27 cz7
        refine (HRD.out z m3 w8 (b3.trans (b28.mono z3))).mono ?_
        rintro _ w9 ⟨rfl, b9⟩
        have bv9 := bv8.later b9
        have b29 := b28.trans (b9.mono b28.size)
        have e2 := bv9.c 2 _ rfl
        have f2 := bv9.f 2
        generalize (numF z).getD 0 = NZ at *
        generalize (numF z).isSome = BZ at *
        clear bv8 b9 b28 cz8
        have bvA : BoxV (w9.setCell ⟨g2, 2, none⟩ (.int .i64 NZ)) g2 [.int .i64 NX, .int .i64 NY, .int .i64 NZ] := bv9.set 2 _
        have b2A : Below w2.heap.size w2 (w9.setCell ⟨g2, 2, none⟩ (.int .i64 NZ)) := Only.below b29 (only_set w9 g2 2 _) b29.size (fun b e => by rw [e]; exact hg2)
        have p0 := bvA.c 0 _ rfl
        have p1 := bvA.c 1 _ rfl
        have p2 := bvA.c 2 _ rfl
        have o4 := own_later O3.out b2A
        have op4 := own_later OP3.out b2A
        have bx4 := BX3.out.later b2A
        have by4 := BY3.out.later b2A
        have hap4 := own_apart o4 op4 (by decide)
        have n0 := own_box o4 bx4 (by decide)
        have n1 := own_box o4 by4 (by decide)
        have b4 := b3.trans (b2A.mono z3)
        have z4 := b4.size
        have l4 := own_lo o4
        have hfin : ∀ v' w', OwnR w.heap.size w' v' (qs ++ [(NX, NY, NZ)]) → Only (fun b => (Value.slice av qs.length pv).ownBlock = some b) (w9.setCell ⟨g2, 2, none⟩ (.int .i64 NZ)) w' →
            (OwnR w.heap.size (w'.setCell ⟨g1, 1, none⟩ v') v' (qs ++ [(NX, NY, NZ)]) ∧ (∃ bs, OwnW bs (w'.setCell ⟨g1, 1, none⟩ v') (.slice (some ⟨gp, 0, none⟩) P.length cp) (P.map str)) ∧
              BoxE (w'.setCell ⟨g1, 1, none⟩ v') g0 26 [.string ⟨#[]⟩, .slice none 0 0] ∧ BoxE (w'.setCell ⟨g1, 1, none⟩ v') g1 26 [.string NM, v'] ∧ Below w.heap.size w (w'.setCell ⟨g1, 1, none⟩ v')) ∧
            w'.cell? ⟨g1, 1, none⟩ = some (.slice av qs.length pv) ∧ w'.frozen? ⟨g1, 1, none⟩ = false := fun v' w' o q => by
          have by5 := by4.only q (fun e => n1 _ e rfl)
          have bx5 := bx4.only q (fun e => n0 _ e rfl)
          have op5 := own_only op4 q (fun b e h => hap4 b h e)
          have n5 := own_box o by5 (by decide)
          have hbb := Only.below b4 q z4 (fun b e => l4 b e)
          refine ⟨⟨own_set o (fun k hk => Ne.symm (n5 k hk)) v', ⟨_, own_only op5 (only_set w' g1 1 v') (fun b e h => own_box op5 by5 (by decide) b e h)⟩, bx5.only (only_set w' g1 1 v') (by omega), by5.set 1 v', Only.below hbb (only_set w' g1 1 v') hbb.size (fun b e => by rw [e]; exact hg1')⟩, by5.v.c 1 _ rfl, by5.v.f 1⟩
        have y1 : (w9.setCell ⟨g2, 2, none⟩ (.int .i64 NZ)).cell? ⟨g1, 1, none⟩ = some (.slice av qs.length pv) := by4.v.c 1 _ rfl
        have hll : (qs ++ [(NX, NY, NZ)]).length = qs.length + 1 := by simp
        have HLL := Lib.hid hll; clear hll
        have hq3 : qs.length ≤ 3000000 := by have := HQL.out; omega
        have O4 := Lib.hid o4; clear o4
        have HFIN := Lib.hid hfin; clear hfin
        clear op4 bx4 by4 hap4 n0 n1 l4 bv9 b29 bvA
        have y2 : w9.cell? ⟨g1, 1, none⟩ = some (.slice av qs.length pv) := by rw [cell_setCell, if_neg (by have := BY3.out.v.lt; omega)] at y1; exact y1
        go_wp2_with (at_builtin; refine app_RL (.tmp 54) (.tmp 56) _ _ _ _ _ _ _ (by rfl) (by rfl) (by rfl) (by rw [World.size_setCell]; rfl) O4.out hq3 z4 ?_; intro v2 wB oB qB; obtain ⟨ad, pd, hv2⟩ := own_shape oB; rw [HLL.out] at hv2; subst hv2; obtain ⟨hf, cB, fB⟩ := HFIN.out _ wB oB qB; have HF := Lib.hid hf; clear hf; clear oB qB)
        go_roundw
        case rel => exact ⟨k + 1, qs ++ [(NX, NY, NZ)], _, by omega, by go_num, HQ2.out.trans HST3.out, HF.out.1, HF.out.2.1, HF.out.2.2.1, HF.out.2.2.2.1, HF.out.2.2.2.2⟩
        case measure => simp [intOf]; omega
      · have hne : ((Q.length : Int) == 3) = false := beq_eq_false_iff_ne.2 (by omega)
        have hn := HNO2.out (HCL.out c2)
        have HN := Lib.hid hn; clear hn
        have hth := bx3.v.there
        have hfin : ∀ w', Only (· = g0) w2 w' → Below w.heap.size w w' := fun w' q => Only.below b3 q z3 (fun b e => by rw [e]; exact hg0)
        have HTH := Lib.hid hth; clear hth
        have HFIN := Lib.hid hfin; clear hfin
        clear o3 op3 bx3 by3 oq haq
        go_wp2_with (refine wpList_store_held rfl 26 (.tmp 2) (.tmp 28) rfl g0 0 #[.string ⟨#[]⟩, .slice none 0 0] rfl rfl HTH.out (by kernel_rfl) (by kernel_rfl) ?_; intro w5 q5 r5 o5 f5; have e0 : w5.cell? ⟨g0, 0, none⟩ = some (.string ⟨#[]⟩) := r5 0 _ rfl; have e1 : w5.cell? ⟨g0, 1, none⟩ = some (.slice none 0 0) := r5 1 _ rfl; have Q5 := Lib.hid q5; clear q5; clear r5 o5 f5)
        refine bodyPost_ret (v := .tuple #[.agg #[.string ⟨#[]⟩, .slice none 0 0], .bool false]) (by simp [results, Tryz.results8, go_sem, e0, e1]) rfl ?_
        rw [HN.out]
        exact ⟨_, rfl, World.ownsRow_nil _ _ _ _, HFIN.out _ Q5.out⟩
    · have hkP : k + 1 = P.length := by omega
      rw [hkP, HTK.out] at hq
      have hr := HR.out qs hq
      have hv := HOK.out v qs wr (Rd.of_own ho)
      have hpt := fun w' (hb' : Below wr.heap.size wr w') => HPT.out v qs w' (Rd.of_own (own_later ho hb')) (hb.trans (hb'.mono hb.size))
      obtain ⟨av, pv, hv'⟩ := own_shape ho
      subst hv'
      have htst : ∀ t, ((profTI NM qs).toList == s.toList) = t → profB NM qs = true → decide (outP NM qs qs.length = byteL s) = t := fun t h1 h2 => by
        rw [toL_eq] at h1
        unfold profTI at h1
        rw [if_pos h2] at h1
        rw [← h1]
        exact decide_eq_decide.2 (HTS.out _).symm
      have hfin : ∀ w2 w', Below wr.heap.size wr w2 → Only (· = g0) w2 w' → OwnR w.heap.size w' (.slice av qs.length pv) qs ∧ Below w.heap.size w w' := fun w2 w' b2 q => by
        have o2 := own_later ho b2
        have bx2 := bx.later b2
        exact ⟨own_only o2 q (fun b e h => own_box o2 bx2 (by decide) b e h), Only.below (hb.trans (b2.mono hb.size)) q (Nat.le_trans hb.size b2.size) (fun b e => by rw [e]; exact hg0)⟩
      have hth : ∀ w2, Below wr.heap.size wr w2 → w2.there g0 0 2 ∧ w2.cell? ⟨g1, 0, none⟩ = some (.string NM) ∧ w2.cell? ⟨g1, 1, none⟩ = some (.slice av qs.length pv) := fun w2 d => ⟨(bx.later d).v.there, (by1.later d).v.c 0 _ rfl, (by1.later d).v.c 1 _ rfl⟩
      have y0 := (hth wr (Below.refl _ _)).2.1
      have y1 := (hth wr (Below.refl _ _)).2.2
      have HFIN := Lib.hid hfin; clear hfin
      have HTH := Lib.hid hth; clear hth
      have HPT2 := Lib.hid hpt; clear hpt
      clear ho op bx by1 hq hql hkP
      cases t0 : profB NM qs
      · rw [t0] at hv hr
        rw [if_neg (by rintro ⟨h, _⟩; cases h)] at hr
        have HV := Lib.hid hv; clear hv
        have HR2 := Lib.hid hr; clear hr
        clear t0 htst
        go_wp2_with fail
        refine HV.out.mono ?_
        rintro _ w2 ⟨rfl, d2⟩
        obtain ⟨ht, c0, c1⟩ := HTH.out w2 d2
        have hf := HFIN.out w2
        have D2 := Lib.hid d2; clear d2
        have HF := Lib.hid hf; clear hf
        have HT := Lib.hid ht; clear ht
        go_wp2_with (refine wpList_store_held rfl 26 (.tmp 2) (.tmp 69) rfl g0 0 #[.string ⟨#[]⟩, .slice none 0 0] rfl rfl HT.out (by kernel_rfl) (by kernel_rfl) ?_; intro w5 q5 r5 o5 f5; have e0 : w5.cell? ⟨g0, 0, none⟩ = some (.string ⟨#[]⟩) := r5 0 _ rfl; have e1 : w5.cell? ⟨g0, 1, none⟩ = some (.slice none 0 0) := r5 1 _ rfl; have Q5 := Lib.hid q5; clear q5; clear r5 o5 f5)
        refine bodyPost_ret (v := .tuple #[.agg #[.string ⟨#[]⟩, .slice none 0 0], .bool false]) (by simp [results, Tryz.results8, go_sem, e0, e1]) rfl ?_
        rw [HR2.out]
        exact ⟨_, rfl, World.ownsRow_nil _ _ _ _, (HF.out _ D2.out Q5.out).2⟩
      · rw [t0] at hv hr
        cases t1 : ((profTI NM qs).toList == s.toList)
        · have := htst _ t1 t0
          rw [if_neg (by rintro ⟨_, h⟩; rw [decide_eq_true h] at this; cases this)] at hr
          have HV := Lib.hid hv; clear hv
          have HR2 := Lib.hid hr; clear hr
          clear htst t0 this
          generalize profTI NM qs = TI at *
          go_wp2_with fail
          refine HV.out.mono ?_
          rintro _ w2 ⟨rfl, d2⟩
          obtain ⟨ht, c0, c1⟩ := HTH.out w2 d2
          go_wp2_with fail
          refine (HPT2.out w2 d2).mono ?_
          rintro _ w3 ⟨rfl, d3⟩
          have d4 := d2.trans (d3.mono d2.size)
          obtain ⟨ht3, c03, c13⟩ := HTH.out w3 d4
          have hf := HFIN.out w3
          have D4 := Lib.hid d4; clear d4
          have HF := Lib.hid hf; clear hf
          have HT := Lib.hid ht3; clear ht3
          clear ht
          go_wp2_with (refine wpList_store_held rfl 26 (.tmp 2) (.tmp 69) rfl g0 0 #[.string ⟨#[]⟩, .slice none 0 0] rfl rfl HT.out (by kernel_rfl) (by kernel_rfl) ?_; intro w5 q5 r5 o5 f5; have e0 : w5.cell? ⟨g0, 0, none⟩ = some (.string ⟨#[]⟩) := r5 0 _ rfl; have e1 : w5.cell? ⟨g0, 1, none⟩ = some (.slice none 0 0) := r5 1 _ rfl; have Q5 := Lib.hid q5; clear q5; clear r5 o5 f5)
          refine bodyPost_ret (v := .tuple #[.agg #[.string ⟨#[]⟩, .slice none 0 0], .bool false]) (by simp [results, Tryz.results8, go_sem, e0, e1]) rfl ?_
          rw [HR2.out]
          exact ⟨_, rfl, World.ownsRow_nil _ _ _ _, (HF.out _ D4.out Q5.out).2⟩
        · have := htst _ t1 t0
          rw [if_pos ⟨rfl, of_decide_eq_true this⟩] at hr
          have HV := Lib.hid hv; clear hv
          have HR2 := Lib.hid hr; clear hr
          clear htst t0 this
          generalize profTI NM qs = TI at *
          go_wp2_with fail
          refine HV.out.mono ?_
          rintro _ w2 ⟨rfl, d2⟩
          obtain ⟨ht, c0, c1⟩ := HTH.out w2 d2
          go_wp2_with fail
          refine (HPT2.out w2 d2).mono ?_
          rintro _ w3 ⟨rfl, d3⟩
          have d4 := d2.trans (d3.mono d2.size)
          obtain ⟨ht3, c03, c13⟩ := HTH.out w3 d4
          have hf := HFIN.out w3
          have D4 := Lib.hid d4; clear d4
          have HF := Lib.hid hf; clear hf
          have HT := Lib.hid ht3; clear ht3
          clear ht
          go_wp2_with (refine wpList_store_held rfl 26 (.tmp 2) (.tmp 70) rfl g0 0 #[.string NM, .slice av qs.length pv] rfl rfl HT.out (by kernel_rfl) (by kernel_rfl) ?_; intro w5 q5 r5 o5 f5; have e0 : w5.cell? ⟨g0, 0, none⟩ = some (.string NM) := r5 0 _ rfl; have e1 : w5.cell? ⟨g0, 1, none⟩ = some (.slice av qs.length pv) := r5 1 _ rfl; have Q5 := Lib.hid q5; clear q5; clear r5 o5 f5)
          refine bodyPost_ret (v := .tuple #[.agg #[.string NM, .slice av qs.length pv], .bool true]) (by simp [results, Tryz.results8, go_sem, e0, e1]) rfl ?_
          rw [HR2.out]
          exact ⟨_, rfl, (HF.out _ D4.out Q5.out).1, (HF.out _ D4.out Q5.out).2⟩

end Go.Proofs.YtgdadbmhdljcdaaGreatDoor

