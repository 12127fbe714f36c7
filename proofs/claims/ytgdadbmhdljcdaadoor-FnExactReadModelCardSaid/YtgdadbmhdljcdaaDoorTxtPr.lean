/- A ring read from a text: the reference. -/
import Derived.Test.YtgdadbmhdljcdaaDoorTA
import Derived.Test.YtgdadbmhdljcdaaDoorTD
import Derived.Test.YtgdadbmhdljcdaaDoorTxtRa
import Derived.Test.YtgdadbmhdljcdaaDoorTxtW
namespace Go.Proofs.YtgdadbmhdljcdaaDoor
set_option linter.unusedVariables false
open Go.RowKit Go.Proofs.Bell Go.BigFrame

theorem three_of {α : Type} {xs : List α} (h : xs.length = 3) : ∃ a b c, xs = [a, b, c] := by
  match xs, h with
  | [a, b, c], _ => exact ⟨a, b, c, rfl⟩
theorem ringR_len {l : List UInt8} (h : (spl 47 l).length ≠ 3) : ringR l = none ∧ ringI l = none := by
  unfold ringR ringI
  constructor
  · split
    · rename_i a b c e; rw [e] at h; exact absurd rfl h
    · rfl
  · split
    · rename_i a b c e; rw [e] at h; exact absurd rfl h
    · rfl
def ringZ (l : List UInt8) : Int × Int × Int := (ringI l).getD (0, 0, 0)
theorem ringR_Z {l : List UInt8} {p : Int × Int × Int} (h : ringR l = some p) : ringZ l = p := by
  unfold ringR at h
  unfold ringZ ringI
  split at h
  · split at h
    · rename_i x y z ha hb hc
      obtain rfl := Option.some.inj h
      simp only [ha, hb, hc]; rfl
    · cases h
  · cases h
set_option maxRecDepth 1000000 in
set_option maxHeartbeats 3200000 in
theorem l05ReadRing_c (s : ByteArray) (w : World) (hs : s.size ≤ 2000000) :
    Calls Tryd.prog 121 #[.string s] w (RetB (.tuple #[.agg #[.int .i64 (ringZ (byteL s)).1, .int .i64 (ringZ (byteL s)).2.1, .int .i64 (ringZ (byteL s)).2.2], .bool (ringR (byteL s)).isSome]) w) := by
  have hbl := byteL_len s
  have hsp := fun w' => l01Split_c s 47 w' hs
  have hnu := fun (l : List UInt8) (h : l.length ≤ 2000000) w' => l01Number_c (str l) w' (by rw [str_size]; exact h)
  simp only [byteL_str] at hnu
  have hQm : ∀ q ∈ spl 47 (byteL s), q.length ≤ 2000000 := fun q hq => by have := spl_mem_len hq; omega
  have hRl := ringR_len (l := byteL s)
  have hRd : ringR (byteL s) = match spl 47 (byteL s) with
    | [a, b, c] => match numF a, numF b, numF c with
      | some x, some y, some z => some (x, y, z)
      | _, _, _ => none
    | _ => none := rfl
  have hId : ringI (byteL s) = match spl 47 (byteL s) with
    | [a, b, c] => some ((numF a).getD 0, (numF b).getD 0, (numF c).getD 0)
    | _ => none := rfl
  unfold ringZ
  generalize ringR (byteL s) = RR at *
  generalize ringI (byteL s) = RI at *
  have hQl : (spl 47 (byteL s)).length ≤ 2000001 := by have := spl_len_le' 47 (byteL s); omega
  generalize spl 47 (byteL s) = Q at *
  clear hbl
  have HSP := Lib.hid hsp; clear hsp
  have HNU := Lib.hid hnu; clear hnu
  have HQM := Lib.hid hQm; clear hQm
  have HRL := Lib.hid hRl; clear hRl
  have HRD := Lib.hid hRd; clear hRd
  have HID := Lib.hid hId; clear hId
  go_enter Tryd.func121, Tryd.ntmps121
  go_wp2_with fail
  have bx := BoxV.new w 98 [.int .i64 0, .int .i64 0, .int .i64 0]
  have b1 : Below w.heap.size w (w.alloc (.cells #[.int .i64 0, .int .i64 0, .int .i64 0] 98)) := by go_grown
  have hgz : w.heap.size ≤ w.heap.size := Nat.le_refl _
  generalize hg : w.heap.size = g at bx
  have hg2 : w.heap.size ≤ g := Nat.le_of_eq hg
  refine (HSP.out _).mono ?_
  rintro _ w2 ⟨vq, rfl, oq, b2⟩
  have bx2 := bx.later b2
  have b3 := b1.trans (b2.mono b1.size)
  obtain ⟨aq, cq, gq, rfl, haq, _⟩ := own_open oq
  rw [List.length_map] at haq ⊢
  have hset : ∀ w', Only (· = g) w2 w' → Below w.heap.size w w' := fun w' q => Only.below b3 q b3.size (fun b e => by rw [e]; exact hg2)
  have hth := bx2.there
  have HSET := Lib.hid hset; clear hset
  have HTH := Lib.hid hth; clear hth
  clear b1 bx bx2 hg hg2 b2
  by_cases c5 : Q.length = 3
  · obtain ⟨x, y, z, rfl⟩ := three_of c5
    obtain rfl := haq (by simp)
    have cx : w2.cell? ⟨gq, 0, none⟩ = some (.string (str x)) := World.ownsRow.cellAt oq 0 (by simp)
    have cy : w2.cell? ⟨gq, 1, none⟩ = some (.string (str y)) := World.ownsRow.cellAt oq 1 (by simp)
    have cz : w2.cell? ⟨gq, 2, none⟩ = some (.string (str z)) := World.ownsRow.cellAt oq 2 (by simp)
    have ix0 := ix (P := Tryd.prog) (T := 70) (sz := 1) (n := 3) (cap := cq) Tryd.underlying70 (by kernel_rfl) (by kernel_rfl) (ao := some ⟨gq, 0, none⟩) (b := gq) (off := 0) (fun _ => rfl) (k := 0) (by decide) 0 rfl
    have ix1 := ix (P := Tryd.prog) (T := 70) (sz := 1) (n := 3) (cap := cq) Tryd.underlying70 (by kernel_rfl) (by kernel_rfl) (ao := some ⟨gq, 0, none⟩) (b := gq) (off := 0) (fun _ => rfl) (k := 1) (by decide) 1 rfl
    have ix2 := ix (P := Tryd.prog) (T := 70) (sz := 1) (n := 3) (cap := cq) Tryd.underlying70 (by kernel_rfl) (by kernel_rfl) (ao := some ⟨gq, 0, none⟩) (b := gq) (off := 0) (fun _ => rfl) (k := 2) (by decide) 2 rfl
    have n1 := HNU.out x (HQM.out x (by simp)) w2
    have n2 := HNU.out y (HQM.out y (by simp)) w2
    have n3 := HNU.out z (HQM.out z (by simp)) w2
    have hi := HID.out
    have hr := HRD.out
    simp only at hi hr
    have hr2 : RR.isSome = ((numF x).isSome && (numF y).isSome && (numF z).isSome) := by rw [hr]; cases numF x <;> cases numF y <;> cases numF z <;> rfl
    generalize str x = SX at *
    generalize str y = SY at *
    generalize str z = SZ at *
    generalize (numF x).getD 0 = NX at *
    generalize (numF y).getD 0 = NY at *
    generalize (numF z).getD 0 = NZ at *
    generalize RR.isSome = RB at *
    generalize (numF x).isSome = BX at *
    generalize (numF y).isSome = BY at *
    generalize (numF z).isSome = BZ at *
    have N1 := Lib.hid n1; clear n1
    have N2 := Lib.hid n2; clear n2
    have N3 := Lib.hid n3; clear n3
    have HR := Lib.hid hr2; clear hr2
    have HI := Lib.hid hi; clear hi
    clear oq haq hr
    cases BX <;> cases BY <;> cases BZ <;>
    · go_wp2_with fail
      refine N1.out.mono ?_
      rintro _ _ ⟨rfl, rfl⟩
      go_wp2_with fail
      refine N2.out.mono ?_
      rintro _ _ ⟨rfl, rfl⟩
      go_wp2_with fail
      refine N3.out.mono ?_
      rintro _ _ ⟨rfl, rfl⟩
      go_wp2_with (refine wpList_store_held rfl 98 (.tmp 2) (.tmp 41) rfl g 0 #[.int .i64 NX, .int .i64 NY, .int .i64 NZ] rfl rfl HTH.out (by kernel_rfl) (by kernel_rfl) ?_; intro w5 q5 r5 o5 f5; have e0 : w5.cell? ⟨g, 0, none⟩ = some (.int .i64 NX) := r5 0 _ rfl; have e1 : w5.cell? ⟨g, 1, none⟩ = some (.int .i64 NY) := r5 1 _ rfl; have e2 : w5.cell? ⟨g, 2, none⟩ = some (.int .i64 NZ) := r5 2 _ rfl; have Q5 := Lib.hid q5; clear q5; clear r5 o5 f5)
      refine bodyPost_ret (v := .tuple #[.agg #[.int .i64 NX, .int .i64 NY, .int .i64 NZ], .bool RB]) (by simp [results, Tryd.results121, go_sem, e0, e1, e2, HR.out]) rfl ?_
      exact RetB.mk (by rw [HI.out]; rfl) (HSET.out _ Q5.out)
  · have hne : ((Q.length : Int) == 3) = false := beq_eq_false_iff_ne.2 (by omega)
    have hi := (HRL.out c5).2
    have hr := (HRL.out c5).1
    have HI := Lib.hid hi; clear hi
    have HR := Lib.hid hr; clear hr
    clear oq haq
    go_wp2_with (refine wpList_store_held rfl 98 (.tmp 2) (.tmp 16) rfl g 0 #[.int .i64 0, .int .i64 0, .int .i64 0] rfl rfl HTH.out (by kernel_rfl) (by kernel_rfl) ?_; intro w5 q5 r5 o5 f5; have e0 : w5.cell? ⟨g, 0, none⟩ = some (.int .i64 0) := r5 0 _ rfl; have e1 : w5.cell? ⟨g, 1, none⟩ = some (.int .i64 0) := r5 1 _ rfl; have e2 : w5.cell? ⟨g, 2, none⟩ = some (.int .i64 0) := r5 2 _ rfl; have Q5 := Lib.hid q5; clear q5; clear r5 o5 f5)
    refine bodyPost_ret (v := .tuple #[.agg #[.int .i64 0, .int .i64 0, .int .i64 0], .bool false]) (by simp [results, Tryd.results121, go_sem, e0, e1, e2]) rfl ?_
    exact RetB.mk (by rw [HI.out, HR.out]; rfl) (HSET.out _ Q5.out)

end Go.Proofs.YtgdadbmhdljcdaaDoor
