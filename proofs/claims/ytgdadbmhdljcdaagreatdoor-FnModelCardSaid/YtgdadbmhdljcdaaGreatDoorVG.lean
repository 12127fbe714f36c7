/- Several texts of the proofs in one: CpM, CpO. -/
import Derived.Test.YtgdadbmhdljcdaaGreatDoorWM
/- A model copied: the start of it. -/
namespace Go.Proofs.YtgdadbmhdljcdaaGreatDoor
set_option linter.unusedVariables false
open Go.RowKit Go.Proofs.Bell Go.BigFrame

theorem BldN.late {R : Nat} {va vb : Value} {zs bs : List Int} {w wb : World} (b : Below w.heap.size w wb) (hw : w.heap.size ≤ R) (hR : R < wb.heap.size) (r0 : wb.cell? ⟨R, 0, none⟩ = some nv) (r1 : wb.cell? ⟨R, 1, none⟩ = some nv) (r2 : wb.cell? ⟨R, 2, none⟩ = some nv) (rf : ∀ j, wb.frozen? ⟨R, j, none⟩ = false)
    (oa : OwnI (R + 1) wb va zs) (ob : OwnI (R + 1) wb vb bs) (hd : ∀ b, va.ownBlock = some b → vb.ownBlock ≠ some b) :
    BldN R wb.heap.size (wb.heap.size + 1) va vb nv [] zs [] bs w (wb.alloc (.cells #[va, nv, vb] 45)) := by
  have hb : Below wb.heap.size wb (wb.alloc (.cells #[va, nv, vb] 45)) := (Below.refl _ _).alloc (Nat.le_refl _) _
  have ha := own_lt oa
  have hbb := own_lt ob
  exact ⟨b.alloc b.size _, hw, hR, by omega, by simp, below_cell hb r0, below_cell hb r1, below_cell hb r2, fun j => (hb.frozen (p := ⟨R, j, none⟩) hR).trans (rf j), by simp [go_sem], by simp [go_sem], by simp [go_sem], fun j => by simp [go_sem],
    own_later oa hb, fun k e => by have := ha k e; omega, own_later ob hb, fun k e => by have := hbb k e; omega, hd, (OwnSS.empty _ _).wide (by first | exact Nat.le_refl _ | simp) (Nat.le_refl _)⟩
theorem BldN.early {R G : Nat} {va vb : Value} {zs bs : List Int} {w wb : World} (b : Below w.heap.size w wb) (hw : w.heap.size ≤ R) (hR : R < G) (hG : G < wb.heap.size) (r0 : wb.cell? ⟨R, 0, none⟩ = some nv) (r1 : wb.cell? ⟨R, 1, none⟩ = some nv) (r2 : wb.cell? ⟨R, 2, none⟩ = some nv) (rf : ∀ j, wb.frozen? ⟨R, j, none⟩ = false)
    (g0 : wb.cell? ⟨G, 0, none⟩ = some nv) (g1 : wb.cell? ⟨G, 1, none⟩ = some nv) (g2 : wb.cell? ⟨G, 2, none⟩ = some nv) (gf : ∀ j, wb.frozen? ⟨G, j, none⟩ = false)
    (oa : OwnI (R + 1) wb va zs) (na : ∀ b, va.ownBlock = some b → G ≠ b) (ob : OwnI (R + 1) wb vb bs) (nb : ∀ b, vb.ownBlock = some b → G ≠ b) (hd : ∀ b, va.ownBlock = some b → vb.ownBlock ≠ some b) :
    BldN R G wb.heap.size va vb nv [] zs [] bs w (((wb.setCell ⟨G, 0, none⟩ va).setCell ⟨G, 1, none⟩ nv).setCell ⟨G, 2, none⟩ vb) := by
  have ha := own_lt oa
  have hbb := own_lt ob
  have kR : ∀ {j v}, wb.cell? ⟨R, j, none⟩ = some v → (((wb.setCell ⟨G, 0, none⟩ va).setCell ⟨G, 1, none⟩ nv).setCell ⟨G, 2, none⟩ vb).cell? ⟨R, j, none⟩ = some v := fun {j v} e => by
    rw [World.cell?_setCell_other _ _ _ _ (by first | omega | (simp; done) | (simp; omega)), World.cell?_setCell_other _ _ _ _ (by first | omega | (simp; done) | (simp; omega)), World.cell?_setCell_other _ _ _ _ (by first | omega | (simp; done) | (simp; omega))]; exact e
  refine ⟨((b.setCell (show w.heap.size ≤ G by omega) _).setCell (show w.heap.size ≤ G by omega) _).setCell (show w.heap.size ≤ G by omega) _, hw, hR, hG, by simp, kR r0, kR r1, kR r2, fun j => by rw [World.frozen?_setCell, World.frozen?_setCell, World.frozen?_setCell]; exact rf j, ?_, ?_, ?_, fun j => by rw [World.frozen?_setCell, World.frozen?_setCell, World.frozen?_setCell]; exact gf j,
    own_set (own_set (own_set oa na _) na _) na _, fun k e => ⟨ha k e, na k e⟩, own_set (own_set (own_set ob nb _) nb _) nb _, fun k e => ⟨hbb k e, nb k e⟩, hd, ?_⟩
  · rw [World.cell?_setCell_other _ _ _ _ (by simp), World.cell?_setCell_other _ _ _ _ (by simp)]; exact World.cell?_setCell_same _ _ _ g0
  · rw [World.cell?_setCell_other _ _ _ _ (by simp)]; exact World.cell?_setCell_same _ _ _ (by rw [World.cell?_setCell_other _ _ _ _ (by simp)]; exact g1)
  · exact World.cell?_setCell_same _ _ _ (by rw [World.cell?_setCell_other _ _ _ _ (by simp), World.cell?_setCell_other _ _ _ _ (by simp)]; exact g2)
  · have := OwnSS.empty wb.heap.size (((wb.setCell ⟨G, 0, none⟩ va).setCell ⟨G, 1, none⟩ nv).setCell ⟨G, 2, none⟩ vb)
    exact this

theorem three_keep {w : World} {b o R : Nat} {v x0 x1 x2 : Value} (h : w.cell? ⟨b, o, none⟩ = some v) (hne : b ≠ R) : (((w.setCell ⟨R, 0, none⟩ x0).setCell ⟨R, 1, none⟩ x1).setCell ⟨R, 2, none⟩ x2).cell? ⟨b, o, none⟩ = some v := by
  have hn : ∀ j, (⟨R, j, none⟩ : Addr) ≠ ⟨b, o, none⟩ := fun j e => hne (by injection e with e1; exact e1.symm)
  rw [World.cell?_setCell_other _ _ _ _ (by first | exact hn 2 | exact (hn 2).symm), World.cell?_setCell_other _ _ _ _ (by first | exact hn 1 | exact (hn 1).symm), World.cell?_setCell_other _ _ _ _ (by first | exact hn 0 | exact (hn 0).symm)]; exact h

set_option maxRecDepth 100000 in
set_option maxHeartbeats 3200000 in
theorem copyModel_c (zv wv bv : Value) (zs : List Int) (ws : List (List Int)) (bs : List Int) (w : World) (hz : Rd w zv zs.length (ints zs)) (hw : RdSS w wv ws) (hb : Rd w bv bs.length (ints bs)) (hz1 : 1 ≤ zs.length) (hz2 : zs.length ≤ 1000) (hb1 : 1 ≤ bs.length) (hb2 : bs.length ≤ 1000) (hw1 : 1 ≤ ws.length) (hw2 : ws.length ≤ 1000)
    (hr : ∀ k, k < ws.length → 1 ≤ (ws.getD k []).length ∧ (ws.getD k []).length ≤ 1000) :
    Calls Tryz.prog 68 #[.agg #[zv, wv, bv]] w (RetOwnM zs ws bs w) := by
  have hcz := fun w' (hx : Below w.heap.size w w') => CloneI_c zv zs w' (hz.later hx) hz1 hz2
  have hcb := fun w' (hx : Below w.heap.size w w') => CloneI_c bv bs w' (hb.later hx) hb1 hb2
  obtain ⟨us, hus, hru, hrw⟩ := hw
  obtain ⟨hnu, aou, capu, bu, offu, rfl, haou, hcellu⟩ := hru.open
  obtain rfl : aou = some ⟨bu, offu, none⟩ := haou (by omega)
  obtain ⟨_, aoz, capz, _, _, rfl, _, _⟩ := hz.open
  obtain ⟨_, aob, capb, _, _, rfl, _, _⟩ := hb.open
  have hcr := fun k (hk : k < ws.length) w' (hx : Below w.heap.size w w') => CloneI_c (us.getD k nv) (ws.getD k []) w' ((hrw k hk).later hx) (hr k hk).1 (hr k hk).2
  have HCZ := Lib.hid hcz; clear hcz
  have HCB := Lib.hid hcb; clear hcb
  have HCR := Lib.hid hcr; clear hcr
  have HCU := Lib.hid hcellu; clear hcellu
  have HUS := Lib.hid hus; clear hus
  have HRW := Lib.hid hrw; clear hrw
  have HR := Lib.hid hr; clear hr
  clear haou hru hz hb
  go_enter Tryz.func68, Tryz.ntmps68
  go_upto_region 1 with fail
  obtain ⟨w1, hw1q⟩ : ∃ x, x = (w.alloc (.cells #[.slice aoz zs.length capz, .slice (some ⟨bu, offu, none⟩) ws.length capu, .slice aob bs.length capb] 45)).alloc (.cells #[nv, nv, nv] 45) := ⟨_, rfl⟩
  have p0 : w1.cell? ⟨w.heap.size, 0, none⟩ = some (.slice aoz zs.length capz) := by rw [hw1q]; simp [go_sem]
  have p1 : w1.cell? ⟨w.heap.size, 1, none⟩ = some (.slice (some ⟨bu, offu, none⟩) ws.length capu) := by rw [hw1q]; simp [go_sem]
  have p2 : w1.cell? ⟨w.heap.size, 2, none⟩ = some (.slice aob bs.length capb) := by rw [hw1q]; simp [go_sem]
  have r0 : w1.cell? ⟨w.heap.size + 1, 0, none⟩ = some nv := by rw [hw1q]; simp [go_sem]
  have r1 : w1.cell? ⟨w.heap.size + 1, 1, none⟩ = some nv := by rw [hw1q]; simp [go_sem]
  have r2 : w1.cell? ⟨w.heap.size + 1, 2, none⟩ = some nv := by rw [hw1q]; simp [go_sem]
  have rf : ∀ j, w1.frozen? ⟨w.heap.size + 1, j, none⟩ = false := fun j => by rw [hw1q]; simp [go_sem]
  have b1 : Below w.heap.size w w1 := by rw [hw1q]; go_grown
  have y1 : w.heap.size + 2 ≤ w1.heap.size := by rw [hw1q]; simp
  simp only [nv] at hw1q
  rw [← hw1q]
  clear hw1q
  have hsl : ∀ o, w1.heap.size < (w1.alloc o).heap.size := fun o => by simp
  go_cut [3] from 6 (fun s3 wx => ∃ G B va vb, s3 = .pointer (some ⟨G, 0, none⟩) ∧ BldN (w.heap.size + 1) G B va vb nv [] zs [] bs w wx ∧ wx.cell? ⟨w.heap.size, 1, none⟩ = some (.slice (some ⟨bu, offu, none⟩) ws.length capu))
  case first =>
    have hne1 : w.heap.size ≠ w1.heap.size := by omega
    have hbd : Below w.heap.size w w1.drew := b1.drew
    have hbd2 : ∀ o, Below w.heap.size w (w1.alloc o).drew := fun o => (b1.alloc b1.size o).drew
    go_region_held3 (fun w' => w'.cell? ⟨w.heap.size, 0, none⟩ = some (.slice aoz zs.length capz) ∧ w'.cell? ⟨w.heap.size, 2, none⟩ = some (.slice aob bs.length capb)) (first | with_reducible exact ⟨p0, p2⟩ | with_reducible exact ⟨three_keep p0 hne1, three_keep p2 hne1⟩ | with_reducible exact ⟨three_keep p0 hnea, three_keep p2 hnea⟩ | exact ⟨below_cell (by go_grown) p0, below_cell (by go_grown) p2⟩) ((first | (go_at_call 85; have hq := hBX; have hq := ta; (with_reducible refine (HCB.out wa ba).mono ?_); rintro _ wb ⟨vb, rfl, ob, qb⟩; have hBX := BoxM.later hBX qb; have bc0 := hBX.c0; have bc1 := hBX.c1; have bc2 := hBX.c2; have bf := hBX.f; have sb : Below wa.heap.size wa wb := Below.trans (by go_grown) (qb.mono (by first | omega | (simp; done) | (simp; omega))); have p0 := below_cell sb p0; have p1 := below_cell sb p1; have p2 := below_cell sb p2; have r0 := below_cell sb r0; have r1 := below_cell sb r1; have r2 := below_cell sb r2; have rf : ∀ j, wb.frozen? ⟨w.heap.size + 1, j, none⟩ = false := (fun j => (sb.frozen (p := ⟨w.heap.size + 1, j, none⟩) (show w.heap.size + 1 < _ by omega)).trans (rf j)); have yb := sb.size; have bb2 := ba.trans (sb.mono ba.size); have oa := own_later oa sb; have lb := own_lo ob; have hd : ∀ b, (Value.slice ca zs.length pa).ownBlock = some b → vb.ownBlock ≠ some b := (fun b e e' => by have h8 := ta b e; have h9 := lb b e'; (try simp only [World.size_alloc] at h9); omega); have ob := own_base ob (show w.heap.size + 1 + 1 ≤ _ by first | omega | (simp; done) | (simp; omega)); obtain ⟨cb, pb, rfl⟩ := own_shape ob; clear qb) | (go_at_call 85; have hq := ta; (with_reducible refine (HCB.out wa ba).mono ?_); rintro _ wb ⟨vb, rfl, ob, qb⟩; have sb : Below wa.heap.size wa wb := Below.trans (by go_grown) (qb.mono (by first | omega | (simp; done) | (simp; omega))); have p0 := below_cell sb p0; have p1 := below_cell sb p1; have p2 := below_cell sb p2; have r0 := below_cell sb r0; have r1 := below_cell sb r1; have r2 := below_cell sb r2; have rf : ∀ j, wb.frozen? ⟨w.heap.size + 1, j, none⟩ = false := (fun j => (sb.frozen (p := ⟨w.heap.size + 1, j, none⟩) (show w.heap.size + 1 < _ by omega)).trans (rf j)); have yb := sb.size; have bb2 := ba.trans (sb.mono ba.size); have oa := own_later oa sb; have lb := own_lo ob; have hd : ∀ b, (Value.slice ca zs.length pa).ownBlock = some b → vb.ownBlock ≠ some b := (fun b e e' => by have h8 := ta b e; have h9 := lb b e'; (try simp only [World.size_alloc] at h9); omega); have ob := own_base ob (show w.heap.size + 1 + 1 ≤ _ by first | omega | (simp; done) | (simp; omega)); obtain ⟨cb, pb, rfl⟩ := own_shape ob; clear qb) | (go_at_call 85; have hq := ta; (with_reducible refine (HCB.out (wa.alloc (.cells #[.slice none 0 0, .slice none 0 0, .slice none 0 0] 45)) (hbal _)).mono ?_); rintro _ wb ⟨vb, rfl, ob, qb⟩; have hBX := BoxM.after (B := wa.heap.size) qb (Nat.le_refl _); have bc0 := hBX.c0; have bc1 := hBX.c1; have bc2 := hBX.c2; have bf := hBX.f; have sb : Below wa.heap.size wa wb := Below.trans (by go_grown) (qb.mono (by first | omega | (simp; done) | (simp; omega))); have p0 := below_cell sb p0; have p1 := below_cell sb p1; have p2 := below_cell sb p2; have r0 := below_cell sb r0; have r1 := below_cell sb r1; have r2 := below_cell sb r2; have rf : ∀ j, wb.frozen? ⟨w.heap.size + 1, j, none⟩ = false := (fun j => (sb.frozen (p := ⟨w.heap.size + 1, j, none⟩) (show w.heap.size + 1 < _ by omega)).trans (rf j)); have yb := sb.size; have bb2 := ba.trans (sb.mono ba.size); have oa := own_later oa sb; have lb := own_lo ob; have hd : ∀ b, (Value.slice ca zs.length pa).ownBlock = some b → vb.ownBlock ≠ some b := (fun b e e' => by have h8 := ta b e; have h9 := lb b e'; (try simp only [World.size_alloc] at h9); omega); have ob := own_base ob (show w.heap.size + 1 + 1 ≤ _ by first | omega | (simp; done) | (simp; omega)); obtain ⟨cb, pb, rfl⟩ := own_shape ob; clear qb) | (go_at_call 85; (with_reducible refine (HCZ.out w1.drew hbd).mono ?_); rintro _ wa ⟨va, rfl, oa, qa⟩; have sa : Below w1.heap.size w1 wa := Below.trans (by go_grown) (qa.mono (by first | omega | (simp; done) | (simp; omega))); have p0 := below_cell sa p0; have p1 := below_cell sa p1; have p2 := below_cell sa p2; have r0 := below_cell sa r0; have r1 := below_cell sa r1; have r2 := below_cell sa r2; have rf : ∀ j, wa.frozen? ⟨w.heap.size + 1, j, none⟩ = false := (fun j => (sa.frozen (p := ⟨w.heap.size + 1, j, none⟩) (show w.heap.size + 1 < _ by omega)).trans (rf j)); have ya := sa.size; have hnea : w.heap.size ≠ wa.heap.size := (by omega); have ba := b1.trans (sa.mono b1.size); have hbal := (fun o => ba.alloc ba.size o); have la := own_lo oa; have ta := own_lt oa; have oa := own_base oa (show w.heap.size + 1 + 1 ≤ _ by first | omega | (simp; done) | (simp; omega)); have aw := (fun o => World.size_alloc wa o); obtain ⟨ca, pa, rfl⟩ := own_shape oa; clear qa) | (go_at_call 85; (with_reducible refine (HCZ.out (w1.alloc (.cells #[.slice none 0 0, .slice none 0 0, .slice none 0 0] 45)).drew (hbd2 _)).mono ?_); rintro _ wa ⟨va, rfl, oa, qa⟩; have hBX := BoxM.afterD (B := w1.heap.size) qa (Nat.le_refl _); have hlg := hBX.lt; have sa : Below w1.heap.size w1 wa := Below.trans (by go_grown) (qa.mono (by first | omega | (simp; done) | (simp; omega))); have p0 := below_cell sa p0; have p1 := below_cell sa p1; have p2 := below_cell sa p2; have r0 := below_cell sa r0; have r1 := below_cell sa r1; have r2 := below_cell sa r2; have rf : ∀ j, wa.frozen? ⟨w.heap.size + 1, j, none⟩ = false := (fun j => (sa.frozen (p := ⟨w.heap.size + 1, j, none⟩) (show w.heap.size + 1 < _ by omega)).trans (rf j)); have ya := sa.size; have hnea : w.heap.size ≠ wa.heap.size := (by omega); have ba := b1.trans (sa.mono b1.size); have hbal := (fun o => ba.alloc ba.size o); have la := own_lo oa; have ta := own_lt oa; have oa := own_base oa (show w.heap.size + 1 + 1 ≤ _ by first | omega | (simp; done) | (simp; omega)); have aw := (fun o => World.size_alloc wa o); obtain ⟨ca, pa, rfl⟩ := own_shape oa; clear qa)))
    all_goals (go_wp2_with fail; go_meet; first | exact ⟨_, _, _, _, rfl, BldN.late bb2 (by omega) (by omega) r0 r1 r2 rf oa ob hd, alloc_cell _ p1⟩ | exact ⟨_, _, _, _, rfl, BldN.early bb2 (by omega) (by omega) hBX.lt r0 r1 r2 rf bc0 bc1 bc2 bf oa (fun k e => by have h8 := ta k e; have h9 := la k e; first | omega | (simp at h9; omega)) ob (fun k e => by have h9 := lb k e; first | omega | (simp at h9; omega)) hd, three_keep p1 (by omega)⟩)
  case rest =>
    obtain ⟨G, B, va, vb, rfl, hI0, p1⟩ := hcut
    generalize wc = w2 at *
    clear r0 r1 r2 rf p0 p2 b1 y1 hsl HCZ HCB hz1 hz2 hb1 hb2
    go_wp2_with fail
    go_loopw [16] (fun i wr => ∃ (k : Nat) (wv : Value) (us' : List Value), k ≤ ws.length ∧ i = .int .i64 k ∧ BldN (w.heap.size + 1) G B va vb wv us' zs (ws.take k) bs w wr) (fun i _ => ws.length - (intOf i).toNat)
    case atStart => exact ⟨0, _, _, Nat.zero_le _, rfl, hI0⟩
    case round =>
      obtain ⟨k, wv, us', hk, rfl, hI⟩ := hrel
      have hlk : (ws.take k).length = k := by rw [List.length_take]; omega
      obtain ⟨aw, cw, hwv⟩ := own_shape hI.s.row
      rw [hlk] at hwv
      subst hwv
      have HI := Lib.hid hI; clear hI
      by_cases hlt : k < ws.length
      · have hbel := HI.out.below
        have zr := HI.out.gs
        have hix := ix (P := Tryz.prog) (T := 43) (n := ws.length) (cap := capu) Tryz.underlying43 cells_SS has_SS (ao := some ⟨bu, offu, none⟩) (b := bu) (off := offu) (fun _ => rfl) (k := k) hlt _ rfl
        rw [Nat.mul_one] at hix
        have hrc : wr.cell? ⟨bu, offu + k, none⟩ = some (us.getD k nv) := HCU.out _ hbel _ _ (by omega) (getDv (by rw [HUS.out]; exact hlt))
        have hcr := fun w' (hx : Below wr.heap.size wr w') => HCR.out k hlt w' (hbel.trans (hx.mono hbel.size))
        have hshape : ∃ a1 n1 c1, us.getD k nv = .slice a1 n1 c1 := by obtain ⟨_, a1, c1, _, _, e, _⟩ := (HRW.out k hlt).open; exact ⟨_, _, _, e⟩
        obtain ⟨a1, n1, c1, hsh⟩ := hshape
        have htk : ws.take k ++ [ws.getD k []] = ws.take (k + 1) := by rw [List.take_succ_eq_append_getElem hlt]; simp [List.getD, List.getElem?_eq_getElem hlt]
        have HTK := Lib.hid htk; clear htk
        rw [hsh] at hrc hcr
        have HCR2 := Lib.hid hcr; clear hcr
        have HSH := Lib.hid hsh; clear hsh
        generalize ws.getD k [] = row at *
        have d1 := HI.out.g1
        have dd := fun o => alloc_cell o d1
        have hlu : us'.length = k := by rw [HI.out.s.len, hlk]
        have HLU := Lib.hid hlu; clear hlu
        have HLK := Lib.hid hlk; clear hlk
        have hng : ¬ (Value.slice aw k cw).ownBlock = some G := fun e => by have h8 := own_lo HI.out.s.row G e; have h9 := HI.out.gb; omega
        have NG := Lib.hid hng; clear hng
        have hgb := HI.out.gb
        go_upto_region 5 with fail
        go_region_law (first | (go_simp; refine (HCR2.out _ (by go_grown)).mono ?_; rintro _ wa ⟨vr, rfl, oa, qa⟩; have za : Below wr.heap.size wr wa := Below.trans (by go_grown) (qa.mono (by first | omega | (simp; done) | (simp; omega))); have ua := HI.out.later za; have UA := Lib.hid ua; clear ua; have d2 := UA.out.g1; have a2 := (fun o => alloc_cell o d2); obtain ⟨ar, pr, rfl⟩ := own_shape oa; have oa := own_base oa (show wr.heap.size ≤ _ by first | omega | (simp; done)); have OA := Lib.hid oa; clear oa; have zz2 := za.size; clear qa) | (refine sapp_SS (.tmp 21) (.tmp 24) wa B _ k us' ar row.length pr wa.heap.size (by rfl) (by rfl) rfl (by rfl) (by rfl) (by have h8 := UA.out.s.row; rw [HLK.out] at h8; exact h8) (by omega) (Nat.le_trans zr zz2) ?_; intro v3 w3 o3 q3 t3; have t4 := HI.out.next za OA.out (by rw [HLK.out]; exact o3) q3 t3; have e1 := cell_only q3 UA.out.g1 NG.out; have ef := (fun j => (frozen_only q3 (p := ⟨G, j, none⟩) (show G < _ by omega) NG.out).trans (UA.out.gf j)); obtain ⟨a3, c3, hv3⟩ := own_shape o3; subst hv3; rw [HTK.out] at t4; have T4 := Lib.hid t4; clear t4; clear q3 o3 t3))
        all_goals (go_wp2; go_roundw)
        all_goals first | (case rel => exact ⟨k + 1, _, _, by omega, by go_num, T4.out⟩) | (case measure => simp [intOf]; omega) | skip
      · obtain rfl : k = ws.length := by omega
        have r0 := HI.out.r0
        have r1 := HI.out.r1
        have r2 := HI.out.r2
        have rf := HI.out.rf
        have g0 := HI.out.g0
        have g1 := HI.out.g1
        have g2 := HI.out.g2
        obtain ⟨az, cz, rfl⟩ := own_shape HI.out.z
        obtain ⟨ab, cb, rfl⟩ := own_shape HI.out.b
        have hfin := fun u0 u1 u2 => And.intro (HI.out.ownR u0 u1 u2) (HI.out.belowR u0 u1 u2)
        rw [List.take_length] at hfin
        have HFIN := Lib.hid hfin; clear hfin
        clear HI hlk
        go_wp2
        refine bodyPost_ret (v := .agg #[.slice az zs.length cz, .slice aw ws.length cw, .slice ab bs.length cb]) (by simp [results, Tryz.results68, go_sem, r0, r1, r2]) rfl ?_
        exact ⟨_, _, _, _, rfl, (HFIN.out _ _ _).1, (HFIN.out _ _ _).2⟩

end Go.Proofs.YtgdadbmhdljcdaaGreatDoor

/- A model of its own: the reference's. -/
namespace Go.Proofs.YtgdadbmhdljcdaaGreatDoor
set_option linter.unusedVariables false
open Go.RowKit Go.Proofs.Bell Go.BigFrame

set_option maxRecDepth 100000 in
set_option maxHeartbeats 3200000 in
theorem l08Own_c (g : Nat) (zv wv bv : Value) (zs : List Int) (ws : List (List Int)) (bs : List Int) (w : World) (c0 : w.cell? ⟨g, 0, none⟩ = some zv) (c1 : w.cell? ⟨g, 1, none⟩ = some wv) (c2 : w.cell? ⟨g, 2, none⟩ = some bv) (hz : Rd w zv zs.length (ints zs)) (hw : RdSS w wv ws) (hb : Rd w bv bs.length (ints bs)) (hz1 : 1 ≤ zs.length) (hz2 : zs.length ≤ 1000) (hb1 : 1 ≤ bs.length) (hb2 : bs.length ≤ 1000) (hw1 : 1 ≤ ws.length) (hw2 : ws.length ≤ 1000)
    (hr : ∀ k, k < ws.length → 1 ≤ (ws.getD k []).length ∧ (ws.getD k []).length ≤ 1000) :
    Calls Tryz.prog 176 #[.pointer (some ⟨g, 0, none⟩)] w (RetOwnM zs ws bs w) := by
  have hcz := fun w' (hx : Below w.heap.size w w') => l00Own_c zv zs w' (hz.later hx) hz1 hz2
  have hcb := fun w' (hx : Below w.heap.size w w') => l00Own_c bv bs w' (hb.later hx) hb1 hb2
  obtain ⟨us, hus, hru, hrw⟩ := hw
  obtain ⟨hnu, aou, capu, bu, offu, rfl, haou, hcellu⟩ := hru.open
  obtain rfl : aou = some ⟨bu, offu, none⟩ := haou (by omega)
  obtain ⟨_, aoz, capz, _, _, rfl, _, _⟩ := hz.open
  obtain ⟨_, aob, capb, _, _, rfl, _, _⟩ := hb.open
  have hcr := fun k (hk : k < ws.length) w' (hx : Below w.heap.size w w') => l00Own_c (us.getD k nv) (ws.getD k []) w' ((hrw k hk).later hx) (hr k hk).1 (hr k hk).2
  have HCZ := Lib.hid hcz; clear hcz
  have HCB := Lib.hid hcb; clear hcb
  have HCR := Lib.hid hcr; clear hcr
  have HCU := Lib.hid hcellu; clear hcellu
  have HUS := Lib.hid hus; clear hus
  have HRW := Lib.hid hrw; clear hrw
  have HR := Lib.hid hr; clear hr
  clear haou hru hz hb
  go_enter Tryz.func176, Tryz.ntmps176
  go_upto_region 1 with fail
  have hg : g < w.heap.size := World.block_lt_of_cell? _ ⟨g, 0, none⟩ c0
  obtain ⟨w1, hw1q⟩ : ∃ x, x = w.alloc (.cells #[nv, nv, nv] 45) := ⟨_, rfl⟩
  have p0 : w1.cell? ⟨g, 0, none⟩ = some (.slice aoz zs.length capz) := by rw [hw1q]; exact alloc_cell _ c0
  have p1 : w1.cell? ⟨g, 1, none⟩ = some (.slice (some ⟨bu, offu, none⟩) ws.length capu) := by rw [hw1q]; exact alloc_cell _ c1
  have p2 : w1.cell? ⟨g, 2, none⟩ = some (.slice aob bs.length capb) := by rw [hw1q]; exact alloc_cell _ c2
  have r0 : w1.cell? ⟨w.heap.size, 0, none⟩ = some nv := by rw [hw1q]; simp [go_sem]
  have r1 : w1.cell? ⟨w.heap.size, 1, none⟩ = some nv := by rw [hw1q]; simp [go_sem]
  have r2 : w1.cell? ⟨w.heap.size, 2, none⟩ = some nv := by rw [hw1q]; simp [go_sem]
  have rf : ∀ j, w1.frozen? ⟨w.heap.size, j, none⟩ = false := fun j => by rw [hw1q]; simp [go_sem]
  have b1 : Below w.heap.size w w1 := by rw [hw1q]; go_grown
  have y1 : w.heap.size + 1 ≤ w1.heap.size := by rw [hw1q]; simp
  simp only [nv] at hw1q
  rw [← hw1q]
  clear hw1q
  have hsl : ∀ o, w1.heap.size < (w1.alloc o).heap.size := fun o => by simp
  go_cut [3] from 5 (fun s3 wx => ∃ G B va vb, s3 = .pointer (some ⟨G, 0, none⟩) ∧ BldN (w.heap.size) G B va vb nv [] zs [] bs w wx ∧ wx.cell? ⟨g, 1, none⟩ = some (.slice (some ⟨bu, offu, none⟩) ws.length capu))
  case first =>
    have hne1 : g ≠ w1.heap.size := by omega
    have hbd : Below w.heap.size w w1.drew := b1.drew
    have hbd2 : ∀ o, Below w.heap.size w (w1.alloc o).drew := fun o => (b1.alloc b1.size o).drew
    go_region_held3 (fun w' => w'.cell? ⟨g, 0, none⟩ = some (.slice aoz zs.length capz) ∧ w'.cell? ⟨g, 2, none⟩ = some (.slice aob bs.length capb)) (first | with_reducible exact ⟨p0, p2⟩ | with_reducible exact ⟨three_keep p0 hne1, three_keep p2 hne1⟩ | with_reducible exact ⟨three_keep p0 hnea, three_keep p2 hnea⟩ | exact ⟨below_cell (by go_grown) p0, below_cell (by go_grown) p2⟩) ((first | (go_at_call 173; have hq := hBX; have hq := ta; (with_reducible refine (HCB.out wa ba).mono ?_); rintro _ wb ⟨vb, rfl, ob, qb⟩; have hBX := BoxM.later hBX qb; have bc0 := hBX.c0; have bc1 := hBX.c1; have bc2 := hBX.c2; have bf := hBX.f; have sb : Below wa.heap.size wa wb := Below.trans (by go_grown) (qb.mono (by first | omega | (simp; done) | (simp; omega))); have p0 := below_cell sb p0; have p1 := below_cell sb p1; have p2 := below_cell sb p2; have r0 := below_cell sb r0; have r1 := below_cell sb r1; have r2 := below_cell sb r2; have rf : ∀ j, wb.frozen? ⟨w.heap.size, j, none⟩ = false := (fun j => (sb.frozen (p := ⟨w.heap.size, j, none⟩) (show w.heap.size < _ by omega)).trans (rf j)); have yb := sb.size; have bb2 := ba.trans (sb.mono ba.size); have oa := own_later oa sb; have lb := own_lo ob; have hd : ∀ b, (Value.slice ca zs.length pa).ownBlock = some b → vb.ownBlock ≠ some b := (fun b e e' => by have h8 := ta b e; have h9 := lb b e'; (try simp only [World.size_alloc] at h9); omega); have ob := own_base ob (show w.heap.size + 1 ≤ _ by first | omega | (simp; done) | (simp; omega)); obtain ⟨cb, pb, rfl⟩ := own_shape ob; clear qb) | (go_at_call 173; have hq := ta; (with_reducible refine (HCB.out wa ba).mono ?_); rintro _ wb ⟨vb, rfl, ob, qb⟩; have sb : Below wa.heap.size wa wb := Below.trans (by go_grown) (qb.mono (by first | omega | (simp; done) | (simp; omega))); have p0 := below_cell sb p0; have p1 := below_cell sb p1; have p2 := below_cell sb p2; have r0 := below_cell sb r0; have r1 := below_cell sb r1; have r2 := below_cell sb r2; have rf : ∀ j, wb.frozen? ⟨w.heap.size, j, none⟩ = false := (fun j => (sb.frozen (p := ⟨w.heap.size, j, none⟩) (show w.heap.size < _ by omega)).trans (rf j)); have yb := sb.size; have bb2 := ba.trans (sb.mono ba.size); have oa := own_later oa sb; have lb := own_lo ob; have hd : ∀ b, (Value.slice ca zs.length pa).ownBlock = some b → vb.ownBlock ≠ some b := (fun b e e' => by have h8 := ta b e; have h9 := lb b e'; (try simp only [World.size_alloc] at h9); omega); have ob := own_base ob (show w.heap.size + 1 ≤ _ by first | omega | (simp; done) | (simp; omega)); obtain ⟨cb, pb, rfl⟩ := own_shape ob; clear qb) | (go_at_call 173; have hq := ta; (with_reducible refine (HCB.out (wa.alloc (.cells #[.slice none 0 0, .slice none 0 0, .slice none 0 0] 45)) (hbal _)).mono ?_); rintro _ wb ⟨vb, rfl, ob, qb⟩; have hBX := BoxM.after (B := wa.heap.size) qb (Nat.le_refl _); have bc0 := hBX.c0; have bc1 := hBX.c1; have bc2 := hBX.c2; have bf := hBX.f; have sb : Below wa.heap.size wa wb := Below.trans (by go_grown) (qb.mono (by first | omega | (simp; done) | (simp; omega))); have p0 := below_cell sb p0; have p1 := below_cell sb p1; have p2 := below_cell sb p2; have r0 := below_cell sb r0; have r1 := below_cell sb r1; have r2 := below_cell sb r2; have rf : ∀ j, wb.frozen? ⟨w.heap.size, j, none⟩ = false := (fun j => (sb.frozen (p := ⟨w.heap.size, j, none⟩) (show w.heap.size < _ by omega)).trans (rf j)); have yb := sb.size; have bb2 := ba.trans (sb.mono ba.size); have oa := own_later oa sb; have lb := own_lo ob; have hd : ∀ b, (Value.slice ca zs.length pa).ownBlock = some b → vb.ownBlock ≠ some b := (fun b e e' => by have h8 := ta b e; have h9 := lb b e'; (try simp only [World.size_alloc] at h9); omega); have ob := own_base ob (show w.heap.size + 1 ≤ _ by first | omega | (simp; done) | (simp; omega)); obtain ⟨cb, pb, rfl⟩ := own_shape ob; clear qb) | (go_at_call 173; (with_reducible refine (HCZ.out w1.drew hbd).mono ?_); rintro _ wa ⟨va, rfl, oa, qa⟩; have sa : Below w1.heap.size w1 wa := Below.trans (by go_grown) (qa.mono (by first | omega | (simp; done) | (simp; omega))); have p0 := below_cell sa p0; have p1 := below_cell sa p1; have p2 := below_cell sa p2; have r0 := below_cell sa r0; have r1 := below_cell sa r1; have r2 := below_cell sa r2; have rf : ∀ j, wa.frozen? ⟨w.heap.size, j, none⟩ = false := (fun j => (sa.frozen (p := ⟨w.heap.size, j, none⟩) (show w.heap.size < _ by omega)).trans (rf j)); have ya := sa.size; have hnea : g ≠ wa.heap.size := (by omega); have ba := b1.trans (sa.mono b1.size); have hbal := (fun o => ba.alloc ba.size o); have la := own_lo oa; have ta := own_lt oa; have oa := own_base oa (show w.heap.size + 1 ≤ _ by first | omega | (simp; done) | (simp; omega)); have aw := (fun o => World.size_alloc wa o); obtain ⟨ca, pa, rfl⟩ := own_shape oa; clear qa) | (go_at_call 173; (with_reducible refine (HCZ.out (w1.alloc (.cells #[.slice none 0 0, .slice none 0 0, .slice none 0 0] 45)).drew (hbd2 _)).mono ?_); rintro _ wa ⟨va, rfl, oa, qa⟩; have hBX := BoxM.afterD (B := w1.heap.size) qa (Nat.le_refl _); have hlg := hBX.lt; have sa : Below w1.heap.size w1 wa := Below.trans (by go_grown) (qa.mono (by first | omega | (simp; done) | (simp; omega))); have p0 := below_cell sa p0; have p1 := below_cell sa p1; have p2 := below_cell sa p2; have r0 := below_cell sa r0; have r1 := below_cell sa r1; have r2 := below_cell sa r2; have rf : ∀ j, wa.frozen? ⟨w.heap.size, j, none⟩ = false := (fun j => (sa.frozen (p := ⟨w.heap.size, j, none⟩) (show w.heap.size < _ by omega)).trans (rf j)); have ya := sa.size; have hnea : g ≠ wa.heap.size := (by omega); have ba := b1.trans (sa.mono b1.size); have hbal := (fun o => ba.alloc ba.size o); have la := own_lo oa; have ta := own_lt oa; have oa := own_base oa (show w.heap.size + 1 ≤ _ by first | omega | (simp; done) | (simp; omega)); have aw := (fun o => World.size_alloc wa o); obtain ⟨ca, pa, rfl⟩ := own_shape oa; clear qa)))
    all_goals (go_wp2_with fail; go_meet; first | exact ⟨_, _, _, _, rfl, BldN.late bb2 (by omega) (by omega) r0 r1 r2 rf oa ob hd, alloc_cell _ p1⟩ | exact ⟨_, _, _, _, rfl, BldN.early bb2 (by omega) (by omega) hBX.lt r0 r1 r2 rf bc0 bc1 bc2 bf oa (fun k e => by have h8 := ta k e; have h9 := la k e; first | omega | (simp at h9; omega)) ob (fun k e => by have h9 := lb k e; first | omega | (simp at h9; omega)) hd, three_keep p1 (by omega)⟩)
  case rest =>
    obtain ⟨G, B, va, vb, rfl, hI0, p1⟩ := hcut
    generalize wc = w2 at *
    clear r0 r1 r2 rf p0 p2 b1 y1 hsl HCZ HCB hz1 hz2 hb1 hb2
    go_wp2_with fail
    go_loopw [4] (fun i wr => ∃ (k : Nat) (wv : Value) (us' : List Value), k ≤ ws.length ∧ i = .int .i64 k ∧ BldN (w.heap.size) G B va vb wv us' zs (ws.take k) bs w wr ∧ wr.cell? ⟨g, 1, none⟩ = some (.slice (some ⟨bu, offu, none⟩) ws.length capu)) (fun i _ => ws.length - (intOf i).toNat)
    case atStart => exact ⟨0, _, _, Nat.zero_le _, rfl, hI0, p1⟩
    case round =>
      obtain ⟨k, wv, us', hk, rfl, hI, p1⟩ := hrel
      have hlk : (ws.take k).length = k := by rw [List.length_take]; omega
      obtain ⟨aw, cw, hwv⟩ := own_shape hI.s.row
      rw [hlk] at hwv
      subst hwv
      have HI := Lib.hid hI; clear hI
      by_cases hlt : k < ws.length
      · have hbel := HI.out.below
        have zr := HI.out.gs
        have hix := ix (P := Tryz.prog) (T := 43) (n := ws.length) (cap := capu) Tryz.underlying43 cells_SS has_SS (ao := some ⟨bu, offu, none⟩) (b := bu) (off := offu) (fun _ => rfl) (k := k) hlt _ rfl
        rw [Nat.mul_one] at hix
        have hrc : wr.cell? ⟨bu, offu + k, none⟩ = some (us.getD k nv) := HCU.out _ hbel _ _ (by omega) (getDv (by rw [HUS.out]; exact hlt))
        have hcr := fun w' (hx : Below wr.heap.size wr w') => HCR.out k hlt w' (hbel.trans (hx.mono hbel.size))
        have hshape : ∃ a1 n1 c1, us.getD k nv = .slice a1 n1 c1 := by obtain ⟨_, a1, c1, _, _, e, _⟩ := (HRW.out k hlt).open; exact ⟨_, _, _, e⟩
        obtain ⟨a1, n1, c1, hsh⟩ := hshape
        have htk : ws.take k ++ [ws.getD k []] = ws.take (k + 1) := by rw [List.take_succ_eq_append_getElem hlt]; simp [List.getD, List.getElem?_eq_getElem hlt]
        have HTK := Lib.hid htk; clear htk
        rw [hsh] at hrc hcr
        have HCR2 := Lib.hid hcr; clear hcr
        have HSH := Lib.hid hsh; clear hsh
        generalize ws.getD k [] = row at *
        have d1 := HI.out.g1
        have dd := fun o => alloc_cell o d1
        have hlu : us'.length = k := by rw [HI.out.s.len, hlk]
        have HLU := Lib.hid hlu; clear hlu
        have HLK := Lib.hid hlk; clear hlk
        have hng : ¬ (Value.slice aw k cw).ownBlock = some G := fun e => by have h8 := own_lo HI.out.s.row G e; have h9 := HI.out.gb; omega
        have NG := Lib.hid hng; clear hng
        have hgb := HI.out.gb
        have hrG := HI.out.rg
        have hgG : (⟨G, 1, none⟩ : Addr) ≠ ⟨g, 1, none⟩ := fun e => by injection e with e1; omega
        go_upto_region 5 with fail
        go_region_law (first | (go_simp; refine (HCR2.out _ (by go_grown)).mono ?_; rintro _ wa ⟨vr, rfl, oa, qa⟩; have za : Below wr.heap.size wr wa := Below.trans (by go_grown) (qa.mono (by first | omega | (simp; done) | (simp; omega))); have ua := HI.out.later za; have UA := Lib.hid ua; clear ua; have d2 := UA.out.g1; have a2 := (fun o => alloc_cell o d2); obtain ⟨ar, pr, rfl⟩ := own_shape oa; have oa := own_base oa (show wr.heap.size ≤ _ by first | omega | (simp; done)); have OA := Lib.hid oa; clear oa; have zz2 := za.size; have p1 := below_cell za p1; clear qa) | (refine sapp_SS (.tmp 26) (.tmp 35) wa B _ k us' ar row.length pr wa.heap.size (by rfl) (by rfl) rfl (by rfl) (by rfl) (by have h8 := UA.out.s.row; rw [HLK.out] at h8; exact h8) (by omega) (Nat.le_trans zr zz2) ?_; intro v3 w3 o3 q3 t3; have p1 : (w3.setCell ⟨G, 1, none⟩ v3).cell? ⟨g, 1, none⟩ = some (.slice (some ⟨bu, offu, none⟩) ws.length capu) := (by rw [World.cell?_setCell_other _ _ _ _ (by first | exact hgG | exact hgG.symm)]; exact cell_only q3 p1 (fun e => by have h7 : B ≤ g := own_lo HI.out.s.row _ e; omega)); have t4 := HI.out.next za OA.out (by rw [HLK.out]; exact o3) q3 t3; have e1 := cell_only q3 UA.out.g1 NG.out; have ef := (fun j => (frozen_only q3 (p := ⟨G, j, none⟩) (show G < _ by omega) NG.out).trans (UA.out.gf j)); obtain ⟨a3, c3, hv3⟩ := own_shape o3; subst hv3; rw [HTK.out] at t4; have T4 := Lib.hid t4; clear t4; clear q3 o3 t3))
        all_goals (go_wp2; go_roundw)
        all_goals first | (case rel => exact ⟨k + 1, _, _, by omega, by go_num, T4.out, p1⟩) | (case measure => simp [intOf]; omega) | skip
      · obtain rfl : k = ws.length := by omega
        have r0 := HI.out.r0
        have r1 := HI.out.r1
        have r2 := HI.out.r2
        have rf := HI.out.rf
        have g0 := HI.out.g0
        have g1 := HI.out.g1
        have g2 := HI.out.g2
        obtain ⟨az, cz, rfl⟩ := own_shape HI.out.z
        obtain ⟨ab, cb, rfl⟩ := own_shape HI.out.b
        have hfin := fun u0 u1 u2 => And.intro (HI.out.ownR u0 u1 u2) (HI.out.belowR u0 u1 u2)
        rw [List.take_length] at hfin
        have HFIN := Lib.hid hfin; clear hfin
        clear HI hlk
        go_wp2
        refine bodyPost_ret (v := .agg #[.slice az zs.length cz, .slice aw ws.length cw, .slice ab bs.length cb]) (by simp [results, Tryz.results176, go_sem, r0, r1, r2]) rfl ?_
        exact ⟨_, _, _, _, rfl, (HFIN.out _ _ _).1, (HFIN.out _ _ _).2⟩

end Go.Proofs.YtgdadbmhdljcdaaGreatDoor

