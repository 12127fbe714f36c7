/- The draws of the laws: zones of a profile, cuts of zones. -/
import Derived.Test.YtgdadbmhdljcdaaGreatDoorGC
import Derived.Test.YtgdadbmhdljcdaaGreatDoorGF
import Derived.Test.YtgdadbmhdljcdaaGreatDoorGG
import Derived.Test.YtgdadbmhdljcdaaGreatDoorGI
namespace Go.Proofs.YtgdadbmhdljcdaaGreatDoor
set_option linter.unusedVariables false
open Go.RowKit Go.Proofs.Bell Go.BigFrame

structure ZnI (zs : List Int) (i : Nat) : Prop where
  len : 1 ≤ zs.length ∧ zs.length ≤ 8
  zero : zs.getD 0 0 = 0
  ok : ∀ k, k < zs.length → 0 ≤ zs.getD k 0 ∧ zs.getD k 0 < (i : Int)
  up : ∀ k, k + 1 < zs.length → zs.getD k 0 < zs.getD (k + 1) 0
theorem ZnI.start : ZnI [0] 1 := ⟨by simp, rfl, fun k hk => by simp at hk; subst hk; simp, fun k hk => by simp at hk⟩
theorem ZnI.skip {zs : List Int} {i : Nat} (h : ZnI zs i) : ZnI zs (i + 1) := ⟨h.len, h.zero, fun k hk => by have := h.ok k hk; omega, h.up⟩
theorem ZnI.push {zs : List Int} {i : Nat} (h : ZnI zs i) (hl : zs.length < 8) : ZnI (zs ++ [(i : Int)]) (i + 1) := by
  have gl : ∀ k, k < zs.length → (zs ++ [(i : Int)]).getD k 0 = zs.getD k 0 := fun k hk => by simp [List.getD, List.getElem?_append_left hk]
  have gr : (zs ++ [(i : Int)]).getD zs.length 0 = (i : Int) := by simp [List.getD]
  have h1 := h.len
  refine ⟨by simp; omega, by rw [gl _ (by omega)]; exact h.zero, fun k hk => ?_, fun k hk => ?_⟩
  · simp at hk
    rcases Nat.lt_or_ge k zs.length with e | e
    · rw [gl k e]; have := h.ok k e; omega
    · obtain rfl : k = zs.length := by omega
      rw [gr]; omega
  · simp at hk
    rw [gl k (by omega)]
    rcases Nat.lt_or_ge (k + 1) zs.length with e | e
    · rw [gl _ e]; exact h.up k e
    · have : k + 1 = zs.length := by omega
      rw [this, gr]
      exact (h.ok k (by omega)).2
theorem ZnI.done {zs : List Int} {i n : Nat} (h : ZnI zs i) (hi : i ≤ n) : zonesB zs ((n : Int) - 1) = true := by
  rw [zones_eq]
  simp only [Bool.and_eq_true, decide_eq_true_eq, beq_iff_eq]
  refine ⟨⟨⟨h.len.1, h.len.2⟩, h.zero⟩, ?_⟩
  unfold risesB
  rw [List.all_eq_true]
  intro k hk
  have hk := List.mem_range.1 hk
  have h1 := h.ok k hk
  unfold riseAt
  rw [inB_mk ⟨h1.1, by omega⟩]
  rcases Nat.eq_zero_or_pos k with rfl | e
  · rfl
  · have := h.up (k - 1) (by omega)
    rw [show k - 1 + 1 = k by omega] at this
    rw [decide_eq_true this, Bool.or_true]
    rfl

def RetZn (n : Nat) (w : World) (e : Ending) (w' : World) : Prop := ∃ (zs : List Int) (u : Value), e = .returned u ∧ OwnI w.heap.size w' u zs ∧ zonesB zs ((n : Int) - 1) = true ∧ Below w.heap.size w w'
theorem l00From_c (v : Value) (w' : World) (h : ∃ ao n cap, v = .slice ao n cap) : Calls Tryz.prog 41 #[v] w' (fun e w'' => e = .returned (.pointer (some ⟨w'.heap.size, 0, none⟩)) ∧ w'' = w'.alloc (.cells #[v, .int .i64 0, .int .u64 0] 138)) := by
  obtain ⟨ao, n, cap, rfl⟩ := h
  go_enter Tryz.func41, Tryz.ntmps41
  go_wp2
  go_returns
  exact ⟨rfl, rfl⟩
theorem own_one (w : World) (a : Int) (base : Nat) (hb : base ≤ w.heap.size) : OwnI base (w.alloc (.cells #[.int .i64 a] 2)) (.slice (some ⟨w.heap.size, 0, none⟩) 1 1) [a] :=
  ⟨rfl, .inr ⟨w.heap.size, 1, _, rfl, hb, heap_alloc_new w _, Nat.le_refl _, by decide, rfl, rfl⟩⟩

set_option maxRecDepth 100000 in
set_option maxHeartbeats 1600000 in
theorem R8Zones_c (v : Value) (bs : List Int) (nm : ByteArray) (sv : Value) (ps : List (Int × Int × Int)) (w : World) (h : Rd w v bs.length (bytesV bs)) (hz : ∀ z ∈ bs, Byte z) (hl : bs.length ≤ 1048576) (hr : Rd w sv ps.length (trips ps)) (h1 : 1 ≤ ps.length) (h9 : ps.length ≤ 32) : Calls Tryz.prog 33 #[v, .agg #[.string nm, sv]] w (RetZn ps.length w) := by
  have kb : ∀ o, Below w.heap.size w (w.alloc o) := fun o => (Below.refl _ _).alloc (Nat.le_refl _) o
  have hsrc := fun o t => src_new v bs (w.alloc o) (h.later (kb o)) hz hl t
  have hfr := fun w' => l00From_c v w' (by obtain ⟨_, ao, cap, _, _, e, _⟩ := h.open; exact ⟨_, _, _, e⟩)
  have hon := fun A w' g (hx : Src A g w') (hA : A ≤ 100000000000) => one_c A g 2 w' hx hA (by omega) (by omega)
  obtain ⟨_, ao, cap, _, _, rfl, _, _⟩ := h.open
  obtain ⟨_, ao2, cap2, _, _, rfl, _, _⟩ := hr.open
  have HSRC := Lib.hid hsrc; clear hsrc
  have HFR := Lib.hid hfr; clear hfr
  have HON := Lib.hid hon; clear hon
  clear h hz hr hl
  generalize bs.length = m at *
  generalize ps.length = n at *
  go_enter Tryz.func33, Tryz.ntmps33
  go_wp2_with fail
  refine (HFR.out _).mono ?_
  rintro _ _ ⟨rfl, rfl⟩
  have hs0 := HSRC.out (.cells #[.string nm, .slice ao2 n cap2] 26) 138
  simp only [World.size_alloc] at hs0
  have b0 : Below w.heap.size w ((w.alloc (.cells #[.string nm, .slice ao2 n cap2] 26)).alloc (.cells #[.slice ao m cap, .int .i64 0, .int .u64 0] 138)) := by go_grown
  have c0 : ((w.alloc (.cells #[.string nm, .slice ao2 n cap2] 26)).alloc (.cells #[.slice ao m cap, .int .i64 0, .int .u64 0] 138)).cell? ⟨w.heap.size, 1, none⟩ = some (.slice ao2 n cap2) := by simp [go_sem]
  have z0 : ((w.alloc (.cells #[.string nm, .slice ao2 n cap2] 26)).alloc (.cells #[.slice ao m cap, .int .i64 0, .int .u64 0] 138)).heap.size = w.heap.size + 2 := by simp
  generalize ((w.alloc (.cells #[.string nm, .slice ao2 n cap2] 26)).alloc (.cells #[.slice ao m cap, .int .i64 0, .int .u64 0] 138)) = w1 at *
  have k1 : Below w1.heap.size w1 (w1.alloc (.cells #[.int .i64 0] 2)) := (Below.refl _ _).alloc (Nat.le_refl _) _
  have hs1 := hs0.later k1
  have c1 := below_cell k1 c0
  have o1 : OwnI (w.heap.size + 2) (w1.alloc (.cells #[.int .i64 0] 2)) (.slice (some ⟨w1.heap.size, 0, none⟩) 1 1) [0] := own_one w1 0 _ (by omega)
  have hz1 : w.heap.size + 2 ≤ w1.heap.size := by omega
  clear z0
  have b1 := b0.trans (k1.mono b0.size)
  have zz : ∀ q : World, w.heap.size + 1 < q.heap.size → w.heap.size + 1 ≤ q.heap.size := fun q h => by omega
  clear hs0 c0
  have HS1 := Lib.hid hs1; clear hs1
  have O1 := Lib.hid o1; clear o1
  go_wp2_with fail
  go_loopw [7, 6] (fun i u wr => ∃ (k : Nat) (zs : List Int), 1 ≤ k ∧ k ≤ n ∧ i = .int .i64 k ∧ ZnI zs k ∧ OwnI (w.heap.size + 2) wr u zs ∧ Src (2 * k) (w.heap.size + 1) wr ∧ Below w.heap.size w wr ∧ wr.cell? ⟨w.heap.size, 1, none⟩ = some (.slice ao2 n cap2)) (fun i _ _ => n - (intOf i).toNat)
  case atStart => exact ⟨1, [0], Nat.le_refl _, h1, rfl, ZnI.start, O1.out, HS1.out.mono (by omega), b1, c1⟩
  case round =>
    obtain ⟨k, zs, hk1, hk, rfl, hI, ho, hs, hb, hc⟩ := hrel
    obtain ⟨au, cu, rfl⟩ := own_shape ho
    have hz8 := hI.len
    by_cases hlt : k < n ∧ zs.length < 8
    · obtain ⟨hlt, hl8⟩ := hlt
      have t1 : decide (k < n) = true := decide_eq_true hlt
      have t2 : decide ((zs.length : Int) < 8) = true := decide_eq_true (by omega)
      have hgz := hs.lt
      have HI := Lib.hid hI; clear hI
      have HO := Lib.hid ho; clear ho
      have HSR := Lib.hid hs; clear hs
      go_wp2_with fail
      refine (HON.out _ _ _ HSR.out (by omega)).mono ?_
      rintro _ w2 ⟨r, rfl, s2, q2⟩
      have hb2 : Below w.heap.size w w2 := Only.below hb q2 hb.size (fun b e => by omega)
      have hc2 := cell_only q2 hc (by show ¬ w.heap.size = w.heap.size + 1; omega)
      have ho2 := own_only HO.out q2 (fun b e hS => by have := own_lo HO.out b e; omega)
      have hz2 := q2.size
      cases r
      · have s3 := s2.mono (show 2 * k + 2 ≤ 2 * (k + 1) by omega)
        have S3 := Lib.hid s3; clear s3
        have HO2 := Lib.hid ho2; clear ho2
        clear s2 q2
        go_wp2
        go_roundw
        case rel => exact ⟨k + 1, zs, by omega, by omega, by go_num, HI.out.skip, HO2.out, S3.out, hb2, hc2⟩
        case measure => simp [intOf]; omega
      · have hpu := HI.out.push hl8
        have HPU := Lib.hid hpu; clear hpu
        have HO2 := Lib.hid ho2; clear ho2
        have S2 := Lib.hid s2; clear s2
        clear q2
        go_wp2_with (at_builtin; refine app_I (.tmp 25) (.tmp 27) _ (w.heap.size + 2) _ _ _ (by rfl) (by rfl) (by rfl) (by rfl) HO2.out (by omega) (by omega) ?_; intro v9 w9 o9 q9; have lo9 := own_lo HO2.out; have b9 : Below w.heap.size w w9 := Only.below hb2 q9 hb2.size (fun b e => by have := lo9 b e; omega); have c9 := cell_only q9 hc2 (fun e => by have h9 : w.heap.size + 2 ≤ w.heap.size := lo9 _ e; omega); have s9 := (S2.out.keep q9 (fun b e => by have := lo9 b e; omega)).mono (show 2 * k + 2 ≤ 2 * (k + 1) by omega); clear q9 lo9; have O9 := Lib.hid o9; clear o9; have S9 := Lib.hid s9; clear s9)
        go_roundw
        case rel => exact ⟨k + 1, _, by omega, by omega, by go_num, HPU.out, O9.out, S9.out, b9, c9⟩
        case measure => simp [intOf]; omega
    · have hd := hI.done hk
      have ho2 := own_base ho (show w.heap.size ≤ w.heap.size + 2 by omega)
      have HD := Lib.hid hd; clear hd
      have HO2 := Lib.hid ho2; clear ho2
      clear hI ho hs
      by_cases e : k < n
      · have t1 : decide (k < n) = true := decide_eq_true e
        have t2 : decide ((zs.length : Int) < 8) = false := decide_eq_false (by omega)
        go_wp2
        go_returns
        exact ⟨zs, _, rfl, HO2.out, HD.out, hb⟩
      · have t1 : decide (k < n) = false := decide_eq_false e
        go_wp2
        go_returns
        exact ⟨zs, _, rfl, HO2.out, HD.out, hb⟩

def CtI (nz : Nat) (cs : List (Int × Int)) : Prop := ∀ c ∈ cs, 0 ≤ c.1 ∧ c.1 < (nz : Int) ∧ 1 ≤ c.2 ∧ c.2 ≤ 4
def RetCt (nz : Nat) (w : World) (e : Ending) (w' : World) : Prop := ∃ (cs : List (Int × Int)) (u : Value), e = .returned u ∧ OwnC w.heap.size w' u cs ∧ cs.length ≤ 4 ∧ CtI nz cs ∧ Below w.heap.size w w'
theorem CtI.push {nz : Nat} {cs : List (Int × Int)} (h : CtI nz cs) {z s : Int} (h1 : 0 ≤ z) (h2 : z < nz) (h3 : 1 ≤ s) (h4 : s ≤ 4) : CtI nz (cs ++ [(z, s)]) := fun c hc => by
  rcases List.mem_append.1 hc with e | e
  · exact h c e
  · simp at e; subst e; exact ⟨h1, h2, h3, h4⟩

set_option maxRecDepth 100000 in
set_option maxHeartbeats 1600000 in
theorem R8Cuts_c (v : Value) (bs : List Int) (zv : Value) (zs : List Int) (w : World) (h : Rd w v bs.length (bytesV bs)) (hz : ∀ z ∈ bs, Byte z) (hl : bs.length ≤ 1048576) (hr : Rd w zv zs.length (ints zs)) (h1 : 1 ≤ zs.length) (h9 : zs.length ≤ 32) : Calls Tryz.prog 34 #[v, zv] w (RetCt zs.length w) := by
  have hsrc := fun t => src_new v bs w h hz hl t
  have hfr := fun w' => l00From_c v w' (by obtain ⟨_, ao, cap, _, _, e, _⟩ := h.open; exact ⟨_, _, _, e⟩)
  have hpk := fun n w' A' (h1 : n ≤ 60000) (h0 : -1000000 ≤ n) (hx : Src A' w.heap.size w') (hA' : A' ≤ 100000000000) => pick_c A' w.heap.size n w' hx hA' h1 h0
  obtain ⟨_, ao, cap, _, _, rfl, _, _⟩ := h.open
  obtain ⟨_, ao2, cap2, _, _, rfl, _, _⟩ := hr.open
  have HSRC := Lib.hid hsrc; clear hsrc
  have HFR := Lib.hid hfr; clear hfr
  have HPK := Lib.hid hpk; clear hpk
  clear h hz hr hl
  generalize bs.length = m at *
  generalize zs.length = n at *
  go_enter Tryz.func34, Tryz.ntmps34
  go_wp2_with fail
  refine (HFR.out _).mono ?_
  rintro _ _ ⟨rfl, rfl⟩
  have hs0 := HSRC.out 138
  have k1 : ∀ w1 : World, Below w1.heap.size w1 (w1.alloc (.cells #[] 74)) := fun w1 => (Below.refl _ _).alloc (Nat.le_refl _) _
  have hs1 := hs0.later (k1 _)
  have b1 : Below w.heap.size w ((w.alloc (.cells #[.slice ao m cap, .int .i64 0, .int .u64 0] 138)).alloc (.cells #[] 74)) := by go_grown
  have o1 : OwnC (w.heap.size + 1) ((w.alloc (.cells #[.slice ao m cap, .int .i64 0, .int .u64 0] 138)).alloc (.cells #[] 74)) (.slice (some ⟨w.heap.size + 1, 0, none⟩) 0 0) [] := own_empty2 _ _ _ _ _ (by simp) (Nat.le_refl _)
  clear hs0 k1
  have HS1 := Lib.hid hs1; clear hs1
  have O1 := Lib.hid o1; clear o1
  go_wp2_with fail
  generalize ((w.alloc (.cells #[.slice ao m cap, .int .i64 0, .int .u64 0] 138)).alloc (.cells #[] 74)) = w1 at *
  refine (HPK.out _ _ _ (by omega) (by omega) HS1.out (by omega)).mono ?_
  rintro _ w2 ⟨r1, rfl, l1, u1, s2, q2⟩
  have hb2 : Below w.heap.size w w2 := Only.below b1 q2 b1.size (fun b e => by omega)
  have ho2 := own_only O1.out q2 (fun b e hS => by have := own_lo O1.out b e; omega)
  have S2 := Lib.hid s2; clear s2
  have HO2 := Lib.hid ho2; clear ho2
  obtain ⟨K, rfl⟩ : ∃ K : Nat, r1 = (K : Int) := ⟨r1.toNat, by omega⟩
  go_wp2_with fail
  go_loopw [7, 6] (fun i u wr => ∃ (k : Nat) (cs : List (Int × Int)), i = .int .i64 k ∧ cs.length + k ≤ 4 ∧ CtI n cs ∧ OwnC (w.heap.size + 1) wr u cs ∧ Src (2 + 4 * cs.length) w.heap.size wr ∧ Below w.heap.size w wr) (fun i _ _ => (intOf i).toNat)
  case atStart => exact ⟨K, [], rfl, by simp; omega, fun c hc => by simp at hc, HO2.out, S2.out, hb2⟩
  case round =>
    obtain ⟨k, cs, rfl, hk, hI, ho, hs, hb⟩ := hrel
    obtain ⟨au, cu, rfl⟩ := own_shape ho
    by_cases hlt : 0 < k
    · have t1 : decide ((0 : Int) < (k : Int)) = true := decide_eq_true (by omega)
      have hgz := hs.lt
      have HI := Lib.hid hI; clear hI
      have HO := Lib.hid ho; clear ho
      have HSR := Lib.hid hs; clear hs
      go_wp2_with fail
      refine (HPK.out _ _ _ (by omega) (by omega) HSR.out (by omega)).mono ?_
      rintro _ w3 ⟨r2, rfl, l2, u2, s3, q3⟩
      have hb3 : Below w.heap.size w w3 := Only.below hb q3 hb.size (fun b e => by omega)
      have ho3 := own_only HO.out q3 (fun b e hS => by have := own_lo HO.out b e; omega)
      have hz3 := q3.size
      clear q3
      have S3 := Lib.hid s3; clear s3
      have HO3 := Lib.hid ho3; clear ho3
      go_wp2_with fail
      refine (HPK.out _ _ _ (by omega) (by omega) S3.out (by omega)).mono ?_
      rintro _ w4 ⟨r3, rfl, l3, u3, s4, q4⟩
      have hb4 : Below w.heap.size w w4 := Only.below hb3 q4 hb3.size (fun b e => by omega)
      have ho4 := own_only HO3.out q4 (fun b e hS => by have := own_lo HO3.out b e; omega)
      have hz4 := q4.size
      clear q4
      have hpu := HI.out.push (z := r2) (s := 1 + r3) (by omega) (by omega) (by omega) (by omega)
      have hlen : (cs ++ [(r2, 1 + r3)]).length = cs.length + 1 := by simp
      have HLEN := Lib.hid hlen; clear hlen
      have HPU := Lib.hid hpu; clear hpu
      have S4 := Lib.hid s4; clear s4
      have HO4 := Lib.hid ho4; clear ho4
      go_wp2_with (at_builtin; refine app_C (.tmp 22) (.tmp 28) _ (w.heap.size + 1) _ _ r2 (1 + r3) (by rfl) (by rfl) (by rfl) (by rfl) HO4.out (by omega) (by omega) ?_; intro v9 w9 o9 q9; have lo9 := own_lo HO4.out; have b9 : Below w.heap.size w w9 := Only.below hb4 q9 hb4.size (fun b e => by have := lo9 b e; omega); have s9 := (S4.out.keep q9 (fun b e => by have := lo9 b e; omega)).mono (show 2 + 4 * cs.length + 2 + 2 ≤ 2 + 4 * (cs ++ [(r2, 1 + r3)]).length by rw [HLEN.out]; omega); clear q9 lo9; have O9 := Lib.hid o9; clear o9; have S9 := Lib.hid s9; clear s9)
      go_roundw
      case rel => exact ⟨k - 1, _, by rw [show ((k - 1 : Nat) : Int) = (k : Int) - 1 by omega], by rw [HLEN.out]; omega, HPU.out, O9.out, S9.out, b9⟩
      case measure => simp [intOf]; omega
    · have t1 : decide ((0 : Int) < (k : Int)) = false := decide_eq_false (by omega)
      have ho2 := own_base ho (show w.heap.size ≤ w.heap.size + 1 by omega)
      have HO2' := Lib.hid ho2; clear ho2
      have HI := Lib.hid hI; clear hI
      clear ho hs
      go_wp2
      go_returns
      exact ⟨cs, _, rfl, HO2'.out, by omega, HI.out, hb⟩

end Go.Proofs.YtgdadbmhdljcdaaGreatDoor
