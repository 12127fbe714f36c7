/- Several texts of the proofs in one: R8Z, Raise, DrS, DrZ, DrS2, DrT. -/
import Derived.Test.YtgdadbmhdljcdaaGreatDoorGA
import Derived.Test.YtgdadbmhdljcdaaGreatDoorGC
import Derived.Test.YtgdadbmhdljcdaaGreatDoorGE
import Derived.Test.YtgdadbmhdljcdaaGreatDoorGF
import Derived.Test.YtgdadbmhdljcdaaGreatDoorGG
import Derived.Test.YtgdadbmhdljcdaaGreatDoorGI
import Derived.Test.YtgdadbmhdljcdaaGreatDoorVA
import Derived.Test.YtgdadbmhdljcdaaGreatDoorVF
import Derived.Test.YtgdadbmhdljcdaaGreatDoorWF
import Derived.Test.YtgdadbmhdljcdaaGreatDoorWG
import Derived.Test.YtgdadbmhdljcdaaGreatDoorWK
import Derived.Test.YtgdadbmhdljcdaaGreatDoorWM
import Derived.Laws.AppendOwnNone
/- The draws of the laws: zones of a profile, cuts of zones. -/
namespace Go.Proofs.YtgdadbmhdljcdaaGreatDoor
set_option linter.unusedVariables false
open Go.RowKit Go.Proofs.Bell Go.BigFrame

structure ZnI (zs : List Int) (i : Nat) : Prop where
  len : 1 ≤ zs.length ∧ zs.length ≤ 8
  zero : zs.getD 0 0 = 0
  ok : ∀ k, k < zs.length → 0 ≤ zs.getD k 0 ∧ zs.getD k 0 < (i : Int)
  up : ∀ k, k + 1 < zs.length → zs.getD k 0 < zs.getD (k + 1) 0
theorem ZnI.start : ZnI [0] 1 := ⟨by simp, rfl, fun k hk => by simp at hk; subst hk; simp, fun k hk => by simp at hk⟩
theorem ZnI.skip {zs : List Int} {i : Nat} (h : ZnI zs i) : ZnI zs (i + 1) := ⟨h.len, h.zero, fun k hk => by have := h.ok k hk; omega, h.up⟩
theorem ZnI.push {zs : List Int} {i : Nat} (h : ZnI zs i) (hl : zs.length < 8) : ZnI (zs ++ [(i : Int)]) (i + 1) := by
  have gl : ∀ k, k < zs.length → (zs ++ [(i : Int)]).getD k 0 = zs.getD k 0 := fun k hk => by simp [List.getD, List.getElem?_append_left hk]
  have gr : (zs ++ [(i : Int)]).getD zs.length 0 = (i : Int) := by simp [List.getD]
  have h1 := h.len
  refine ⟨by simp; omega, by rw [gl _ (by omega)]; exact h.zero, fun k hk => ?_, fun k hk => ?_⟩
  · simp at hk
    rcases Nat.lt_or_ge k zs.length with e | e
    · rw [gl k e]; have := h.ok k e; omega
    · obtain rfl : k = zs.length := by omega
      rw [gr]; omega
  · simp at hk
    rw [gl k (by omega)]
    rcases Nat.lt_or_ge (k + 1) zs.length with e | e
    · rw [gl _ e]; exact h.up k e
    · have : k + 1 = zs.length := by omega
      rw [this, gr]
      exact (h.ok k (by omega)).2
theorem ZnI.done {zs : List Int} {i n : Nat} (h : ZnI zs i) (hi : i ≤ n) : zonesB zs ((n : Int) - 1) = true := by
  rw [zones_eq]
  simp only [Bool.and_eq_true, decide_eq_true_eq, beq_iff_eq]
  refine ⟨⟨⟨h.len.1, h.len.2⟩, h.zero⟩, ?_⟩
  unfold risesB
  rw [List.all_eq_true]
  intro k hk
  have hk := List.mem_range.1 hk
  have h1 := h.ok k hk
  unfold riseAt
  rw [inB_mk ⟨h1.1, by omega⟩]
  rcases Nat.eq_zero_or_pos k with rfl | e
  · rfl
  · have := h.up (k - 1) (by omega)
    rw [show k - 1 + 1 = k by omega] at this
    rw [decide_eq_true this, Bool.or_true]
    rfl

def RetZn (n : Nat) (w : World) (e : Ending) (w' : World) : Prop := ∃ (zs : List Int) (u : Value), e = .returned u ∧ OwnI w.heap.size w' u zs ∧ zonesB zs ((n : Int) - 1) = true ∧ Below w.heap.size w w'
theorem l00From_c (v : Value) (w' : World) (h : ∃ ao n cap, v = .slice ao n cap) : Calls Tryz.prog 41 #[v] w' (fun e w'' => e = .returned (.pointer (some ⟨w'.heap.size, 0, none⟩)) ∧ w'' = w'.alloc (.cells #[v, .int .i64 0, .int .u64 0] 138)) := by
  obtain ⟨ao, n, cap, rfl⟩ := h
  go_enter Tryz.func41, Tryz.ntmps41
  go_wp2
  go_returns
  exact ⟨rfl, rfl⟩
theorem own_one (w : World) (a : Int) (base : Nat) (hb : base ≤ w.heap.size) : OwnI base (w.alloc (.cells #[.int .i64 a] 2)) (.slice (some ⟨w.heap.size, 0, none⟩) 1 1) [a] :=
  ⟨rfl, .inr ⟨w.heap.size, 1, _, rfl, hb, heap_alloc_new w _, Nat.le_refl _, by decide, rfl, rfl⟩⟩

set_option maxRecDepth 100000 in
set_option maxHeartbeats 1600000 in
theorem R8Zones_c (v : Value) (bs : List Int) (nm : ByteArray) (sv : Value) (ps : List (Int × Int × Int)) (w : World) (h : Rd w v bs.length (bytesV bs)) (hz : ∀ z ∈ bs, Byte z) (hl : bs.length ≤ 1048576) (hr : Rd w sv ps.length (trips ps)) (h1 : 1 ≤ ps.length) (h9 : ps.length ≤ 32) : Calls Tryz.prog 33 #[v, .agg #[.string nm, sv]] w (RetZn ps.length w) := by
  have kb : ∀ o, Below w.heap.size w (w.alloc o) := fun o => (Below.refl _ _).alloc (Nat.le_refl _) o
  have hsrc := fun o t => src_new v bs (w.alloc o) (h.later (kb o)) hz hl t
  have hfr := fun w' => l00From_c v w' (by obtain ⟨_, ao, cap, _, _, e, _⟩ := h.open; exact ⟨_, _, _, e⟩)
  have hon := fun A w' g (hx : Src A g w') (hA : A ≤ 100000000000) => one_c A g 2 w' hx hA (by omega) (by omega)
  obtain ⟨_, ao, cap, _, _, rfl, _, _⟩ := h.open
  obtain ⟨_, ao2, cap2, _, _, rfl, _, _⟩ := hr.open
  have HSRC := Lib.hid hsrc; clear hsrc
  have HFR := Lib.hid hfr; clear hfr
  have HON := Lib.hid hon; clear hon
  clear h hz hr hl
  generalize bs.length = m at *
  generalize ps.length = n at *
  go_enter Tryz.func33, Tryz.ntmps33
  go_wp2_with fail
  refine (HFR.out _).mono ?_
  rintro _ _ ⟨rfl, rfl⟩
  have hs0 := HSRC.out (.cells #[.string nm, .slice ao2 n cap2] 26) 138
  simp only [World.size_alloc] at hs0
  have b0 : Below w.heap.size w ((w.alloc (.cells #[.string nm, .slice ao2 n cap2] 26)).alloc (.cells #[.slice ao m cap, .int .i64 0, .int .u64 0] 138)) := by go_grown
  have c0 : ((w.alloc (.cells #[.string nm, .slice ao2 n cap2] 26)).alloc (.cells #[.slice ao m cap, .int .i64 0, .int .u64 0] 138)).cell? ⟨w.heap.size, 1, none⟩ = some (.slice ao2 n cap2) := by simp [go_sem]
  have z0 : ((w.alloc (.cells #[.string nm, .slice ao2 n cap2] 26)).alloc (.cells #[.slice ao m cap, .int .i64 0, .int .u64 0] 138)).heap.size = w.heap.size + 2 := by simp
  generalize ((w.alloc (.cells #[.string nm, .slice ao2 n cap2] 26)).alloc (.cells #[.slice ao m cap, .int .i64 0, .int .u64 0] 138)) = w1 at *
  have k1 : Below w1.heap.size w1 (w1.alloc (.cells #[.int .i64 0] 2)) := (Below.refl _ _).alloc (Nat.le_refl _) _
  have hs1 := hs0.later k1
  have c1 := below_cell k1 c0
  have o1 : OwnI (w.heap.size + 2) (w1.alloc (.cells #[.int .i64 0] 2)) (.slice (some ⟨w1.heap.size, 0, none⟩) 1 1) [0] := own_one w1 0 _ (by omega)
  have hz1 : w.heap.size + 2 ≤ w1.heap.size := by omega
  clear z0
  have b1 := b0.trans (k1.mono b0.size)
  have zz : ∀ q : World, w.heap.size + 1 < q.heap.size → w.heap.size + 1 ≤ q.heap.size := fun q h => by omega
  clear hs0 c0
  have HS1 := Lib.hid hs1; clear hs1
  have O1 := Lib.hid o1; clear o1
  go_wp2_with fail
  go_loopw [7, 6] (fun i u wr => ∃ (k : Nat) (zs : List Int), 1 ≤ k ∧ k ≤ n ∧ i = .int .i64 k ∧ ZnI zs k ∧ OwnI (w.heap.size + 2) wr u zs ∧ Src (2 * k) (w.heap.size + 1) wr ∧ Below w.heap.size w wr ∧ wr.cell? ⟨w.heap.size, 1, none⟩ = some (.slice ao2 n cap2)) (fun i _ _ => n - (intOf i).toNat)
  case atStart => exact ⟨1, [0], Nat.le_refl _, h1, rfl, ZnI.start, O1.out, HS1.out.mono (by omega), b1, c1⟩
  case round =>
    obtain ⟨k, zs, hk1, hk, rfl, hI, ho, hs, hb, hc⟩ := hrel
    obtain ⟨au, cu, rfl⟩ := own_shape ho
    have hz8 := hI.len
    by_cases hlt : k < n ∧ zs.length < 8
    · obtain ⟨hlt, hl8⟩ := hlt
      have t1 : decide (k < n) = true := decide_eq_true hlt
      have t2 : decide ((zs.length : Int) < 8) = true := decide_eq_true (by omega)
      have hgz := hs.lt
      have HI := Lib.hid hI; clear hI
      have HO := Lib.hid ho; clear ho
      have HSR := Lib.hid hs; clear hs
      go_wp2_with fail
      refine (HON.out _ _ _ HSR.out (by omega)).mono ?_
      rintro _ w2 ⟨r, rfl, s2, q2⟩
      have hb2 : Below w.heap.size w w2 := Only.below hb q2 hb.size (fun b e => by omega)
      have hc2 := cell_only q2 hc (by show ¬ w.heap.size = w.heap.size + 1; omega)
      have ho2 := own_only HO.out q2 (fun b e hS => by have := own_lo HO.out b e; omega)
      have hz2 := q2.size
      cases r
      · have s3 := s2.mono (show 2 * k + 2 ≤ 2 * (k + 1) by omega)
        have S3 := Lib.hid s3; clear s3
        have HO2 := Lib.hid ho2; clear ho2
        clear s2 q2
        go_wp2
        go_roundw
        case rel => exact ⟨k + 1, zs, by omega, by omega, by go_num, HI.out.skip, HO2.out, S3.out, hb2, hc2⟩
        case measure => simp [intOf]; omega
      · have hpu := HI.out.push hl8
        have HPU := Lib.hid hpu; clear hpu
        have HO2 := Lib.hid ho2; clear ho2
        have S2 := Lib.hid s2; clear s2
        clear q2
        go_wp2_with (at_builtin; refine app_I (.tmp 25) (.tmp 27) _ (w.heap.size + 2) _ _ _ (by rfl) (by rfl) (by rfl) (by rfl) HO2.out (by omega) (by omega) ?_; intro v9 w9 o9 q9; have lo9 := own_lo HO2.out; have b9 : Below w.heap.size w w9 := Only.below hb2 q9 hb2.size (fun b e => by have := lo9 b e; omega); have c9 := cell_only q9 hc2 (fun e => by have h9 : w.heap.size + 2 ≤ w.heap.size := lo9 _ e; omega); have s9 := (S2.out.keep q9 (fun b e => by have := lo9 b e; omega)).mono (show 2 * k + 2 ≤ 2 * (k + 1) by omega); clear q9 lo9; have O9 := Lib.hid o9; clear o9; have S9 := Lib.hid s9; clear s9)
        go_roundw
        case rel => exact ⟨k + 1, _, by omega, by omega, by go_num, HPU.out, O9.out, S9.out, b9, c9⟩
        case measure => simp [intOf]; omega
    · have hd := hI.done hk
      have ho2 := own_base ho (show w.heap.size ≤ w.heap.size + 2 by omega)
      have HD := Lib.hid hd; clear hd
      have HO2 := Lib.hid ho2; clear ho2
      clear hI ho hs
      by_cases e : k < n
      · have t1 : decide (k < n) = true := decide_eq_true e
        have t2 : decide ((zs.length : Int) < 8) = false := decide_eq_false (by omega)
        go_wp2
        go_returns
        exact ⟨zs, _, rfl, HO2.out, HD.out, hb⟩
      · have t1 : decide (k < n) = false := decide_eq_false e
        go_wp2
        go_returns
        exact ⟨zs, _, rfl, HO2.out, HD.out, hb⟩

def CtI (nz : Nat) (cs : List (Int × Int)) : Prop := ∀ c ∈ cs, 0 ≤ c.1 ∧ c.1 < (nz : Int) ∧ 1 ≤ c.2 ∧ c.2 ≤ 4
def RetCt (nz : Nat) (w : World) (e : Ending) (w' : World) : Prop := ∃ (cs : List (Int × Int)) (u : Value), e = .returned u ∧ OwnC w.heap.size w' u cs ∧ cs.length ≤ 4 ∧ CtI nz cs ∧ Below w.heap.size w w'
theorem CtI.push {nz : Nat} {cs : List (Int × Int)} (h : CtI nz cs) {z s : Int} (h1 : 0 ≤ z) (h2 : z < nz) (h3 : 1 ≤ s) (h4 : s ≤ 4) : CtI nz (cs ++ [(z, s)]) := fun c hc => by
  rcases List.mem_append.1 hc with e | e
  · exact h c e
  · simp at e; subst e; exact ⟨h1, h2, h3, h4⟩

set_option maxRecDepth 100000 in
set_option maxHeartbeats 1600000 in
theorem R8Cuts_c (v : Value) (bs : List Int) (zv : Value) (zs : List Int) (w : World) (h : Rd w v bs.length (bytesV bs)) (hz : ∀ z ∈ bs, Byte z) (hl : bs.length ≤ 1048576) (hr : Rd w zv zs.length (ints zs)) (h1 : 1 ≤ zs.length) (h9 : zs.length ≤ 32) : Calls Tryz.prog 34 #[v, zv] w (RetCt zs.length w) := by
  have hsrc := fun t => src_new v bs w h hz hl t
  have hfr := fun w' => l00From_c v w' (by obtain ⟨_, ao, cap, _, _, e, _⟩ := h.open; exact ⟨_, _, _, e⟩)
  have hpk := fun n w' A' (h1 : n ≤ 60000) (h0 : -1000000 ≤ n) (hx : Src A' w.heap.size w') (hA' : A' ≤ 100000000000) => pick_c A' w.heap.size n w' hx hA' h1 h0
  obtain ⟨_, ao, cap, _, _, rfl, _, _⟩ := h.open
  obtain ⟨_, ao2, cap2, _, _, rfl, _, _⟩ := hr.open
  have HSRC := Lib.hid hsrc; clear hsrc
  have HFR := Lib.hid hfr; clear hfr
  have HPK := Lib.hid hpk; clear hpk
  clear h hz hr hl
  generalize bs.length = m at *
  generalize zs.length = n at *
  go_enter Tryz.func34, Tryz.ntmps34
  go_wp2_with fail
  refine (HFR.out _).mono ?_
  rintro _ _ ⟨rfl, rfl⟩
  have hs0 := HSRC.out 138
  have k1 : ∀ w1 : World, Below w1.heap.size w1 (w1.alloc (.cells #[] 74)) := fun w1 => (Below.refl _ _).alloc (Nat.le_refl _) _
  have hs1 := hs0.later (k1 _)
  have b1 : Below w.heap.size w ((w.alloc (.cells #[.slice ao m cap, .int .i64 0, .int .u64 0] 138)).alloc (.cells #[] 74)) := by go_grown
  have o1 : OwnC (w.heap.size + 1) ((w.alloc (.cells #[.slice ao m cap, .int .i64 0, .int .u64 0] 138)).alloc (.cells #[] 74)) (.slice (some ⟨w.heap.size + 1, 0, none⟩) 0 0) [] := own_empty2 _ _ _ _ _ (by simp) (Nat.le_refl _)
  clear hs0 k1
  have HS1 := Lib.hid hs1; clear hs1
  have O1 := Lib.hid o1; clear o1
  go_wp2_with fail
  generalize ((w.alloc (.cells #[.slice ao m cap, .int .i64 0, .int .u64 0] 138)).alloc (.cells #[] 74)) = w1 at *
  refine (HPK.out _ _ _ (by omega) (by omega) HS1.out (by omega)).mono ?_
  rintro _ w2 ⟨r1, rfl, l1, u1, s2, q2⟩
  have hb2 : Below w.heap.size w w2 := Only.below b1 q2 b1.size (fun b e => by omega)
  have ho2 := own_only O1.out q2 (fun b e hS => by have := own_lo O1.out b e; omega)
  have S2 := Lib.hid s2; clear s2
  have HO2 := Lib.hid ho2; clear ho2
  obtain ⟨K, rfl⟩ : ∃ K : Nat, r1 = (K : Int) := ⟨r1.toNat, by omega⟩
  go_wp2_with fail
  go_loopw [7, 6] (fun i u wr => ∃ (k : Nat) (cs : List (Int × Int)), i = .int .i64 k ∧ cs.length + k ≤ 4 ∧ CtI n cs ∧ OwnC (w.heap.size + 1) wr u cs ∧ Src (2 + 4 * cs.length) w.heap.size wr ∧ Below w.heap.size w wr) (fun i _ _ => (intOf i).toNat)
  case atStart => exact ⟨K, [], rfl, by simp; omega, fun c hc => by simp at hc, HO2.out, S2.out, hb2⟩
  case round =>
    obtain ⟨k, cs, rfl, hk, hI, ho, hs, hb⟩ := hrel
    obtain ⟨au, cu, rfl⟩ := own_shape ho
    by_cases hlt : 0 < k
    · have t1 : decide ((0 : Int) < (k : Int)) = true := decide_eq_true (by omega)
      have hgz := hs.lt
      have HI := Lib.hid hI; clear hI
      have HO := Lib.hid ho; clear ho
      have HSR := Lib.hid hs; clear hs
      go_wp2_with fail
      refine (HPK.out _ _ _ (by omega) (by omega) HSR.out (by omega)).mono ?_
      rintro _ w3 ⟨r2, rfl, l2, u2, s3, q3⟩
      have hb3 : Below w.heap.size w w3 := Only.below hb q3 hb.size (fun b e => by omega)
      have ho3 := own_only HO.out q3 (fun b e hS => by have := own_lo HO.out b e; omega)
      have hz3 := q3.size
      clear q3
      have S3 := Lib.hid s3; clear s3
      have HO3 := Lib.hid ho3; clear ho3
      go_wp2_with fail
      refine (HPK.out _ _ _ (by omega) (by omega) S3.out (by omega)).mono ?_
      rintro _ w4 ⟨r3, rfl, l3, u3, s4, q4⟩
      have hb4 : Below w.heap.size w w4 := Only.below hb3 q4 hb3.size (fun b e => by omega)
      have ho4 := own_only HO3.out q4 (fun b e hS => by have := own_lo HO3.out b e; omega)
      have hz4 := q4.size
      clear q4
      have hpu := HI.out.push (z := r2) (s := 1 + r3) (by omega) (by omega) (by omega) (by omega)
      have hlen : (cs ++ [(r2, 1 + r3)]).length = cs.length + 1 := by simp
      have HLEN := Lib.hid hlen; clear hlen
      have HPU := Lib.hid hpu; clear hpu
      have S4 := Lib.hid s4; clear s4
      have HO4 := Lib.hid ho4; clear ho4
      go_wp2_with (at_builtin; refine app_C (.tmp 22) (.tmp 28) _ (w.heap.size + 1) _ _ r2 (1 + r3) (by rfl) (by rfl) (by rfl) (by rfl) HO4.out (by omega) (by omega) ?_; intro v9 w9 o9 q9; have lo9 := own_lo HO4.out; have b9 : Below w.heap.size w w9 := Only.below hb4 q9 hb4.size (fun b e => by have := lo9 b e; omega); have s9 := (S4.out.keep q9 (fun b e => by have := lo9 b e; omega)).mono (show 2 + 4 * cs.length + 2 + 2 ≤ 2 + 4 * (cs ++ [(r2, 1 + r3)]).length by rw [HLEN.out]; omega); clear q9 lo9; have O9 := Lib.hid o9; clear o9; have S9 := Lib.hid s9; clear s9)
      go_roundw
      case rel => exact ⟨k - 1, _, by rw [show ((k - 1 : Nat) : Int) = (k : Int) - 1 by omega], by rw [HLEN.out]; omega, HPU.out, O9.out, S9.out, b9⟩
      case measure => simp [intOf]; omega
    · have t1 : decide ((0 : Int) < (k : Int)) = false := decide_eq_false (by omega)
      have ho2 := own_base ho (show w.heap.size ≤ w.heap.size + 1 by omega)
      have HO2' := Lib.hid ho2; clear ho2
      have HI := Lib.hid hI; clear hI
      clear ho hs
      go_wp2
      go_returns
      exact ⟨cs, _, rfl, HO2'.out, by omega, HI.out, hb⟩

end Go.Proofs.YtgdadbmhdljcdaaGreatDoor

/- The least frequency at an interval: it never panics. -/
namespace Go.Proofs.YtgdadbmhdljcdaaGreatDoor
set_option linter.unusedVariables false
open Go.RowKit Go.Proofs.Bell Go.BigFrame

def RetRaise (w : World) (e : Ending) (w' : World) : Prop := ∃ (g : Int) (b : Bool), e = .returned (.tuple #[.int .i64 g, .bool b]) ∧ 0 ≤ g ∧ g ≤ 20000000 ∧ w' = w

set_option maxRecDepth 100000 in
set_option maxHeartbeats 3200000 in
theorem l02Raise_c (f : Nat) (t : Int) (w : World) (h1 : 1 ≤ f) (h2 : f ≤ 20000000) (t1 : -12000 ≤ t) (t2 : t ≤ 12000) : Calls Tryz.prog 184 #[.int .i64 f, .int .i64 t] w (RetRaise w) := by
  have hf := fun n h1 h2 => l02Fine_c n w h1 h2
  have hb := fun n (h1 : 1 ≤ n) (h2 : n ≤ 20000000) => fine_bd h1 h2
  generalize fineV = F at *
  have f0 := hf f h1 h2
  have f1 : Calls Tryz.prog 202 #[.int .i64 10000] w (RetS (.int .i64 (F 10000)) w) := hf 10000 (by omega) (by omega)
  have f2 : Calls Tryz.prog 202 #[.int .i64 20000000] w (RetS (.int .i64 (F 20000000)) w) := hf 20000000 (by omega) (by omega)
  have b0 := hb f h1 h2
  have b1 := hb 10000 (by omega) (by omega)
  have b2 := hb 20000000 (by omega) (by omega)
  have HB := Lib.hid hb; clear hb
  have HF := Lib.hid hf; clear hf
  have F0 := Lib.hid f0; clear f0
  have F1 := Lib.hid f1; clear f1
  have F2 := Lib.hid f2; clear f2
  generalize F f = x0 at *
  generalize F 10000 = x1 at *
  generalize F 20000000 = x2 at *
  go_enter Tryz.func184, Tryz.ntmps184
  go_wp2_with fail
  all_goals (
    refine F0.out.mono ?_
    rintro _ _ ⟨rfl, rfl⟩
    go_wp2_with fail
    refine F1.out.mono ?_
    rintro _ _ ⟨rfl, rfl⟩
    go_wp2_with fail)
  all_goals first
    | (go_returns; exact ⟨0, false, rfl, by omega, by omega, rfl⟩)
    | (refine F2.out.mono ?_
       rintro _ _ ⟨rfl, rfl⟩
       go_wp2_with fail)
  all_goals first
    | (go_returns; exact ⟨0, false, rfl, by omega, by omega, rfl⟩)
    | skip
  all_goals (
    go_loop [8, 9] (fun lo hi => ∃ (l h : Nat), lo = .int .i64 l ∧ hi = .int .i64 h ∧ 10000 ≤ l ∧ l ≤ h ∧ h ≤ 20000000) (fun lo hi => (intOf hi).toNat - (intOf lo).toNat)
    case atStart => exact ⟨10000, 20000000, rfl, rfl, by omega, by omega, by omega⟩
    case round =>
      obtain ⟨l, h, rfl, rfl, hl1, hl2, hl3⟩ := hrel
      by_cases hlt : l < h
      · have e1 : decide ((l : Int) < (h : Int)) = true := decide_eq_true (by omega)
        have hm := HF.out ((l + h) / 2) (by omega) (by omega)
        rw [show (((l + h) / 2 : Nat) : Int) = ((l : Int) + (h : Int)) / 2 by omega] at hm
        generalize F ((l + h) / 2) = y at *
        have HM := Lib.hid hm; clear hm
        go_wp2_with (go_at_call 202; refine HM.out.mono ?_; rintro _ _ ⟨rfl, rfl⟩)
        · go_round
          case rel => exact ⟨l, (l + h) / 2, rfl, by go_num, by omega, by omega, by omega⟩
          case measure => simp [intOf]; omega
        · go_round
          case rel => exact ⟨(l + h) / 2 + 1, h, by go_num, rfl, by omega, by omega, by omega⟩
          case measure => simp [intOf]; omega
      · have e1 : decide ((l : Int) < (h : Int)) = false := decide_eq_false (by omega)
        go_wp2
        go_returns
        exact ⟨l, true, rfl, by omega, by omega, rfl⟩)

end Go.Proofs.YtgdadbmhdljcdaaGreatDoor

/- A sound is drawn. -/
namespace Go.Proofs.YtgdadbmhdljcdaaGreatDoor
set_option linter.unusedVariables false
open Go.RowKit Go.Proofs.Bell Go.BigFrame

theorem bdrew (w : World) : Below w.heap.size w w.drew := below_drewN (Below.refl _ _) 1
def offs (kind : Int) : List Int := if kind = 2 then [-12000, 0, 4000, 7000, 12000] else [-12000, 0, 3000, 7000, 12000]
theorem offs_len (kind : Int) : (offs kind).length = 5 := by unfold offs; split <;> rfl
theorem offs_bd (kind : Int) (k : Nat) (hk : k < 5) : -12000 ≤ (offs kind).getD k 0 ∧ (offs kind).getD k 0 ≤ 12000 := by
  unfold offs
  split <;>
  · match k, hk with
    | 0, _ => simp
    | 1, _ => simp
    | 2, _ => simp
    | 3, _ => simp
    | 4, _ => simp
set_option maxHeartbeats 800000 in
theorem l04Offsets_c (kind : Int) (w : World) : Calls Tryz.prog 152 #[.int .i64 kind] w (RetOwnI (offs kind) w) := by
  unfold offs
  by_cases h : kind = 2
  · subst h
    rw [if_pos rfl]
    go_enter Tryz.func152, Tryz.ntmps152
    go_wp2
    go_returns
    exact ⟨_, rfl, own_five _ _ _ _ _ _ _ (Nat.le_refl _), by go_grown⟩
  · rw [if_neg h]
    have t1 : (kind == 2) = false := beq_eq_false_iff_ne.2 h
    have t2 : decide (kind = 2) = false := decide_eq_false h
    go_enter Tryz.func152, Tryz.ntmps152
    go_wp2
    go_returns
    exact ⟨_, rfl, own_five _ _ _ _ _ _ _ (Nat.le_refl _), by go_grown⟩

/-- five numbers of a sound, each in its bounds -/
def RetSo (hi : Int) (w : World) (e : Ending) (w' : World) : Prop := ∃ (a b c d f : Int) (ok : Bool), e = .returned (.tuple #[.agg #[.int .i64 a, .int .i64 b, .int .i64 c, .int .i64 d, .int .i64 f], .bool ok]) ∧ (∀ k, k < 5 → 0 ≤ [a, b, c, d, f].getD k 0 ∧ [a, b, c, d, f].getD k 0 ≤ hi) ∧ Below w.heap.size w w'

structure SRai (l1 l2 o1 o2 : Nat) (x y : Int) (w' : World) : Prop where
  e1 : w'.cell? ⟨l1, o1, none⟩ = some (.int .i64 x)
  e2 : w'.cell? ⟨l2, o2, none⟩ = some (.int .i64 y)

/-- the result's box as it was made -/
structure Z5 (R : Nat) (w' : World) : Prop where
  z0 : w'.cell? ⟨R, 0, none⟩ = some (.int .i64 0)
  z1 : w'.cell? ⟨R, 1, none⟩ = some (.int .i64 0)
  z2 : w'.cell? ⟨R, 2, none⟩ = some (.int .i64 0)
  z3 : w'.cell? ⟨R, 3, none⟩ = some (.int .i64 0)
  z4 : w'.cell? ⟨R, 4, none⟩ = some (.int .i64 0)
  zf : ∀ j, w'.frozen? ⟨R, j, none⟩ = false
theorem Z5.lt {R : Nat} {w : World} (h : Z5 R w) : R < w.heap.size := World.block_lt_of_cell? _ _ h.z0
theorem Z5.only {S : Nat → Prop} {R : Nat} {w w' : World} (h : Z5 R w) (ho : Only S w w') (hn : ¬ S R) : Z5 R w' :=
  ⟨cell_only ho h.z0 hn, cell_only ho h.z1 hn, cell_only ho h.z2 hn, cell_only ho h.z3 hn, cell_only ho h.z4 hn, fun j => (frozen_only ho (p := ⟨R, j, none⟩) h.lt hn).trans (h.zf j)⟩
theorem Z5.later {R : Nat} {w w' : World} (h : Z5 R w) (hb : Below w.heap.size w w') : Z5 R w' := h.only (Only.of_below (S := fun b => w.heap.size ≤ b) hb) (by have := h.lt; omega)
theorem app_bd {Q : List Int} {x hi : Int} (h : ∀ j, 0 ≤ Q.getD j 0 ∧ Q.getD j 0 ≤ hi) (h1 : 0 ≤ x) (h2 : x ≤ hi) (h0 : 0 ≤ hi) : ∀ j, 0 ≤ (Q ++ [x]).getD j 0 ∧ (Q ++ [x]).getD j 0 ≤ hi := fun j => by
  rcases Nat.lt_or_ge j Q.length with e | e
  · have := h j
    simp only [List.getD] at this ⊢
    rwa [List.getElem?_append_left e]
  · rcases Nat.eq_or_lt_of_le e with e2 | e2
    · subst e2
      simp [List.getD]
      omega
    · simp only [List.getD]
      rw [List.getElem?_eq_none (by simp; omega)]
      simp; omega

set_option maxRecDepth 100000 in
set_option maxHeartbeats 6400000 in
theorem l04Raised_c (v1 v2 : Value) (ls by2 : List Int) (w : World) (h1 : Rd w v1 5 (ints ls)) (h2 : Rd w v2 5 (ints by2)) (hl1 : ls.length = 5) (hl2 : by2.length = 5) (hb1 : ∀ k, k < 5 → 1 ≤ ls.getD k 0 ∧ ls.getD k 0 ≤ 20000000) (hb2 : ∀ k, k < 5 → -12000 ≤ by2.getD k 0 ∧ by2.getD k 0 ≤ 12000) :
    Calls Tryz.prog 151 #[v1, v2] w (RetSo 20000000 w) := by
  have hra : ∀ k w', k < 5 → Calls Tryz.prog 184 #[.int .i64 (ls.getD k 0), .int .i64 (by2.getD k 0)] w' (RetRaise w') := fun k w' hk => by
    have a := hb1 k hk
    have b := hb2 k hk
    have := l02Raise_c (ls.getD k 0).toNat (by2.getD k 0) w' (by omega) (by omega) b.1 b.2
    rwa [Int.toNat_of_nonneg (by omega)] at this
  obtain ⟨hn1, ao1, cap1, bb1, off1, rfl, hao1, hcell1⟩ := h1.open
  obtain ⟨hn2, ao2, cap2, bb2, off2, rfl, hao2, hcell2⟩ := h2.open
  obtain rfl := hao1 (by omega)
  obtain rfl := hao2 (by omega)
  have hc1 := fun w' (hx : Below w.heap.size w w') k (hk : k < 5) => (hcell1 w' hx k _ (by omega) (intsAt (show k < ls.length by omega))).trans (congrArg (fun z => some (Value.int .i64 z)) (getD_eq (show k < ls.length by omega)).symm)
  have hc2 := fun w' (hx : Below w.heap.size w w') k (hk : k < 5) => (hcell2 w' hx k _ (by omega) (intsAt (show k < by2.length by omega))).trans (congrArg (fun z => some (Value.int .i64 z)) (getD_eq (show k < by2.length by omega)).symm)
  have hso := fun v r (hl : r.length = 5) w' (h : Rd w' v 5 (ints r)) => l04Sound_c v r hl w' h
  unfold sndV at hso
  have HC1 := Lib.hid hc1; clear hc1
  have HC2 := Lib.hid hc2; clear hc2
  have HRA := Lib.hid hra; clear hra
  have HSO := Lib.hid hso; clear hso
  clear h1 h2 hl1 hl2 hb1 hb2 hcell1 hcell2 hao1 hao2
  go_enter Tryz.func151, Tryz.ntmps151
  go_wp2_with fail
  go_loopw [7, 6] (fun i z wr => ∃ (k : Nat) (u : Value) (Q : List Int), k ≤ 5 ∧ i = .int .i64 k ∧ u = z ∧ Q.length = k ∧ (∀ j, 0 ≤ Q.getD j 0 ∧ Q.getD j 0 ≤ 20000000) ∧ OwnI (w.heap.size + 1) wr u Q ∧ Below w.heap.size w wr ∧ Z5 w.heap.size wr) (fun i _ _ => 5 - (intOf i).toNat)
  case atStart => exact ⟨0, _, [], Nat.zero_le _, rfl, rfl, rfl, fun j => by simp, by have := own_empty (w.alloc (.cells #[.int .i64 0, .int .i64 0, .int .i64 0, .int .i64 0, .int .i64 0] 47)) 2 1 (w.heap.size + 1) (by simp); unfold OwnI; simpa [ints] using this, by go_grown, ⟨by simp [go_sem], by simp [go_sem], by simp [go_sem], by simp [go_sem], by simp [go_sem], fun j => by simp [go_sem]⟩⟩
  case round =>
    obtain ⟨k, u, Q, hk, rfl, rfl, hQ, hQb, ho, hb, hZ⟩ := hrel
    by_cases hlt : k < 5
    · have hltd : decide ((k : Int) < 5) = true := by simp; omega
      have e1 := HC1.out wr hb k hlt
      have e2 := HC2.out wr hb k hlt
      have hra := fun w' => HRA.out k w' hlt
      have hix := ix (P := Tryz.prog) (T := 42) (n := 5) (cap := cap1) Tryz.underlying42 cells_int64 has_int64 (ao := some ⟨bb1, off1, none⟩) (b := bb1) (off := off1) (fun _ => rfl) (k := k) hlt _ rfl
      have hix2 := ix (P := Tryz.prog) (T := 42) (n := 5) (cap := cap2) Tryz.underlying42 cells_int64 has_int64 (ao := some ⟨bb2, off2, none⟩) (b := bb2) (off := off2) (fun _ => rfl) (k := k) hlt _ rfl
      rw [Nat.mul_one] at hix hix2
      generalize ls.getD k 0 = x at *
      generalize by2.getD k 0 = y at *
      have HS : SRai bb1 bb2 (off1 + k) (off2 + k) x y wr.drew := ⟨below_cell (bdrew wr) e1, below_cell (bdrew wr) e2⟩
      have hb := hb.drew
      have ho := own_later ho (bdrew wr)
      have hZ := hZ.later (bdrew wr)
      have HO := Lib.hid ho; clear ho
      have HRA1 := Lib.hid hra; clear hra
      have HQB := Lib.hid hQb; clear hQb
      have HZ := Lib.hid hZ; clear hZ
      clear e1 e2
      go_wp2_with fail
      refine startX (SRai bb1 bb2 (off1 + k) (off2 + k) x y) [] (by kernel_rfl) ?_
      generalize wr.drew = wr at *
      refine takeX 0 16 (.slice (some ⟨bb1, off1, none⟩) 5 cap1) rfl rfl (by kernel_rfl) (fun _ _ _ h => h) (by rfl) (fun _ _ => rfl) HS ?_
      simp only [List.setIfInBounds_toArray, List.set_cons_zero, List.set_cons_succ]
      refine takeX 1 17 (.int .i64 k) rfl rfl (by kernel_rfl) (fun _ _ _ h => h) (by rfl) (fun _ _ => rfl) HS ?_
      simp only [List.setIfInBounds_toArray, List.set_cons_zero, List.set_cons_succ]
      refine takeX 2 18 (.pointer (some ⟨bb1, off1 + k, none⟩)) rfl rfl (by kernel_rfl) (fun _ _ _ h => h) (by rfl) (fun _ _ => by (go_simp; done)) HS ?_
      simp only [List.setIfInBounds_toArray, List.set_cons_zero, List.set_cons_succ]
      refine takeX 3 19 (.int .i64 x) rfl rfl (by kernel_rfl) (fun _ _ _ h => h) (by rfl) (fun w' hS => by (have q0 := hS.e1; clear hS HS; go_simp; done)) HS ?_
      simp only [List.setIfInBounds_toArray, List.set_cons_zero, List.set_cons_succ]
      refine takeX 4 20 (.slice (some ⟨bb2, off2, none⟩) 5 cap2) rfl rfl (by kernel_rfl) (fun _ _ _ h => h) (by rfl) (fun _ _ => rfl) HS ?_
      simp only [List.setIfInBounds_toArray, List.set_cons_zero, List.set_cons_succ]
      refine takeX 5 21 (.int .i64 k) rfl rfl (by kernel_rfl) (fun _ _ _ h => h) (by rfl) (fun _ _ => rfl) HS ?_
      simp only [List.setIfInBounds_toArray, List.set_cons_zero, List.set_cons_succ]
      refine takeX 6 22 (.pointer (some ⟨bb2, off2 + k, none⟩)) rfl rfl (by kernel_rfl) (fun _ _ _ h => h) (by rfl) (fun _ _ => by (go_simp; done)) HS ?_
      simp only [List.setIfInBounds_toArray, List.set_cons_zero, List.set_cons_succ]
      refine takeX 7 23 (.int .i64 y) rfl rfl (by kernel_rfl) (fun _ _ _ h => h) (by rfl) (fun w' hS => by (have q0 := hS.e2; clear hS HS; go_simp; done)) HS ?_
      simp only [List.setIfInBounds_toArray, List.set_cons_zero, List.set_cons_succ]
      refine stepX 8 (by kernel_rfl) rfl ?_
      intro K hK
      go_simp
      refine (HRA1.out _).mono ?_
      rintro _ wr ⟨g, ok, rfl, hg1, hg2, rfl⟩
      refine hK _ _ (fun _ => HS) ?_
      clear hK K
      refine stepX 9 (by kernel_rfl) rfl ?_
      intro K hK
      go_simp
      refine hK _ _ (fun _ => HS) ?_
      clear hK K
      refine takeX 10 25 (.int .i64 g) rfl rfl (by kernel_rfl) (fun _ _ _ h => h) (by rfl) (fun _ _ => by (go_simp; done)) HS ?_
      simp only [List.setIfInBounds_toArray, List.set_cons_zero, List.set_cons_succ]
      refine takeX 11 26 (.bool ok) rfl rfl (by kernel_rfl) (fun _ _ _ h => h) (by rfl) (fun _ _ => by (go_simp; done)) HS ?_
      simp only [List.setIfInBounds_toArray, List.set_cons_zero, List.set_cons_succ]
      refine takeX 12 8 (.int .i64 g) rfl rfl (by kernel_rfl) (fun _ _ _ h => h) (by rfl) (fun _ _ => rfl) HS ?_
      simp only [List.setIfInBounds_toArray, List.set_cons_zero, List.set_cons_succ]
      refine takeX 13 9 (.bool ok) rfl rfl (by kernel_rfl) (fun _ _ _ h => h) (by rfl) (fun _ _ => rfl) HS ?_
      simp only [List.setIfInBounds_toArray, List.set_cons_zero, List.set_cons_succ]
      refine doneX (by kernel_rfl) ?_ _
      clear HS
      cases ok
      · have z0 := HZ.out.z0
        have z1 := HZ.out.z1
        have z2 := HZ.out.z2
        have z3 := HZ.out.z3
        have z4 := HZ.out.z4
        have zf := HZ.out.zf
        go_wp2
        refine bodyPost_ret (v := .tuple #[.agg #[.int .i64 0, .int .i64 0, .int .i64 0, .int .i64 0, .int .i64 0], .bool false]) (by simp [results, Tryz.results151, go_sem, cell_setCell, z0, z1, z2, z3, z4]) rfl ?_
        exact ⟨0, 0, 0, 0, 0, false, rfl, fun k hk => by match k, hk with | 0, _ => simp | 1, _ => simp | 2, _ => simp | 3, _ => simp | 4, _ => simp, ((((hb.setCell (Nat.le_refl _) _).setCell (Nat.le_refl _) _).setCell (Nat.le_refl _) _).setCell (Nat.le_refl _) _).setCell (Nat.le_refl _) _⟩
      · have hap := app_bd HQB.out hg1 hg2 (by omega)
        have lo := own_lo HO.out
        have hwl : w.heap.size + 1 ≤ wr.heap.size := HZ.out.lt
        have HAP := Lib.hid hap; clear hap
        have LO := Lib.hid lo; clear lo
        go_wp2_with (at_builtin; refine app_I (.tmp 30) (.tmp 32) _ (w.heap.size + 1) _ _ _ (by rfl) (by rfl) (by rfl) (by rfl) HO.out (by omega) (by omega) ?_; intro v9 w9 o9 q9)
        have b9 := Only.below hb q9 hb.size (fun j e => by have := LO.out j e; omega)
        have hZ9 := HZ.out.only q9 (fun e => by have h9 := LO.out _ e; omega)
        have O9 := Lib.hid o9; clear o9
        have HZ9 := Lib.hid hZ9; clear hZ9
        go_roundw
        case rel => exact ⟨k + 1, v9, Q ++ [g], by omega, by go_num, rfl, by simp [hQ], HAP.out, O9.out, b9, HZ9.out⟩
        case measure => simp [intOf]; omega
    · obtain rfl : k = 5 := by omega
      have hltd : decide ((5 : Int) < 5) = false := rfl
      have rdQ : Rd wr u 5 (ints Q) := by have := Rd.of_own ho; rwa [hQ] at this
      have hso := fun w' h => HSO.out u Q hQ w' h
      have hv5 : ∀ k, k < 5 → 0 ≤ [Q.getD 0 0, Q.getD 1 0, Q.getD 2 0, Q.getD 3 0, Q.getD 4 0].getD k 0 ∧ [Q.getD 0 0, Q.getD 1 0, Q.getD 2 0, Q.getD 3 0, Q.getD 4 0].getD k 0 ≤ 20000000 := fun k hk => by
        match k, hk with
        | 0, _ => exact hQb 0
        | 1, _ => exact hQb 1
        | 2, _ => exact hQb 2
        | 3, _ => exact hQb 3
        | 4, _ => exact hQb 4
      generalize Q.getD 0 0 = a0 at *
      generalize Q.getD 1 0 = a1 at *
      generalize Q.getD 2 0 = a2 at *
      generalize Q.getD 3 0 = a3 at *
      generalize Q.getD 4 0 = a4 at *
      obtain ⟨au, pu, hu⟩ := own_shape ho
      rw [hQ] at hu
      subst hu
      have HSO1 := Lib.hid hso; clear hso
      have RDQ := Lib.hid rdQ; clear rdQ
      have HV5 := Lib.hid hv5; clear hv5
      clear hQb ho HSO
      go_wp2_with fail
      refine (HSO1.out _ RDQ.out).mono ?_
      rintro _ w9 ⟨rfl, r9⟩
      have b9 := hb.trans (r9.mono hb.size)
      have hZ9 := hZ.later r9
      have z0 := hZ9.z0
      have z1 := hZ9.z1
      have z2 := hZ9.z2
      have z3 := hZ9.z3
      have z4 := hZ9.z4
      have zf := hZ9.zf
      clear hZ hZ9
      go_wp2
      refine bodyPost_ret (v := .tuple #[.agg #[.int .i64 a0, .int .i64 a1, .int .i64 a2, .int .i64 a3, .int .i64 a4], .bool true]) (by simp [results, Tryz.results151, go_sem, cell_setCell, z0, z1, z2, z3, z4]) rfl ?_
      exact ⟨a0, a1, a2, a3, a4, true, rfl, HV5.out, ((((b9.setCell (Nat.le_refl _) _).setCell (Nat.le_refl _) _).setCell (Nat.le_refl _) _).setCell (Nat.le_refl _) _).setCell (Nat.le_refl _) _⟩

end Go.Proofs.YtgdadbmhdljcdaaGreatDoor

/- Zones are drawn. -/
namespace Go.Proofs.YtgdadbmhdljcdaaGreatDoor
set_option linter.unusedVariables false
open Go.RowKit Go.Proofs.Bell Go.BigFrame

/-- a list that stays as it is while the source alone is written -/
def RdG (g : Nat) (w : World) (v : Value) (zs : List Int) : Prop := ∀ w2, Only (fun b => b = g) w w2 → Rd w2 v zs.length (ints zs)
theorem RdG.rd {g : Nat} {w : World} {v : Value} {zs : List Int} (h : RdG g w v zs) : Rd w v zs.length (ints zs) := h w (Only.refl _ _)
theorem RdG.only {g : Nat} {w w' : World} {v : Value} {zs : List Int} (h : RdG g w v zs) (ho : Only (fun b => b = g) w w') : RdG g w' v zs := fun w2 h2 => h w2 (ho.trans h2)
theorem RdG.of_own {g base : Nat} {w : World} {v : Value} {zs : List Int} (h : OwnI base w v zs) (hg : g < base) : RdG g w v zs := fun w2 h2 => Rd.of_own (own_only h h2 (fun b e hS => by have := own_lo h b e; omega))
def RetDz (A g : Nat) (w : World) (e : Ending) (w' : World) : Prop := ∃ (v : Value) (zs : List Int), e = .returned v ∧ RdG g w' v zs ∧ zs.length ≤ 9 ∧ Src A g w' ∧ Only (fun b => b = g) w w'

/-- the tail of a list of one's own -/
theorem tail_rd {g base gz n c of cq : Nat} {w : World} {zs : List Int} (h : OwnI base w (.slice (some ⟨gz, 0, none⟩) n c) zs) (hn : n = zs.length) (h1 : 1 ≤ n) (hg : g < base) (hof : of = 1 ∨ n = 1) (hc1 : n - 1 ≤ cq) (hc2 : cq ≤ c) : RdG g w (.slice (some ⟨gz, of, none⟩) (n - 1) cq) zs.tail := fun w2 h2 => by
  have ho := own_only h h2 (fun b e hS => by have := own_lo h b e; omega)
  have hrd := Rd.of_own ho
  have hlt := own_lt ho gz rfl
  have htl : zs.tail.length = n - 1 := by rw [List.length_tail, hn]
  rw [htl]
  obtain ⟨hm, hq | ⟨_, b, off, cap, hv, _, hcm, _, _⟩⟩ := hrd
  · omega
  injection hv with e1 e2 e3
  subst e3
  refine ⟨by omega, ?_⟩
  rcases Nat.eq_or_lt_of_le h1 with e | e
  · left
    refine ⟨by omega, ?_, _, _, by rw [show n - 1 = 0 by omega], fun h => (by cases h), by omega⟩
    have : zs.tail = [] := List.eq_nil_of_length_eq_zero (by omega)
    rw [this]; rfl
  · right
    have hof1 : of = 1 := by omega
    subst hof1
    refine ⟨by omega, gz, 1, cq, rfl, hc1, by omega, hlt, fun j u hj => ?_⟩
    have hj2 : j + 1 < zs.length := by
      have := (List.getElem?_eq_some_iff.1 hj).1
      simp [ints] at this
      omega
    have hu : u = .int .i64 zs[j + 1] := by
      have : (ints zs.tail)[j]? = some (.int .i64 zs[j + 1]) := by simp [ints, List.getElem?_tail, hj2]
      rw [this] at hj
      exact (Option.some.inj hj).symm
    subst hu
    unfold OwnI at ho
    rw [Nat.add_comm 1 j]
    rw [← hn] at ho
    exact (World.ownsRow.cellAt ho (j + 1) (by omega)).trans (intsAt hj2)
theorem own_cap {base gz n c : Nat} {w : World} {zs : List Int} (h : OwnI base w (.slice (some ⟨gz, 0, none⟩) n c) zs) (h1 : 1 ≤ zs.length) : zs.length ≤ c ∧ c ≤ maxLen := by
  obtain ⟨hm, hq | ⟨_, b, off, cap, hv, hnc, hcm, _, _⟩⟩ := Rd.of_own h
  · omega
  · injection hv with e1 e2 e3
    subst e3
    exact ⟨hnc, hcm⟩
theorem reslice_I {g n c : Nat} (h1 : 1 ≤ n) (h2 : n ≤ c) (h3 : (c : Int) ≤ 9223372036854775807) : ∃ of cq, (of = 1 ∨ n = 1) ∧ n - 1 ≤ cq ∧ cq ≤ c ∧ ∀ w, (Instr.slice 42 (.slice (some ⟨g, 0, none⟩) n c) (some (.int .i64 1)) none none).run Tryz.prog w = .ok (.slice (some ⟨g, of, none⟩) (n - 1) cq) w := by
  have i1 : (1 : Int) ≤ (n : Int) := by omega
  have i2 : (n : Int) ≤ (c : Int) := by omega
  by_cases hc : c = 1
  · obtain rfl : n = 1 := by omega
    subst hc
    exact ⟨0, 0, .inr rfl, by omega, by omega, fun w => by simp [Instr.slice, run_underlying Tryz.underlying42, go_sem]⟩
  · refine ⟨1, c - 1, .inl rfl, by omega, by omega, fun w => ?_⟩
    have hc2 : ¬ (c - 1 = 0) := by omega
    simp [Instr.slice, run_underlying Tryz.underlying42, go_sem, i1, i2, h1, h2, hc, hc2]

set_option maxRecDepth 100000 in
set_option maxHeartbeats 6400000 in
theorem l09DrawZones_c (A g g' : Nat) (sv : Value) (ps : List (Int × Int × Int)) (w : World) (h : Src A g w) (hA : A ≤ 1000000000) (c1 : w.cell? ⟨g', 1, none⟩ = some sv) (hgg : g' ≠ g) (hr : Rd w sv ps.length (trips ps)) (h1 : 1 ≤ ps.length) (h9 : ps.length ≤ 32) : Calls Tryz.prog 80 #[.pointer (some ⟨g, 0, none⟩), .pointer (some ⟨g', 0, none⟩)] w (RetDz (A + 70) g w) := by
  have hgw := h.lt
  have hgw' : g' < w.heap.size := World.block_lt_of_cell? _ _ c1
  have hon := fun A w' (hx : Src A g w') (hA : A ≤ 100000000000) => one_c A g 2 w' hx hA (by omega) (by omega)
  have hpk := fun w' A' (hx : Src A' g w') (hA' : A' ≤ 100000000000) => pick_c A' g 20 w' hx hA' (by omega) (by omega)
  obtain ⟨_, ao2, cap2, _, _, rfl, _, _⟩ := hr.open
  have hc1 := fun w' (hx : Only (fun b => b = g) w w') => cell_only hx c1 (by show ¬ g' = g; omega)
  have HON := Lib.hid hon; clear hon
  have HPK := Lib.hid hpk; clear hpk
  have HC1 := Lib.hid hc1; clear hc1
  clear hr c1
  generalize ps.length = n at *
  go_enter Tryz.func80, Tryz.ntmps80
  go_wp2_with fail
  have k1 : Below w.heap.size w (w.alloc (.cells #[.int .i64 0] 2)) := (Below.refl _ _).alloc (Nat.le_refl _) _
  have hs1 := h.later k1
  have ho1 : Only (fun b => b = g) w (w.alloc (.cells #[.int .i64 0] 2)) := Only.of_below k1
  have o1 : OwnI w.heap.size (w.alloc (.cells #[.int .i64 0] 2)) (.slice (some ⟨w.heap.size, 0, none⟩) 1 1) [0] := own_one w 0 _ (Nat.le_refl _)
  clear k1 h
  have HS1 := Lib.hid hs1; clear hs1
  have HO1 := Lib.hid ho1; clear ho1
  have O1 := Lib.hid o1; clear o1
  go_loopw [6, 5] (fun i z wr => ∃ (k : Nat) (u : Value) (zs : List Int), 1 ≤ k ∧ k ≤ n ∧ i = .int .i64 k ∧ u = z ∧ 1 ≤ zs.length ∧ zs.length ≤ 8 ∧ OwnI w.heap.size wr u zs ∧ Src (A + 2 * k) g wr ∧ Only (fun b => b = g) w wr) (fun i _ _ => n - (intOf i).toNat)
  case atStart => exact ⟨1, _, [0], Nat.le_refl _, h1, rfl, rfl, Nat.le_refl _, by decide, O1.out, HS1.out.mono (by omega), HO1.out⟩
  case round =>
    clear O1 HS1 HO1
    obtain ⟨k, u, zs, hk1, hk, rfl, rfl, hz1, hz8, ho, hs, hq⟩ := hrel
    obtain ⟨gz, cz, hu, hgz1, hgz2⟩ := World.ownsRow.form ho hz1
    subst hu
    have hc := HC1.out wr hq
    by_cases hlt : k < n ∧ zs.length < 8
    · obtain ⟨hlt, hl8⟩ := hlt
      have t1 : decide (k < n) = true := decide_eq_true hlt
      have t2 : decide ((zs.length : Int) < 8) = true := decide_eq_true (by omega)
      have HO := Lib.hid ho; clear ho
      have HSR := Lib.hid hs; clear hs
      go_wp2_with fail
      refine (HON.out _ _ HSR.out (by omega)).mono ?_
      rintro _ w2 ⟨r, rfl, s2, q2⟩
      have hq2 := hq.trans q2
      have ho2 := own_only HO.out q2 (fun b e hS => by have := own_lo HO.out b e; omega)
      have hz2 := hq2.size
      clear q2 hq HO HSR hc
      have HO2 := Lib.hid ho2; clear ho2
      have HQ2 := Lib.hid hq2; clear hq2
      cases r
      · have s3 := s2.mono (show A + 2 * k + 2 ≤ A + 2 * (k + 1) by omega)
        have S3 := Lib.hid s3; clear s3
        clear s2
        go_wp2
        go_roundw
        case rel => exact ⟨k + 1, _, zs, by omega, by omega, by go_num, rfl, hz1, hz8, HO2.out, S3.out, HQ2.out⟩
        case measure => simp [intOf]; omega
      · have S2 := Lib.hid s2; clear s2
        go_wp2_with (at_builtin; refine app_I (.tmp 24) (.tmp 26) _ w.heap.size _ _ _ (by rfl) (by rfl) (by rfl) (by rfl) HO2.out (by omega) hz2 ?_; intro v9 w9 o9 q9)
        have lo9 := own_lo HO2.out
        have s9 := (S2.out.keep q9 (fun b e => by have := lo9 b e; omega)).mono (show A + 2 * k + 2 ≤ A + 2 * (k + 1) by omega)
        have hq9 : Only (fun b => b = g) w w9 := ⟨q9.os.trans HQ2.out.os, q9.tape.trans HQ2.out.tape, q9.output.trans HQ2.out.output, Nat.le_trans HQ2.out.size q9.size, fun b hb hn => (q9.block b (by omega) (fun e => by have := lo9 b e; omega)).trans (HQ2.out.block b hb hn)⟩
        have S9 := Lib.hid s9; clear s9
        have O9 := Lib.hid o9; clear o9
        have HQ9 := Lib.hid hq9; clear hq9
        clear q9 lo9
        go_roundw
        case rel => exact ⟨k + 1, v9, zs ++ [(k : Int)], by omega, by omega, by go_num, rfl, by simp, by simp; omega, O9.out, S9.out, HQ9.out⟩
        case measure => simp [intOf]; omega
    · have hd : (decide (k < n) = true ∧ decide ((zs.length : Int) < 8) = false) ∨ decide (k < n) = false := by
        by_cases e : k < n
        · exact .inl ⟨decide_eq_true e, decide_eq_false (by omega)⟩
        · exact .inr (decide_eq_false e)
      have s0 := hs.mono (show A + 2 * k ≤ A + 64 by omega)
      clear hs
      have HO := Lib.hid ho; clear ho
      have S0 := Lib.hid s0; clear s0
      have HQ := Lib.hid hq; clear hq
      rcases hd with ⟨t1, t2⟩ | t1
      all_goals (
        go_wp2_with fail
        refine (HPK.out _ _ S0.out (by omega)).mono ?_
        rintro _ w2 ⟨r, rfl, l2, u2, s2, q2⟩
        have hq2 := HQ.out.trans q2
        have ho2 := own_only HO.out q2 (fun b e hS => by have := own_lo HO.out b e; omega)
        have hz2 := hq2.size
        have hcw := HC1.out w2 hq2
        have s3 := s2.mono (show A + 64 + 2 ≤ A + 70 by omega)
        have lo2 := own_lo ho2
        clear q2 hc HQ HO S0 t1 s2
        have HO2 := Lib.hid ho2; clear ho2
        have S3 := Lib.hid s3; clear s3
        have HQ2 := Lib.hid hq2; clear hq2
        have LO2 := Lib.hid lo2; clear lo2
        by_cases r0 : r = 0
        · subst r0
          go_wp2_with (at_builtin; refine app_I (.tmp 32) (.tmp 38) _ w.heap.size _ _ _ (by rfl) (by rfl) (by rfl) (by rfl) HO2.out (by omega) hz2 ?_; intro v9 w9 o9 q9)
          have s9 := S3.out.keep q9 (fun b e => by have := LO2.out b e; omega)
          have hq9 : Only (fun b => b = g) w w9 := ⟨q9.os.trans HQ2.out.os, q9.tape.trans HQ2.out.tape, q9.output.trans HQ2.out.output, Nat.le_trans HQ2.out.size q9.size, fun b hb hn => (q9.block b (by omega) (fun e => by have := LO2.out b e; omega)).trans (HQ2.out.block b hb hn)⟩
          go_returns
          exact ⟨v9, _, rfl, RdG.of_own o9 hgw, by simp; omega, s9, hq9⟩
        · have b0 : (r == 0) = false := beq_eq_false_iff_ne.2 r0
          by_cases r1 : r = 1
          · subst r1
            obtain ⟨hnc, hcm⟩ := own_cap HO2.out hz1
            have i1 : (1 : Int) ≤ (zs.length : Int) := by omega
            have i2 : (zs.length : Int) ≤ (cz : Int) := by omega
            go_wp2
            all_goals (
              go_returns
              exact ⟨_, zs.tail, rfl, tail_rd (g := g) HO2.out rfl hz1 hgw (by omega) (by omega) (by omega), by simp; omega, S3.out, HQ2.out⟩)
          · have b1 : (r == 1) = false := beq_eq_false_iff_ne.2 r1
            by_cases r2 : r = 2
            · subst r2
              have hkl : zs.length - 1 < zs.length := by omega
              have hix := ix (P := Tryz.prog) (T := 42) (n := zs.length) (cap := cz) Tryz.underlying42 cells_int64 has_int64 (ao := some ⟨gz, 0, none⟩) (b := gz) (off := 0) (fun _ => rfl) (k := zs.length - 1) hkl ((zs.length : Int) - 1) (by omega)
              rw [Nat.mul_one, Nat.zero_add] at hix
              have hcl := (World.ownsRow.cellAt HO2.out (zs.length - 1) (by omega)).trans (intsAt hkl)
              generalize zs[zs.length - 1] = z at *
              go_wp2_with (at_builtin; refine app_I (.tmp 46) (.tmp 53) _ w.heap.size _ _ _ (by rfl) (by rfl) (by rfl) (by rfl) HO2.out (by omega) hz2 ?_; intro v9 w9 o9 q9)
              have s9 := S3.out.keep q9 (fun b e => by have := LO2.out b e; omega)
              have hq9 : Only (fun b => b = g) w w9 := ⟨q9.os.trans HQ2.out.os, q9.tape.trans HQ2.out.tape, q9.output.trans HQ2.out.output, Nat.le_trans HQ2.out.size q9.size, fun b hb hn => (q9.block b (by omega) (fun e => by have := LO2.out b e; omega)).trans (HQ2.out.block b hb hn)⟩
              go_returns
              exact ⟨v9, _, rfl, RdG.of_own o9 hgw, by simp; omega, s9, hq9⟩
            · have b2 : (r == 2) = false := beq_eq_false_iff_ne.2 r2
              have hrg := RdG.of_own (g := g) HO2.out hgw
              have HRG := Lib.hid hrg; clear hrg
              go_wp2
              go_returns
              exact ⟨_, zs, rfl, HRG.out, by omega, S3.out, HQ2.out⟩)

end Go.Proofs.YtgdadbmhdljcdaaGreatDoor

/- A sound is drawn, as it mostly is. -/
namespace Go.Proofs.YtgdadbmhdljcdaaGreatDoor
set_option linter.unusedVariables false
open Go.RowKit Go.Proofs.Bell Go.BigFrame

def RetSd (hi : Int) (A g : Nat) (w : World) (e : Ending) (w' : World) : Prop := ∃ a b c d f : Int, e = .returned (.agg #[.int .i64 a, .int .i64 b, .int .i64 c, .int .i64 d, .int .i64 f]) ∧ (∀ k, k < 5 → 0 ≤ [a, b, c, d, f].getD k 0 ∧ [a, b, c, d, f].getD k 0 ≤ hi) ∧ Src A g w' ∧ Only (fun b => b = g) w w'

theorem setI_at {L : List Int} {k j : Nat} {y : Int} (hk : k < L.length) : (L.set k y).getD j 0 = if j = k then y else L.getD j 0 := by
  by_cases h : j = k
  · subst h; simp [List.getD, hk]
  · rw [if_neg h]; simp [List.getD, List.getElem?_set_ne (Ne.symm h)]
theorem bent_bd {x r : Int} (h1 : 0 ≤ x) (h2 : x ≤ 20000000) (h3 : 0 ≤ r) (h4 : r ≤ 20) : -200000 ≤ x / 1000 * (r - 10) ∧ x / 1000 * (r - 10) ≤ 200000 ∧ 0 ≤ x + x / 1000 * (r - 10) ∧ x + x / 1000 * (r - 10) ≤ 20200000 := by
  have hq : 0 ≤ x / 1000 := by omega
  have a := Int.mul_nonneg hq h3
  have b := Int.mul_le_mul_of_nonneg_left h4 hq
  rw [Int.mul_sub]
  omega

structure SBen (l k : Nat) (x : Int) (w' : World) : Prop where
  e : w'.cell? ⟨l, k, none⟩ = some (.int .i64 x)

set_option maxRecDepth 100000 in
set_option maxHeartbeats 6400000 in
theorem l04DrawOk_c (A g : Nat) (w : World) (h : Src A g w) (hA : A ≤ 1000000000) : Calls Tryz.prog 117 #[.pointer (some ⟨g, 0, none⟩)] w (RetSd 20200000 (A + 24) g w) := by
  have hgw := h.lt
  have hpk := fun n w' A' (h1 : n ≤ 60000) (h0 : -1000000 ≤ n) (hx : Src A' g w') (hA' : A' ≤ 100000000000) => pick_c A' g n w' hx hA' h1 h0
  have hon := fun A w' (hx : Src A g w') (hA : A ≤ 100000000000) => one_c A g 2 w' hx hA (by omega) (by omega)
  have hof := fun k w' => l04Offsets_c k w'
  have hra := fun v1 v2 s k w' h1 h2 (hs1 : 200000 ≤ s) (hs2 : s ≤ 1200000) => l04Raised_c v1 v2 [s, s, s, s, s] (offs k) w' h1 h2 rfl (offs_len k) (fun j hj => by match j, hj with | 0, _ => simp; omega | 1, _ => simp; omega | 2, _ => simp; omega | 3, _ => simp; omega | 4, _ => simp; omega) (offs_bd k)
  have hli := fun a b c d f g' w' h0 h1 h2 h3 h4 => l04ListO_c a b c d f g' w' h0 h1 h2 h3 h4
  have hso := fun v r (hl : r.length = 5) w' (h : Rd w' v 5 (ints r)) => l04Sound_c v r hl w' h
  unfold sndV at hso
  have HPK := Lib.hid hpk; clear hpk
  have HON := Lib.hid hon; clear hon
  have HOF := Lib.hid hof; clear hof
  have HRA := Lib.hid hra; clear hra
  have HLI := Lib.hid hli; clear hli
  have HSO := Lib.hid hso; clear hso
  have H := Lib.hid h; clear h
  go_enter Tryz.func117, Tryz.ntmps117
  go_wp2_with fail
  have kb : Below w.heap.size w (w.alloc (.cells #[.int .i64 0, .int .i64 0, .int .i64 0, .int .i64 0, .int .i64 0] 47)) := (Below.refl _ _).alloc (Nat.le_refl _) _
  have hs0 := H.out.later kb
  have hZ : Z5 w.heap.size (w.alloc (.cells #[.int .i64 0, .int .i64 0, .int .i64 0, .int .i64 0, .int .i64 0] 47)) := ⟨by simp [go_sem], by simp [go_sem], by simp [go_sem], by simp [go_sem], by simp [go_sem], fun j => by simp [go_sem]⟩
  have ho : Only (fun b => b = g) w (w.alloc (.cells #[.int .i64 0, .int .i64 0, .int .i64 0, .int .i64 0, .int .i64 0] 47)) := Only.of_below kb
  generalize w.alloc (.cells #[.int .i64 0, .int .i64 0, .int .i64 0, .int .i64 0, .int .i64 0] 47) = w0 at *
  refine (HPK.out _ _ _ (by omega) (by omega) hs0 (by omega)).mono ?_
  rintro _ w1 ⟨r1, rfl, l1, u1, k1, q1⟩
  have ho := ho.trans q1
  have hZ := hZ.only q1 (by omega)
  clear q1 hs0 kb
  go_wp2_with fail
  refine (HPK.out _ _ _ (by omega) (by omega) k1 (by omega)).mono ?_
  rintro _ w2 ⟨r2, rfl, l2, u2, k2, q2⟩
  have ho := ho.trans q2
  have hZ := hZ.only q2 (by omega)
  clear q2 k1
  have K2 := Lib.hid k2; clear k2
  have gw1 : IntKind.i64.wrap (r1 * 500) = r1 * 500 := IntWalk.i64_in _ (by omega)
  have gw2 : IntKind.i64.wrap (200000 + r1 * 500) = 200000 + r1 * 500 := IntWalk.i64_in _ (by omega)
  go_wp2_with fail
  have hsv : ∃ s, s = 200000 + r1 * 500 ∧ 200000 ≤ s ∧ s ≤ 1200000 := ⟨_, rfl, by omega, by omega⟩
  obtain ⟨s, hs, hs1, hs2⟩ := hsv
  simp only [← hs]
  clear hs gw1 gw2 l1 u1
  have kb : Below w2.heap.size w2 (w2.alloc (.cells #[.int .i64 s, .int .i64 s, .int .i64 s, .int .i64 s, .int .i64 s] 2)) := (Below.refl _ _).alloc (Nat.le_refl _) _
  have o5 := own_five w2 s s s s s w2.heap.size (Nat.le_refl _)
  have k3 := K2.out.later kb
  have ho := ho.trans (Only.of_below kb)
  have hZ := hZ.later kb
  clear K2 kb
  generalize w2.alloc (.cells #[.int .i64 s, .int .i64 s, .int .i64 s, .int .i64 s, .int .i64 s] 2) = w3 at *
  refine (HOF.out _ _).mono ?_
  rintro _ w4 ⟨v4, rfl, n4, q4⟩
  have k4 := k3.later q4
  have ho := ho.trans (Only.of_below q4)
  have hZ := hZ.later q4
  have rd1 : Rd w4 (.slice (some ⟨w2.heap.size, 0, none⟩) 5 5) 5 (ints [s, s, s, s, s]) := (Rd.of_own o5).later q4
  have rd2 : Rd w4 v4 5 (ints (offs (r2 + 1))) := by have := Rd.of_own n4; rwa [offs_len] at this
  obtain ⟨a4, p4, hv4⟩ := own_shape n4
  rw [offs_len] at hv4
  subst hv4
  clear k3 q4 o5 n4
  have RD1 := Lib.hid rd1; clear rd1
  have RD2 := Lib.hid rd2; clear rd2
  have K4 := Lib.hid k4; clear k4
  go_wp2_with fail
  refine (HRA.out _ _ s (r2 + 1) _ RD1.out RD2.out hs1 hs2).mono ?_
  rintro _ w5 ⟨a, b, c, d, f, ok, rfl, hbd, q5⟩
  have k5 := K4.out.later q5
  have ho := ho.trans (Only.of_below q5)
  have hZ := hZ.later q5
  clear K4 q5 RD1 RD2 hs1 hs2 l2 u2
  have HBD := Lib.hid hbd; clear hbd
  have K5 := Lib.hid k5; clear k5
  go_wp2_with fail
  have kb : Below w5.heap.size w5 (w5.alloc (.cells #[.int .i64 a, .int .i64 b, .int .i64 c, .int .i64 d, .int .i64 f] 47)) := (Below.refl _ _).alloc (Nat.le_refl _) _
  have k6 := K5.out.later kb
  have ho := ho.trans (Only.of_below kb)
  have hZ := hZ.later kb
  have hli := HLI.out a b c d f w5.heap.size (w5.alloc (.cells #[.int .i64 a, .int .i64 b, .int .i64 c, .int .i64 d, .int .i64 f] 47)) (by simp [go_sem]) (by simp [go_sem]) (by simp [go_sem]) (by simp [go_sem]) (by simp [go_sem])
  clear K5 kb HLI
  generalize w5.alloc (.cells #[.int .i64 a, .int .i64 b, .int .i64 c, .int .i64 d, .int .i64 f] 47) = w6 at *
  have hl5 : [a, b, c, d, f].length = 5 := rfl
  have hLb : ∀ j, 0 ≤ [a, b, c, d, f].getD j 0 ∧ [a, b, c, d, f].getD j 0 ≤ 20000000 := fun j => by
    rcases Nat.lt_or_ge j 5 with e | e
    · exact HBD.out j e
    · simp only [List.getD]
      rw [List.getElem?_eq_none (by simpa using e)]
      simp
  generalize [a, b, c, d, f] = L0 at *
  refine hli.mono ?_
  rintro _ w7 ⟨v7, rfl, n7, q7⟩
  have h6l := hZ.lt
  have k7 := k6.later q7
  have ho := ho.trans (Only.of_below q7)
  have hZ := hZ.later q7
  obtain ⟨gl, cl, rfl, hg1, hg2⟩ := World.ownsRow.form n7 (by rw [hl5]; decide)
  have hgz := k6.lt
  have hZz := hZ.lt
  rw [hl5] at n7 ⊢
  clear k6 q7 hli HBD
  have N7 := Lib.hid n7; clear n7
  have K7 := Lib.hid k7; clear k7
  have HZ := Lib.hid hZ; clear hZ
  have HO := Lib.hid ho; clear ho
  have HL5 := Lib.hid hl5; clear hl5
  have HLB := Lib.hid hLb; clear hLb
  go_wp2_with fail
  go_loopw [8] (fun i wr => ∃ (k : Nat) (L : List Int), k ≤ 5 ∧ i = .int .i64 k ∧ L.length = 5 ∧ (∀ j, 0 ≤ L.getD j 0 ∧ L.getD j 0 ≤ 20200000) ∧ (∀ j, k ≤ j → L.getD j 0 ≤ 20000000) ∧ OwnI w6.heap.size wr (.slice (some ⟨gl, 0, none⟩) 5 cl) L ∧ Src (A + 4 + 4 * k) g wr ∧ Only (fun b => b = g) w wr ∧ Z5 w.heap.size wr) (fun i _ => 5 - (intOf i).toNat)
  case atStart => exact ⟨0, L0, Nat.zero_le _, rfl, HL5.out, fun j => by have := HLB.out j; omega, fun j _ => (HLB.out j).2, N7.out, K7.out.mono (by omega), HO.out, HZ.out⟩
  case round =>
    clear N7 K7 HO HZ HL5 HLB
    obtain ⟨k, L, hk, rfl, hL5, hLb, hLk, hown, hsrc, ho, hZ⟩ := hrel
    by_cases hlt : k < 5
    · have hltd : decide ((k : Int) < 5) = true := by simp; omega
      have HW := Lib.hid hown; clear hown
      have HSR := Lib.hid hsrc; clear hsrc
      go_wp2_with fail
      refine (HON.out _ _ HSR.out (by omega)).mono ?_
      rintro _ w8 ⟨r, rfl, s8, q8⟩
      have ho := ho.trans q8
      have hZ := hZ.only q8 (by omega)
      have hown := own_only HW.out q8 (fun b e hS => by have := own_lo HW.out b e; omega)
      clear HSR HW q8
      cases r
      · have s9 := s8.mono (show A + 4 + 4 * k + 2 ≤ A + 4 + 4 * (k + 1) by omega)
        have hLk2 : ∀ j, k + 1 ≤ j → L.getD j 0 ≤ 20000000 := fun j hj => hLk j (by omega)
        have S9 := Lib.hid s9; clear s9
        have HW := Lib.hid hown; clear hown
        have HO := Lib.hid ho; clear ho
        have HZ := Lib.hid hZ; clear hZ
        have HLB := Lib.hid hLb; clear hLb
        have HLK := Lib.hid hLk2; clear hLk2
        have HL5 := Lib.hid hL5; clear hL5
        clear s8 hLk
        go_wp2
        go_roundw
        case rel => exact ⟨k + 1, L, by omega, by go_num, HL5.out, HLB.out, HLK.out, HW.out, S9.out, HO.out, HZ.out⟩
        case measure => simp [intOf]; omega
      · have hx := hLb k
        have hx2 := hLk k (Nat.le_refl _)
        have hc : w8.cell? ⟨gl, k, none⟩ = some (.int .i64 (L.getD k 0)) := by
          rw [getD_eq (show k < L.length by omega)]
          have hn' := hown
          unfold OwnI at hn'
          rw [hL5] at hn'
          exact (World.ownsRow.cellAt hn' k (by omega)).trans (intsAt (show k < L.length by omega))
        have hix := ix (P := Tryz.prog) (T := 42) (n := 5) (cap := cl) Tryz.underlying42 cells_int64 has_int64 (ao := some ⟨gl, 0, none⟩) (b := gl) (off := 0) (fun _ => rfl) (k := k) hlt _ rfl
        rw [Nat.mul_one, Nat.zero_add] at hix
        have HS : SBen gl k (L.getD k 0) w8.drew := ⟨below_cell (bdrew w8) hc⟩
        have hown := own_later hown (bdrew w8)
        have s9 := s8.later (bdrew w8)
        have ho := ho.trans (Only.of_below (S := fun b => b = g) (bdrew w8))
        have hZ := hZ.later (bdrew w8)
        have hbb := fun r3 h3 h4 => bent_bd (r := r3) hx.1 hx2 h3 h4
        have htd : IntKind.i64.wrap ((L.getD k 0).tdiv 1000) = L.getD k 0 / 1000 := by rw [Int.tdiv_eq_ediv_of_nonneg hx.1]; exact IntWalk.i64_in _ (by omega)
        generalize hxx : L.getD k 0 = x at *
        have HXX := Lib.hid hxx; clear hxx
        have HW := Lib.hid hown; clear hown
        have S9 := Lib.hid s9; clear s9
        have HO := Lib.hid ho; clear ho
        have HZ := Lib.hid hZ; clear hZ
        have HL5 := Lib.hid hL5; clear hL5
        have HLB := Lib.hid hLb; clear hLb
        have HLK := Lib.hid hLk; clear hLk
        clear hc s8
        go_wp2_with fail
        refine startX (SBen gl k x) [15] (by kernel_rfl) ?_
        generalize w8.drew = w8 at *
        refine takeX 0 35 (.slice (some ⟨gl, 0, none⟩) 5 cl) rfl rfl (by kernel_rfl) (fun _ _ _ h => h) (by rfl) (fun _ _ => rfl) HS ?_
        simp only [List.setIfInBounds_toArray, List.set_cons_zero, List.set_cons_succ]
        refine takeX 1 36 (.int .i64 k) rfl rfl (by kernel_rfl) (fun _ _ _ h => h) (by rfl) (fun _ _ => rfl) HS ?_
        simp only [List.setIfInBounds_toArray, List.set_cons_zero, List.set_cons_succ]
        refine takeX 2 37 (.pointer (some ⟨gl, k, none⟩)) rfl rfl (by kernel_rfl) (fun _ _ _ h => h) (by rfl) (fun _ _ => by (go_simp; done)) HS ?_
        simp only [List.setIfInBounds_toArray, List.set_cons_zero, List.set_cons_succ]
        refine takeX 3 38 (.int .i64 x) rfl rfl (by kernel_rfl) (fun _ _ _ h => h) (by rfl) (fun w' hS => by (have q0 := hS.e; clear hS HS; go_simp; done)) HS ?_
        simp only [List.setIfInBounds_toArray, List.set_cons_zero, List.set_cons_succ]
        refine takeX 4 39 (.slice (some ⟨gl, 0, none⟩) 5 cl) rfl rfl (by kernel_rfl) (fun _ _ _ h => h) (by rfl) (fun _ _ => rfl) HS ?_
        simp only [List.setIfInBounds_toArray, List.set_cons_zero, List.set_cons_succ]
        refine takeX 5 40 (.int .i64 k) rfl rfl (by kernel_rfl) (fun _ _ _ h => h) (by rfl) (fun _ _ => rfl) HS ?_
        simp only [List.setIfInBounds_toArray, List.set_cons_zero, List.set_cons_succ]
        refine takeX 6 41 (.pointer (some ⟨gl, k, none⟩)) rfl rfl (by kernel_rfl) (fun _ _ _ h => h) (by rfl) (fun _ _ => by (go_simp; done)) HS ?_
        simp only [List.setIfInBounds_toArray, List.set_cons_zero, List.set_cons_succ]
        refine takeX 7 42 (.int .i64 x) rfl rfl (by kernel_rfl) (fun _ _ _ h => h) (by rfl) (fun w' hS => by (have q0 := hS.e; clear hS HS; go_simp; done)) HS ?_
        simp only [List.setIfInBounds_toArray, List.set_cons_zero, List.set_cons_succ]
        refine takeX 8 43 (.int .i64 (x / 1000)) rfl rfl (by kernel_rfl) (fun _ _ _ h => h) (by rfl) (fun _ _ => by (go_simp; done)) HS ?_
        simp only [List.setIfInBounds_toArray, List.set_cons_zero, List.set_cons_succ]
        refine takeX 9 44 (.pointer (some ⟨g, 0, none⟩)) rfl rfl (by kernel_rfl) (fun _ _ _ h => h) (by rfl) (fun _ _ => rfl) HS ?_
        simp only [List.setIfInBounds_toArray, List.set_cons_zero, List.set_cons_succ]
        refine stepX 10 (by kernel_rfl) rfl ?_
        intro K hK
        go_simp
        refine (HPK.out _ _ _ (by omega) (by omega) S9.out (by omega)).mono ?_
        rintro _ w9 ⟨r3, rfl, l3, u3, s10, q10⟩
        have hbd := hbb r3 (by omega) (by omega)
        have HS : SBen gl k x w9 := ⟨cell_only q10 HS.e (by show ¬ gl = g; omega)⟩
        have hown := own_only HW.out q10 (fun b e hS => by have := own_lo HW.out b e; omega)
        have ho := HO.out.trans q10
        have hZ := HZ.out.only q10 (by omega)
        have g1 : IntKind.i64.wrap (x / 1000 * (r3 - 10)) = x / 1000 * (r3 - 10) := IntWalk.i64_in _ (by omega)
        have g2 : IntKind.i64.wrap (x + x / 1000 * (r3 - 10)) = x + x / 1000 * (r3 - 10) := IntWalk.i64_in _ (by omega)
        clear HW HO HZ S9 q10 hbb
        have HW := Lib.hid hown; clear hown
        refine hK _ _ (fun _ => HS) ?_
        clear hK K
        refine stepX 11 (by kernel_rfl) rfl ?_
        intro K hK
        go_simp
        refine hK _ _ (fun _ => HS) ?_
        clear hK K
        refine stepX 12 (by kernel_rfl) rfl ?_
        intro K hK
        go_simp
        refine hK _ _ (fun _ => HS) ?_
        clear hK K
        refine stepX 13 (by kernel_rfl) rfl ?_
        intro K hK
        go_simp
        refine hK _ _ (fun _ => HS) ?_
        clear hK K
        refine stepX 14 (by kernel_rfl) rfl ?_
        intro K hK
        go_simp
        refine hK _ _ (fun _ => HS) ?_
        clear hK K
        have hn' := HW.out
        unfold OwnI at hn'
        rw [HL5.out] at hn'
        have hfr := World.ownsRow.frozenAt hn' k
        have hcx := HS.e
        clear hn'
        refine stepX 15 (by kernel_rfl) rfl ?_
        intro K hK
        go_simp
        refine hK _ _ (fun h => absurd h (by decide)) ?_
        clear hK K
        refine doneX (by kernel_rfl) ?_ _
        clear HS hfr
        have hput : OwnI w6.heap.size (w9.setCell ⟨gl, k, none⟩ (.int .i64 (x + x / 1000 * (r3 - 10)))) (.slice (some ⟨gl, 0, none⟩) 5 cl) (L.set k (x + x / 1000 * (r3 - 10))) := by
          have hn' := HW.out
          unfold OwnI at hn' ⊢
          rw [HL5.out] at hn'
          rw [List.length_set, HL5.out, show ints (L.set k (x + x / 1000 * (r3 - 10))) = (ints L).set k (.int .i64 (x + x / 1000 * (r3 - 10))) by unfold ints; rw [List.map_set]]
          exact (World.ownsRow.stored hn' k _).1
        have honly : Only (fun b => b = gl) w9 (w9.setCell ⟨gl, k, none⟩ (.int .i64 (x + x / 1000 * (r3 - 10)))) := Only.setCell (S := fun b => b = gl) (Only.refl _ w9) (p := ⟨gl, k, none⟩) rfl _
        have hs11 := (s10.keep honly (fun b e => by omega)).mono (show A + 4 + 4 * k + 2 + 2 ≤ A + 4 + 4 * (k + 1) by omega)
        have hZ11 := hZ.only honly (by omega)
        have ho11 : Only (fun b => b = g) w (w9.setCell ⟨gl, k, none⟩ (.int .i64 (x + x / 1000 * (r3 - 10)))) := ⟨ho.os, ho.tape, ho.output, by simpa using ho.size, fun b hb hn => (Below.heap_setCell _ _ _ _ (by show b ≠ gl; omega)).trans (ho.block b hb hn)⟩
        have hL11 : (L.set k (x + x / 1000 * (r3 - 10))).length = 5 := by rw [List.length_set]; exact HL5.out
        have hLb11 : ∀ j, 0 ≤ (L.set k (x + x / 1000 * (r3 - 10))).getD j 0 ∧ (L.set k (x + x / 1000 * (r3 - 10))).getD j 0 ≤ 20200000 := fun j => by
          have h5 := HL5.out
          rw [setI_at (by omega)]
          split
          · omega
          · exact HLB.out j
        have hLk11 : ∀ j, k + 1 ≤ j → (L.set k (x + x / 1000 * (r3 - 10))).getD j 0 ≤ 20000000 := fun j hj => by
          have h5 := HL5.out
          rw [setI_at (by omega), if_neg (by omega)]
          exact HLK.out j (by omega)
        have HPUT := Lib.hid hput; clear hput
        have HS11 := Lib.hid hs11; clear hs11
        have HZ11 := Lib.hid hZ11; clear hZ11
        have HO11 := Lib.hid ho11; clear ho11
        have HL11 := Lib.hid hL11; clear hL11
        have HLB11 := Lib.hid hLb11; clear hLb11
        have HLK11 := Lib.hid hLk11; clear hLk11
        clear HW ho hZ honly s10
        go_wp2
        go_roundw
        case rel => exact ⟨k + 1, _, by omega, by go_num, HL11.out, HLB11.out, HLK11.out, HPUT.out, HS11.out, HO11.out, HZ11.out⟩
        case measure => simp [intOf]; omega
    · obtain rfl : k = 5 := by omega
      have hltd : decide ((5 : Int) < 5) = false := rfl
      have rdL : Rd wr (.slice (some ⟨gl, 0, none⟩) 5 cl) 5 (ints L) := by have := Rd.of_own hown; rwa [hL5] at this
      have hso := fun w' h => HSO.out (.slice (some ⟨gl, 0, none⟩) 5 cl) L hL5 w' h
      have hv5 : ∀ k, k < 5 → 0 ≤ [L.getD 0 0, L.getD 1 0, L.getD 2 0, L.getD 3 0, L.getD 4 0].getD k 0 ∧ [L.getD 0 0, L.getD 1 0, L.getD 2 0, L.getD 3 0, L.getD 4 0].getD k 0 ≤ 20200000 := fun k hk => by
        match k, hk with
        | 0, _ => exact hLb 0
        | 1, _ => exact hLb 1
        | 2, _ => exact hLb 2
        | 3, _ => exact hLb 3
        | 4, _ => exact hLb 4
      generalize L.getD 0 0 = a0 at *
      generalize L.getD 1 0 = a1 at *
      generalize L.getD 2 0 = a2 at *
      generalize L.getD 3 0 = a3 at *
      generalize L.getD 4 0 = a4 at *
      have HSO1 := Lib.hid hso; clear hso
      have RDL := Lib.hid rdL; clear rdL
      have HV5 := Lib.hid hv5; clear hv5
      clear hLb hLk hown HSO
      go_wp2_with fail
      refine (HSO1.out _ RDL.out).mono ?_
      rintro _ w9 ⟨rfl, r9⟩
      have hs9 := (hsrc.later r9).mono (show A + 4 + 4 * 5 ≤ A + 24 by omega)
      have ho9 := ho.trans (Only.of_below r9)
      have hZ9 := hZ.later r9
      have z0 := hZ9.z0
      have z1 := hZ9.z1
      have z2 := hZ9.z2
      have z3 := hZ9.z3
      have z4 := hZ9.z4
      have zf := hZ9.zf
      have key : ∀ (wq : World) j v, Src (A + 24) g wq → Only (fun b => b = g) w wq → Src (A + 24) g (wq.setCell ⟨w.heap.size, j, none⟩ v) ∧ Only (fun b => b = g) w (wq.setCell ⟨w.heap.size, j, none⟩ v) := fun wq j v h1 h2 =>
        ⟨h1.keep ((Only.refl (fun b => b = w.heap.size) wq).setCell (p := ⟨w.heap.size, j, none⟩) rfl v) (fun b e => by omega), h2.os, h2.tape, h2.output, by simpa using h2.size, fun k hk hn => (Below.heap_setCell _ _ _ _ (by show k ≠ w.heap.size; omega)).trans (h2.block k hk hn)⟩
      have KEY := Lib.hid key; clear key
      have HS9 := Lib.hid hs9; clear hs9
      have HO9 := Lib.hid ho9; clear ho9
      clear hZ hZ9 hsrc ho r9
      go_wp2
      refine bodyPost_ret (v := .agg #[.int .i64 a0, .int .i64 a1, .int .i64 a2, .int .i64 a3, .int .i64 a4]) (by simp [results, Tryz.results117, go_sem, cell_setCell, z0, z1, z2, z3, z4]) rfl ?_
      have e1 := KEY.out w9 0 (.int .i64 a0) HS9.out HO9.out
      have e2 := KEY.out _ 1 (.int .i64 a1) e1.1 e1.2
      have e3 := KEY.out _ 2 (.int .i64 a2) e2.1 e2.2
      have e4 := KEY.out _ 3 (.int .i64 a3) e3.1 e3.2
      have e5 := KEY.out _ 4 (.int .i64 a4) e4.1 e4.2
      exact ⟨a0, a1, a2, a3, a4, rfl, HV5.out, e5.1, e5.2⟩

end Go.Proofs.YtgdadbmhdljcdaaGreatDoor

/- The zones for a standard model are drawn. -/
namespace Go.Proofs.YtgdadbmhdljcdaaGreatDoor
set_option linter.unusedVariables false
open Go.RowKit Go.Proofs.Bell Go.BigFrame

theorem app_II {ops : Array Oper} {rest : List Oper} {o : Oper} {a : Act} {Q : Exit → Act → World → Prop} (s x : Operand) (W : World) (base : Nat) (v u : Value) (qs zs : List Int)
    (ho : o.op = .call { callee := .builtin .append, args := #[s, x], argTypes := #[42, 42] }) (hgd : o.guard = none)
    (hs : a.eval s = v) (hx : a.eval x = u) (hown : OwnI base W v qs) (hr : Rd W u zs.length (ints zs)) (hn : qs.length + zs.length ≤ 1000000) (hbase : base ≤ W.heap.size)
    (h : ∀ v' w', OwnI base w' v' (qs ++ zs) → Only (fun b => v.ownBlock = some b) W w' → wpList Tryz.prog ops Q rest (a.put o.dst v') w') :
    wpList Tryz.prog ops Q (o :: rest) a W := by
  obtain ⟨i0, hi, hz0, hz1, hz2⟩ := info_parts info_int64
  have key : ∀ ad c, u = .slice (some ad) zs.length c → (∀ j y, (ints zs)[j]? = some y → W.cell? (ad.add j) = some y) → wpList Tryz.prog ops Q (o :: rest) a W := fun ad c e hc => by
    refine wpList_append_own _ hgd s x 42 ho base 2 i0 _ 1 8 Tryz.underlying42 hi hz0 hz1 hz2 rfl (by decide) v qs.length (ints qs) hs hown ad zs.length c (ints zs) (hx.trans e) (by simp [ints]) hc (fun y hy => by obtain ⟨z, _, rfl⟩ := List.mem_map.1 hy; rfl) (by unfold maxLen; omega) (by omega) hbase ?_
    intro v' w' h1 hg _
    exact h v' w' (by unfold OwnI; simpa [ints] using h1) (Only.of_grown hg)
  rcases hr with ⟨_, ⟨h0, h1, ao, cap, h2, h3, _⟩ | ⟨h0, b, off, cap, h2, _, _, _, h3⟩⟩
  · have hz : zs = [] := List.length_eq_zero_iff.1 h0
    subst hz
    cases ao with
    | none =>
      obtain rfl := h3 rfl
      refine wpList_append_own_none hgd s x 42 ho base 2 i0 1 Tryz.underlying42 hi v qs.length (ints qs) hs hown (hx.trans h2) ?_
      exact h v W (by simpa using hown) (Only.refl _ _)
    | some ad => exact key ad cap h2 (fun j y e => by simp [ints] at e)
  · exact key ⟨b, off, none⟩ cap h2 (fun j y e => by have := h3 j y e; rwa [show (⟨b, off, none⟩ : Addr).add j = ⟨b, off + j, none⟩ by unfold Addr.add; split <;> simp_all])
theorem own_twoT (w : World) (a b : Int) : OwnI w.heap.size (w.alloc (.cells #[.int .i64 a, .int .i64 b] 2)) (.slice (some ⟨w.heap.size, 0, none⟩) 2 2) [a, b] :=
  ⟨rfl, .inr ⟨w.heap.size, 2, _, rfl, Nat.le_refl _, heap_alloc_new w _, Nat.le_refl _, by decide, rfl, rfl⟩⟩
theorem own_oneT (w : World) (a : Int) (base : Nat) (hb : base ≤ w.heap.size) : OwnI base (w.alloc (.cells #[.int .i64 a] 2)) (.slice (some ⟨w.heap.size, 0, none⟩) 1 1) [a] :=
  ⟨rfl, .inr ⟨w.heap.size, 1, _, rfl, hb, heap_alloc_new w _, Nat.le_refl _, by decide, rfl, rfl⟩⟩

def RetDt (w : World) (e : Ending) (w' : World) : Prop := ∃ (v : Value) (zs : List Int), e = .returned v ∧ Rd w' v zs.length (ints zs) ∧ zs.length ≤ 16 ∧ Below w.heap.size w w'

set_option maxRecDepth 100000 in
set_option maxHeartbeats 6400000 in
theorem DrawStandardModel_c (v : Value) (cs : List Int) (w : World) (h : Rd w v cs.length (bytesV cs)) (hz : ∀ z ∈ cs, Byte z) (hl : cs.length ≤ 1048576) : Calls Tryz.prog 29 #[v] w (RetDt w) := by
  have s0 := src_new v cs w h hz hl 138
  obtain ⟨hn, ao, cap, b, off, rfl, hao, hcell⟩ := h.open
  have hdr := fun w' g (hx : Src 0 g w') => l05Draw_c 0 g w' hx (by omega)
  have hdz := fun g g' sv ps w' (hx : Src 100 g w') c1 hgg hr h1 h9 => l09DrawZones_c 100 g g' sv ps w' hx (by omega) c1 hgg hr h1 h9
  have hpk := fun A' g w' (hx : Src A' g w') (hA' : A' ≤ 100000000000) => pick_c A' g 10 w' hx hA' (by omega) (by omega)
  have ham := fun A' g v zs w' (hx : Src A' g w') (hA' : A' ≤ 100000000000) hv h1 h2 hne => among_c A' g v zs w' hx hA' hv h1 h2 hne
  have hfr := fun w' => from_c ao cs.length cap w'
  have HDR := Lib.hid hdr; clear hdr
  have HDZ := Lib.hid hdz; clear hdz
  have HPK := Lib.hid hpk; clear hpk
  have HAM := Lib.hid ham; clear ham
  clear hao hcell h hz
  generalize cs.length = n at *
  have HFR := Lib.hid hfr; clear hfr
  have S0 := Lib.hid s0; clear s0
  go_enter Tryz.func29, Tryz.ntmps29
  go_wp2_with fail
  refine (HFR.out _).mono ?_
  rintro _ _ ⟨rfl, rfl⟩
  have b1 : Below w.heap.size w (w.alloc (.cells #[.slice ao n cap, .int .i64 0, .int .u64 0] 138)) := (Below.refl _ _).alloc (Nat.le_refl _) _
  have z1 : (w.alloc (.cells #[.slice ao n cap, .int .i64 0, .int .u64 0] 138)).heap.size = w.heap.size + 1 := by simp
  go_wp2_with fail
  generalize w.alloc (.cells #[.slice ao n cap, .int .i64 0, .int .u64 0] 138) = w1 at *
  refine (HDR.out _ _ S0.out).mono ?_
  rintro _ w2 ⟨nm, rs, u, rfl, ou, hp, hnm, h2, ⟨h9, _⟩, s2, q2⟩
  obtain ⟨au, cu, rfl⟩ := own_shape ou
  have b2 : Below w.heap.size w w2 := Only.below b1 q2 (by omega) (fun b e => by omega)
  have z2 := q2.size
  have rd2 := Rd.of_own ou
  clear b1 q2 hp hnm ou S0
  have kb : Below w2.heap.size w2 (w2.alloc (.cells #[.string nm, .slice au rs.length cu] 26)) := (Below.refl _ _).alloc (Nat.le_refl _) _
  have c1 : (w2.alloc (.cells #[.string nm, .slice au rs.length cu] 26)).cell? ⟨w2.heap.size, 1, none⟩ = some (.slice au rs.length cu) := by simp [go_sem]
  have s3 := s2.later kb
  have rd3 := rd2.later kb
  have b3 := b2.trans (kb.mono b2.size)
  have z3 := kb.size
  clear kb s2 rd2 b2
  have S3 := Lib.hid s3; clear s3
  have RD3 := Lib.hid rd3; clear rd3
  have B3 := Lib.hid b3; clear b3
  have C1 := Lib.hid c1; clear c1
  go_wp2_with fail
  generalize w2.alloc (.cells #[.string nm, .slice au rs.length cu] 26) = w3 at *
  refine (HDZ.out _ _ _ rs w3 S3.out C1.out (by omega) RD3.out (by omega) (by omega)).mono ?_
  rintro _ w4 ⟨zv, zs, rfl, hrg, hz9, s4, q4⟩
  have b4 : Below w.heap.size w w4 := Only.below B3.out q4 (by have := B3.out.size; omega) (fun b e => by omega)
  have z4 := q4.size
  clear S3 RD3 B3 C1 q4
  have S4 := Lib.hid s4; clear s4
  have HRG := Lib.hid hrg; clear hrg
  have B4 := Lib.hid b4; clear b4
  go_wp2_with fail
  refine (HPK.out _ _ _ S4.out (by omega)).mono ?_
  rintro _ w5 ⟨r, rfl, l5, u5, s5, q5⟩
  have hrg := HRG.out.only q5
  have rd5 := hrg.rd
  have b5 : Below w.heap.size w w5 := Only.below B4.out q5 (by have := B4.out.size; omega) (fun b e => by omega)
  have z5 := q5.size
  have zw := b5.size
  clear S4 HRG B4 q5 hrg
  have S5 := Lib.hid s5; clear s5
  have RD5 := Lib.hid rd5; clear rd5
  have B5 := Lib.hid b5; clear b5
  by_cases e0 : r = 0
  · subst e0
    have kb : Below w5.heap.size w5 (w5.alloc (.cells #[] 2)) := (Below.refl _ _).alloc (Nat.le_refl _) _
    have hfin := B5.out.trans (kb.mono zw)
    have hrd : Rd (w5.alloc (.cells #[] 2)) (.slice (some ⟨w5.heap.size, 0, none⟩) 0 0) 0 (ints []) := Rd.of_own (own_empty _ _ 1 w5.heap.size (Nat.le_refl _))
    have HFIN := Lib.hid hfin; clear hfin
    have HRD := Lib.hid hrd; clear hrd
    go_wp2
    go_returns
    exact ⟨_, [], rfl, HRD.out, by simp, HFIN.out⟩
  · have t0 : (r == 0) = false := by simpa using e0
    by_cases e1 : r = 1
    · subst e1
      have kb : Below w5.heap.size w5 (w5.alloc (.cells #[.int .i64 1] 2)) := (Below.refl _ _).alloc (Nat.le_refl _) _
      have hown := own_oneT w5 1 w5.heap.size (Nat.le_refl _)
      have hrd := RD5.out.later kb
      have b6 := B5.out.trans (kb.mono zw)
      have z6 := kb.size
      have HOWN := Lib.hid hown; clear hown
      have HRD := Lib.hid hrd; clear hrd
      have B6 := Lib.hid b6; clear b6
      clear kb
      go_wp2_with (at_builtin; refine app_II (.tmp 21) (.tmp 22) _ w5.heap.size _ _ _ zs (by rfl) (by rfl) (by rfl) (by rfl) HOWN.out HRD.out (by simp; omega) z6 ?_; intro v9 w9 o9 q9)
      have b9 : Below w.heap.size w w9 := Only.below B6.out q9 (by have := B6.out.size; omega) (fun b e => by have := own_lo HOWN.out b e; omega)
      go_returns
      exact ⟨v9, _, rfl, Rd.of_own o9, by simp; omega, b9⟩
    · have t1 : (r == 1) = false := by simpa using e1
      by_cases e2 : r = 2
      · subst e2
        have kb : Below w5.heap.size w5 (w5.alloc (.cells #[.int .i64 8, .int .i64 9] 2)) := (Below.refl _ _).alloc (Nat.le_refl _) _
        have hrd := Rd.of_own (own_twoT w5 8 9)
        have s6 := S5.out.later kb
        have b6 := B5.out.trans (kb.mono zw)
        have z6 := kb.size
        have HRD := Lib.hid hrd; clear hrd
        have S6 := Lib.hid s6; clear s6
        have B6 := Lib.hid b6; clear b6
        clear kb
        go_wp2_with fail
        generalize w5.alloc (.cells #[.int .i64 8, .int .i64 9] 2) = w6 at *
        refine (HAM.out _ _ _ [8, 9] _ S6.out (by omega) HRD.out (by decide) (by decide) (fun b e => by simp [Value.ownBlock] at e; omega)).mono ?_
        rintro _ w7 ⟨y, rfl, hy, s7, q7⟩
        obtain ⟨N, rfl, hN⟩ : ∃ N : Nat, y = (N : Int) ∧ N ≤ 9 := by
          simp only [List.mem_cons, List.not_mem_nil, or_false] at hy
          exact ⟨y.toNat, by omega, by omega⟩
        have b7 : Below w.heap.size w w7 := Only.below B6.out q7 (by have := B6.out.size; omega) (fun b e => by omega)
        have z7 := q7.size
        have kb : Below w7.heap.size w7 (w7.alloc (.cells #[] 2)) := (Below.refl _ _).alloc (Nat.le_refl _) _
        have hown : OwnI w7.heap.size (w7.alloc (.cells #[] 2)) (.slice (some ⟨w7.heap.size, 0, none⟩) 0 0) [] := own_empty _ _ 1 w7.heap.size (Nat.le_refl _)
        have b8 := b7.trans (kb.mono b7.size)
        have zw7 := b7.size
        have z8 := kb.size
        clear B6 q7 kb b7 hy s7 HRD S6 S5 RD5 B5 HDR HDZ HPK HAM HFR
        have HOWN := Lib.hid hown; clear hown
        have B8 := Lib.hid b8; clear b8
        go_wp2_with fail
        generalize w7.alloc (.cells #[] 2) = w8 at *
        go_loopw [5, 7] (fun u i wr => ∃ (k : Nat) (qs : List Int), k ≤ N ∧ i = .int .i64 k ∧ qs.length = k ∧ OwnI w7.heap.size wr u qs ∧ Below w.heap.size w wr ∧ w7.heap.size ≤ wr.heap.size) (fun _ i _ => N - (intOf i).toNat)
        case atStart => exact ⟨0, [], Nat.zero_le _, rfl, rfl, HOWN.out, B8.out, z8⟩
        case round =>
          clear HOWN B8
          obtain ⟨k, qs, hk, rfl, hq, ho, hb, hzz⟩ := hrel
          have HO := Lib.hid ho; clear ho
          have HB := Lib.hid hb; clear hb
          by_cases hlt : k < N
          · have hltd : decide ((k : Int) < (N : Int)) = true := decide_eq_true (by omega)
            go_wp2_with (at_builtin; refine app_I (.tmp 35) (.tmp 37) _ w7.heap.size _ qs _ (by rfl) (by rfl) (by rfl) (by rfl) HO.out (by omega) hzz ?_; intro v9 w9 o9 q9)
            have b9 : Below w.heap.size w w9 := Only.below HB.out q9 (by have := HB.out.size; omega) (fun b e => by have := own_lo HO.out b e; omega)
            have z9 := q9.size
            go_roundw
            case rel => exact ⟨k + 1, _, by omega, by go_num, by simp; omega, o9, b9, by omega⟩
            case measure => simp [intOf]; omega
          · obtain rfl : k = N := by omega
            go_wp2
            go_returns
            exact ⟨_, qs, rfl, Rd.of_own HO.out, by omega, HB.out⟩
      · have t2 : (r == 2) = false := by simpa using e2
        go_wp2
        go_returns
        exact ⟨zv, zs, rfl, RD5.out, by omega, B5.out⟩

end Go.Proofs.YtgdadbmhdljcdaaGreatDoor

