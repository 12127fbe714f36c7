/- Several texts of the proofs in one: Dom, Pitch, Dens, Mom. -/
import Derived.Test.YtgdadbmhdljcdaaGreatDoorGA
import Derived.Test.YtgdadbmhdljcdaaGreatDoorGH
import Derived.Test.YtgdadbmhdljcdaaGreatDoorUE
/- The dominant zone. -/
namespace Go.Proofs.YtgdadbmhdljcdaaGreatDoor
set_option linter.unusedVariables false
open Go.RowKit Go.Proofs.Bell Go.BigFrame

theorem l04Partial_c (n : Int) (w : World) : Calls Tryz.prog 75 #[.int .i64 n] w (RetS (.bool (inB n 1 5)) w) := by
  go_enter Tryz.func75, Tryz.ntmps75
  go_wp2_with (go_at_call 124; refine (l00In_c _ _ _ _).mono ?_; rintro _ _ ⟨rfl, rfl⟩)
  go_returns
  exact RetS.mk rfl

/-- the first place of the greatest of the first `k` numbers -/
def argK (zs : List Int) : Nat → Nat
  | 0 => 0
  | k + 1 => if zs.getD (argK zs k) 0 < zs.getD k 0 then k else argK zs k
theorem argK_lt {zs : List Int} {n : Nat} (hn : 1 ≤ n) : ∀ k, k ≤ n → argK zs k < n
  | 0, _ => by simp [argK]; omega
  | k + 1, h => by
    have := argK_lt (zs := zs) hn k (by omega)
    simp only [argK]
    split <;> omega
theorem argK_one (zs : List Int) : argK zs 1 = 0 := by simp [argK]
theorem arg_start (zs : List Int) : Value.int .i64 0 = .int .i64 ((argK zs 1 : Nat) : Int) := by rw [argK_one]; rfl
theorem argK_spec (zs : List Int) : ∀ k, 1 ≤ k → zs.getD (argK zs k) 0 = maxK zs k ∧ (∀ i, i < argK zs k → zs.getD i 0 < maxK zs k) ∧ argK zs k < k ∧ ∀ i, i < k → zs.getD i 0 ≤ maxK zs k
  | 0, h => by omega
  | 1, _ => by rw [argK_one, maxK_one]; exact ⟨rfl, fun i hi => by omega, by omega, fun i hi => by rw [show i = 0 by omega]; exact Int.le_refl _⟩
  | k + 2, _ => by
    obtain ⟨h1, h2, h3, h4⟩ := argK_spec zs (k + 1) (by omega)
    rw [argK, maxK, h1]
    by_cases h : maxK zs (k + 1) < zs.getD (k + 1) 0
    · rw [if_pos h, if_pos h]
      exact ⟨rfl, fun i hi => by have := h4 i hi; omega, by omega, fun i hi => by
        rcases Nat.lt_or_ge i (k + 1) with h' | h'
        · have := h4 i h'; omega
        · rw [show i = k + 1 by omega]; exact Int.le_refl _⟩
    · rw [if_neg h, if_neg h]
      exact ⟨h1, h2, by omega, fun i hi => by
        rcases Nat.lt_or_ge i (k + 1) with h' | h'
        · exact h4 i h'
        · rw [show i = k + 1 by omega]; omega⟩

def domI (zs : List Int) (ws : List (List Int)) (bs : List Int) (k : Int) : Int × Int :=
  if modelB zs ws bs then (if inB k 1 5 then ((argK (ws.getD (k - 1).toNat []) (ws.getD (k - 1).toNat []).length : Int), 0) else (0, 2)) else (0, 1)
theorem modelB_t {zs : List Int} {ws : List (List Int)} {bs : List Int} (h : modelB zs ws bs = true) : 1 ≤ zs.length ∧ zs.length ≤ 8 ∧ ws.length = 5 ∧ bs.length = 5 ∧ ∀ k, k < 5 → okRow zs.length (ws.getD k []) (bs.getD k 0) = true := by
  unfold modelB at h
  simp only [Bool.and_eq_true, decide_eq_true_eq] at h
  obtain ⟨⟨⟨h1, h2⟩, h3⟩, h4⟩ := h
  obtain ⟨a, b⟩ := zonesB_len h1
  exact ⟨a, b, h2, h3, fun k hk => List.all_eq_true.1 h4 k (List.mem_range.2 hk)⟩
theorem okRow_len {n : Nat} {row : List Int} {b : Int} (h : okRow n row b = true) : row.length = n := by
  unfold okRow at h
  simp only [Bool.and_eq_true, decide_eq_true_eq] at h
  exact h.1.1.2

end Go.Proofs.YtgdadbmhdljcdaaGreatDoor

/- PitchAfter of the program and of the reference, and the law. -/
namespace Go.Proofs.YtgdadbmhdljcdaaGreatDoor
set_option linter.unusedVariables false
open Go.RowKit Go.Proofs.Bell

def freqB (f : Int) : Bool := inB f 10000 20000000
def sclB (n : Int) : Bool := inB n 1 1000
theorem freqB_t {f : Int} (h : freqB f = true) : 10000 ≤ f ∧ f ≤ 20000000 := inB_t h
theorem sclB_t {f : Int} (h : sclB f = true) : 1 ≤ f ∧ f ≤ 1000 := inB_t h
def scl2B (a b : Int) : Bool := sclB a && sclB b

theorem IsFrequency_c (f : Int) (w : World) : Calls Tryz.prog 155 #[.int .i64 f] w (RetS (.bool (freqB f)) w) := by
  go_enter Tryz.func155, Tryz.ntmps155
  go_wp2_with (go_at_call 56; refine (within_c _ _ _ _).mono ?_; rintro _ _ ⟨rfl, rfl⟩)
  go_ret
  exact RetS.mk rfl

def pitchI (f num den : Int) : Int × Int :=
  if freqB f && sclB num && sclB den then (if freqB (rnd (f * den) num) then (rnd (f * den) num, 0) else (0, 6)) else (0, 2)

theorem pitch_bd {f num den : Int} (h1 : freqB f = true) (_h2 : sclB num = true) (h3 : sclB den = true) : 0 ≤ f * den ∧ f * den ≤ 20000000 * 1000 := by
  have a := freqB_t h1; have c := sclB_t h3
  exact mul_le_of (by omega) (by omega) (by omega) (by omega)

end Go.Proofs.YtgdadbmhdljcdaaGreatDoor

/- The least density. -/
namespace Go.Proofs.YtgdadbmhdljcdaaGreatDoor
set_option linter.unusedVariables false
open Go.RowKit Go.Proofs.Bell Go.BigFrame

theorem rnd_mono {a b m : Int} (ha : 0 ≤ a) (h : a ≤ b) (hm : 1 ≤ m) : rnd a m ≤ rnd b m := by
  unfold rnd
  rw [if_neg (by omega), if_neg (by omega)]
  exact Int.ediv_le_ediv (by omega) (by omega)
theorem mass_mono {rs : List (Int × Int × Int)} {d e : Int} (hv : 0 ≤ volI rs) (h0 : 0 ≤ d) (h : d ≤ e) : massI rs d ≤ massI rs e :=
  rnd_mono (Int.mul_nonneg hv h0) (Int.mul_le_mul_of_nonneg_left h hv) (by omega)
theorem below_next {p : Nat → Bool} {k : Nat} (h : ∀ i, i < k → p i = false) (hk : p k = false) : ∀ i, i < k + 1 → p i = false := fun i hi => by
  rcases Nat.lt_or_ge i k with h1 | h1
  · exact h i h1
  · rw [show i = k by omega]; exact hk
theorem low_next {p : Nat → Bool} {q : Nat} (hup : ∀ i j, i ≤ j → p i = true → p j = true) (hq : p q = false) : ∀ i, i < q + 1 → p i = false := fun i hi => by
  cases hh : p i
  · rfl
  · have := hup i q (by omega) hh
    rw [hq] at this; cases this
/-- is it enough? -/
def enoughB (rs : List (Int × Int × Int)) (m : Int) (j : Nat) : Bool := decide (m ≤ massI rs (1000 + (j : Int)))
def leastJ (rs : List (Int × Int × Int)) (m : Int) : Nat := (List.range 19001).findIdx (enoughB rs m)
theorem leastJ_eq {rs : List (Int × Int × Int)} {m : Int} {j : Nat} (hj : j < 19001) (h1 : enoughB rs m j = true) (h0 : ∀ i, i < j → enoughB rs m i = false) : leastJ rs m = j := by
  unfold leastJ
  rw [List.findIdx_eq (by simpa using hj)]
  exact ⟨by simpa using h1, fun i hi => by simpa using h0 i hi⟩
theorem leastJ_none {rs : List (Int × Int × Int)} {m : Int} (h0 : ∀ i, i < 19001 → enoughB rs m i = false) : leastJ rs m = 19001 := by
  unfold leastJ
  have := List.findIdx_eq_length (p := enoughB rs m) (xs := List.range 19001)
  rw [List.length_range] at this
  exact this.2 (fun x hx => h0 x (List.mem_range.1 hx))
def densJ (rs : List (Int × Int × Int)) (m : Int) : Int × Int := if leastJ rs m < 19001 then (1000 + (leastJ rs m : Int), 0) else (0, 3)
theorem densJ_yes {rs : List (Int × Int × Int)} {m : Int} {j : Nat} (h : leastJ rs m = j) (hj : j ≤ 19000) : densJ rs m = (1000 + (j : Int), 0) := by unfold densJ; rw [h, if_pos (by omega)]
theorem densJ_no {rs : List (Int × Int × Int)} {m : Int} (h : leastJ rs m = 19001) : densJ rs m = (0, 3) := by unfold densJ; rw [h, if_neg (by omega)]
def densI (nm : ByteArray) (rs : List (Int × Int × Int)) (m : Int) : Int × Int :=
  if profB nm rs then (if inB m 0 1000000000 then densJ rs m else (0, 2)) else (0, 1)

end Go.Proofs.YtgdadbmhdljcdaaGreatDoor

/- The moment of inertia. -/
namespace Go.Proofs.YtgdadbmhdljcdaaGreatDoor
set_option linter.unusedVariables false
open Go.RowKit Go.Proofs.Bell Go.BigFrame

def radT (p : Int × Int × Int) : Int := rnd (p.1 * p.1 + p.2.1 * p.2.1) 20000
def momT (d : Int) (p : Int × Int × Int) : Int := rmassT d p * radT p
def momOfI (nm : ByteArray) (rs : List (Int × Int × Int)) (d : Int) : Int × Int := if denseI nm rs d = 0 then (fsum (momT d) rs, 0) else (0, denseI nm rs d)
theorem radT_bd {p : Int × Int × Int} (h : ringT p = true) : 0 ≤ p.1 * p.1 ∧ 0 ≤ p.2.1 * p.2.1 ∧ p.1 * p.1 ≤ 22500000000 ∧ p.2.1 * p.2.1 ≤ 22500000000 ∧ 0 ≤ radT p ∧ radT p ≤ 2250000 := by
  have s := secI_bd (o := p.1) (i := p.2.1) (h := p.2.2) h
  have c := rnd_nonneg (a := p.1 * p.1 + p.2.1 * p.2.1) (b := 20000) (by omega) (by omega)
  have e := rnd_le (a := p.1 * p.1 + p.2.1 * p.2.1) (b := 20000) (q := 2250000) (by omega) (by omega) (by omega)
  unfold radT
  omega
theorem momT_bd {d : Int} (h1 : 0 ≤ d) (h2 : d ≤ 20000) {p : Int × Int × Int} (h : ringT p = true) : 0 ≤ momT d p ∧ momT d p ≤ 954258873750000 := by
  have a := rmassT_bd h1 h2 h
  have b := radT_bd h
  have c := mul_bd a.2.2.1 b.2.2.2.2.1 a.2.2.2 b.2.2.2.2.2
  unfold momT
  omega
theorem masses_getD (ps : List (Int × Int × Int)) (d : Int) {k : Nat} (h : k < ps.length) : (massesI ps d).getD k 0 = rmassT d (rg ps k) := by
  rw [rg_eq h]; simp [massesI, List.getD, h]
theorem massesI_len (ps : List (Int × Int × Int)) (d : Int) : (massesI ps d).length = ps.length := by simp [massesI]

end Go.Proofs.YtgdadbmhdljcdaaGreatDoor

