/- The arguments of a law, opened: slices of numbers, of structs of numbers. -/
import Derived.Test.YtddkjcdnomoglaaMem
import Derived.ProofKit
import Derived.Deep.Slices
import Derived.Deep.Strs
namespace Go.Proofs.Ytddkjcdnomoglaa
set_option linter.unusedVariables false
open Go.RowKit Go.Proofs.Bell Go.BigFrame
set_option maxRecDepth 100000
open Go.ChangeShapes Go.WideShapes Go.Deep

section
variable {H : Type} {enc : TypeId × Value → H} {P : Program} {w : World} {base : Nat} {spare : Nat → Bool} {held : Bool}

/-- a number that fits an int64 -/
def I64 (z : Int) : Prop := -9223372036854775808 ≤ z ∧ z ≤ 9223372036854775807
theorem i64_of_wf {z : Int} (h : (Lit.int .i64 z).wf = true) : I64 z := by
  have h1 : IntKind.i64.min = -9223372036854775808 := rfl
  have h2 : IntKind.i64.max = 9223372036854775807 := rfl
  simp only [Lit.wf, Bool.and_eq_true, decide_eq_true_eq] at h
  unfold I64
  omega

theorem add_norm {b off : Nat} {sp : Option Nat} (k : Nat) (h : sp = none) : (Addr.mk b off sp).add k = ⟨b, off + k, none⟩ := by
  subst h
  unfold Addr.add
  split <;> simp_all

theorem flat_at {α : Type} {cells : α → List Value} {s : Nat} (hl : ∀ x, (cells x).length = s) : ∀ (zs : List α) (k i : Nat) (hk : k < zs.length), i < s → (zs.flatMap cells)[k * s + i]? = (cells zs[k])[i]?
  | z :: zs, 0, i, _, hi => by simp [List.flatMap_cons, List.getElem?_append_left (by rw [hl]; exact hi : i < (cells z).length)]
  | z :: zs, k + 1, i, hk, hi => by
    have e : (k + 1) * s + i = (cells z).length + (k * s + i) := by rw [hl, Nat.add_mul]; omega
    rw [List.flatMap_cons, e, List.getElem?_append_right (by omega), Nat.add_sub_cancel_left]
    simpa using flat_at hl zs k i (by simpa using hk) hi

theorem flat_len {α : Type} {cells : α → List Value} {s : Nat} (hl : ∀ x, (cells x).length = s) : ∀ (zs : List α), (zs.flatMap cells).length = zs.length * s
  | [] => by simp
  | z :: zs => by rw [List.flatMap_cons, List.length_append, hl, flat_len hl zs, List.length_cons, Nat.add_mul]; omega

/-- a slice that came in, each of whose elements reads as some `z` -/
theorem rd_elems {α : Type} [Inhabited α] {cells : α → List Value} {Q : α → Prop} {s : Nat} (hl : ∀ x, (cells x).length = s) (hs : 0 < s) {t e : TypeId} {fuel : Nat} {cs0 : List Value} {x0 : DataW H × List MemPlace}
    (ht : P.underlying t = some (.slice e)) (hc : P.cellsOf e = s)
    (elem : ∀ n cs x, DataW.trod enc P w 0 (fun _ => true) true n e cs = some x → cs.length = s → ∃ z, cs = cells z ∧ Q z)
    (h : DataW.trod enc P w 0 (fun _ => true) true fuel t cs0 = some x0) :
    ∃ (v : Value) (zs : List α), cs0 = [v] ∧ Rd w v zs.length (zs.flatMap cells) ∧ ∀ z ∈ zs, Q z := by
  rcases open_slice ht h with ⟨hcs, _⟩ | ⟨a, len, cap, m, n, D, Pl, hcs, _, hlc, hcm, hmm, _, hx⟩
  · subst hcs
    exact ⟨_, [], rfl, ⟨Nat.zero_le _, .inl ⟨rfl, rfl, none, 0, rfl, fun _ => rfl, Nat.zero_le _⟩⟩, fun z hz => by cases hz⟩
  · subst hcs
    simp only [if_true] at hmm
    subst hmm
    rw [hc] at hx
    obtain ⟨f, hf⟩ := choose_lt (α := α) (p := fun i z => w.cells? 0 (a.add (i * s)) s = some (cells z) ∧ Q z) (n := m) (fun i hi => by
      obtain ⟨cs', h1, h2⟩ := hx i hi
      obtain ⟨_, hlen, _⟩ := World.cells?_some h1
      obtain ⟨z, rfl, hq⟩ := elem n cs' _ h2 hlen
      exact ⟨z, h1, hq⟩)
    refine ⟨_, (List.range len).map f, rfl, ?_, fun z hz => ?_⟩
    · rcases Nat.eq_zero_or_pos len with rfl | hp
      · exact ⟨Nat.zero_le _, .inl ⟨by simp, by simp, some a, m, rfl, (fun h => by cases h), hcm⟩⟩
      · have h0 := (World.cells?_some (hf 0 (by omega)).1).2.2 0 hs
        rw [Nat.zero_mul] at h0
        obtain ⟨b, off, sp⟩ := a
        obtain ⟨u, hu⟩ : ∃ u, (cells (f 0))[0]? = some u := ⟨_, List.getElem?_eq_getElem (by rw [hl]; exact hs)⟩
        rw [hu] at h0
        have hsp : sp = none := by simpa [Addr.add] using World.cell?_spot h0
        subst hsp
        have hb : b < w.heap.size := by
          have := World.block_lt_of_cell? w _ h0
          simpa [Addr.add] using this
        refine ⟨by simp only [List.length_map, List.length_range]; omega, .inr ⟨by simpa using hp, b, off, m, by simp, by simpa using hlc, hcm, hb, fun j u' hj => ?_⟩⟩
        have hj' : j < len * s := by
          have := (List.getElem?_eq_some_iff.1 hj).1
          rwa [flat_len hl, List.length_map, List.length_range] at this
        have hk : j / s < len := Nat.div_lt_of_lt_mul (by rwa [Nat.mul_comm] at hj')
        have hi : j % s < s := Nat.mod_lt _ hs
        have hjj : j / s * s + j % s = j := Nat.div_add_mod' j s
        have hcell := (World.cells?_some (hf (j / s) (by omega)).1).2.2 (j % s) hi
        rw [add_norm _ rfl, add_norm _ rfl, Nat.add_assoc, hjj] at hcell
        rw [hcell, ← hj]
        have := flat_at hl ((List.range len).map f) (j / s) (j % s) (by simpa using hk) hi
        rw [hjj] at this
        rw [this]
        simp
    · obtain ⟨i, hi, rfl⟩ := List.mem_map.1 hz
      exact (hf i (by have := List.mem_range.1 hi; omega)).2


/-- .. an argument itself -/
theorem open_elems {α : Type} [Inhabited α] {cells : α → List Value} {Q : α → Prop} {s : Nat} (hl : ∀ x, (cells x).length = s) (hs : 0 < s) {t e : TypeId} {v : Value} {d : DataW H} {p : List MemPlace} {r : Reach} {b0 : Nat}
    (ht : P.underlying t = some (.slice e)) (hc : P.cellsOf e = s)
    (elem : ∀ n cs x, DataW.trod enc P w 0 (fun _ => true) true n e cs = some x → cs.length = s → ∃ z, cs = cells z ∧ Q z)
    (hv : Value.okWide P w r b0 t v) (h : DataW.Trod enc P w 0 (fun _ => true) true t v d p) :
    ∃ zs : List α, Rd w v zs.length (zs.flatMap cells) ∧ ∀ z ∈ zs, Q z := by
  obtain ⟨ao, len, cap, rfl⟩ := okWide_slice ht hv
  obtain ⟨fuel, hf⟩ := h
  obtain ⟨v, zs, h1, h2, h3⟩ := rd_elems hl hs ht hc elem hf
  simp [Value.cells] at h1
  subst h1
  exact ⟨zs, h2, h3⟩

end

theorem ints_flat (zs : List Int) : zs.flatMap (fun z => [Value.int .i64 z]) = ints zs := by induction zs with
  | nil => rfl
  | cons z zs ih => rw [List.flatMap_cons, ih]; rfl

theorem open_int64S {H : Type} {enc : TypeId × Value → H} {w : World} {v : Value} {d : DataW H} {p : List MemPlace} {r : Reach} {b0 : Nat}
    (hv : Value.okWide Try.prog w r b0 25 v) (h : DataW.Trod enc Try.prog w 0 (fun _ => true) true 25 v d p) :
    ∃ zs : List Int, Rd w v zs.length (ints zs) ∧ ∀ z ∈ zs, I64 z := by
  obtain ⟨zs, h1, h2⟩ := open_elems (s := 1) (cells := fun z : Int => [Value.int .i64 z]) (Q := I64) (fun _ => rfl) (by omega) Try.underlying25 (by kernel_rfl) (fun n cs x hx _ => by
    obtain ⟨z, rfl, _, hw⟩ := DataW.trod_int Try.underlying2 hx
    exact ⟨z, rfl, i64_of_wf hw⟩) hv h
  exact ⟨zs, by rwa [ints_flat] at h1, h2⟩

theorem open_lCutS {H : Type} {enc : TypeId × Value → H} {w : World} {v : Value} {d : DataW H} {p : List MemPlace} {r : Reach} {b0 : Nat}
    (hv : Value.okWide Try.prog w r b0 61 v) (h : DataW.Trod enc Try.prog w 0 (fun _ => true) true 61 v d p) :
    ∃ zs : List (Int × Int), Rd w v zs.length (pairs zs) ∧ ∀ z ∈ zs, I64 z.1 ∧ I64 z.2 := by
  refine open_elems (s := 2) (cells := fun p : Int × Int => [Value.int .i64 p.1, .int .i64 p.2]) (Q := fun z : Int × Int => I64 z.1 ∧ I64 z.2) (fun _ => rfl) (by omega) Try.underlying61 (by kernel_rfl) (fun n cs x hx hl => ?_) hv h
  obtain ⟨y0, y1, n', _, _, h0, h1⟩ := trod_struct2 Try.underlying124 hx
  match cs, hl with
  | [c0, c1], _ =>
    obtain ⟨a, e0, _, w0⟩ := DataW.trod_int Try.underlying2 h0
    obtain ⟨b, e1, _, w1⟩ := DataW.trod_int Try.underlying2 h1
    have k : Try.prog.cellsOf 2 = 1 := by kernel_rfl
    simp [k] at e0 e1
    subst e0 e1
    exact ⟨(a, b), rfl, i64_of_wf w0, i64_of_wf w1⟩

end Go.Proofs.Ytddkjcdnomoglaa
