/- Models as they come in. -/
import Derived.Test.YtmeeibcbhjifbaaGreatGC
import Derived.Test.YtmeeibcbhjifbaaGreatVE
namespace Go.Proofs.YtmeeibcbhjifbaaGreat
set_option linter.unusedVariables false
open Go.RowKit Go.Proofs.Bell Go.BigFrame
set_option maxRecDepth 100000
open Go.ChangeShapes Go.WideShapes Go.Deep

theorem rd_ints {H : Type} {enc : TypeId × Value → H} {w : World} {n : Nat} {cs : List Value} {x : DataW H × List MemPlace} (hx : DataW.trod enc Tryz.prog w 0 (fun _ => true) true n 22 cs = some x) :
    ∃ (v : Value) (zs : List Int), cs = [v] ∧ Rd w v zs.length (ints zs) ∧ ∀ z ∈ zs, I64 z := by
  obtain ⟨v, zs, h1, h2, h3⟩ := rd_elems (s := 1) (cells := fun z : Int => [Value.int .i64 z]) (Q := I64) (fun _ => rfl) (by omega) Tryz.underlying22 (by kernel_rfl) (fun n cs x hx _ => by
    obtain ⟨z, rfl, _, hw⟩ := DataW.trod_int Tryz.underlying2 hx
    exact ⟨z, rfl, i64_of_wf hw⟩) hx
  exact ⟨v, zs, h1, by rwa [ints_flat] at h2, h3⟩
theorem rd_intSS {H : Type} {enc : TypeId × Value → H} {w : World} {n : Nat} {cs : List Value} {x : DataW H × List MemPlace} (hx : DataW.trod enc Tryz.prog w 0 (fun _ => true) true n 23 cs = some x) :
    ∃ (v : Value) (ws : List (List Int)), cs = [v] ∧ RdSS w v ws ∧ ∀ x ∈ ws, ∀ z ∈ x, I64 z := by
  obtain ⟨v, zs, h1, h2, h3⟩ := rd_elems (α := Value × List Int) (s := 1) (cells := fun x => [x.1]) (Q := fun x => Rd w x.1 x.2.length (ints x.2) ∧ ∀ z ∈ x.2, I64 z) (fun _ => rfl) (by omega) Tryz.underlying23 (by kernel_rfl) (fun n cs x hx _ => by
    obtain ⟨v, zs, h1, h2, h3⟩ := rd_ints hx
    exact ⟨(v, zs), h1, h2, h3⟩) hx
  refine ⟨v, zs.map (·.2), h1, ⟨zs.map (·.1), by simp, ?_, fun k hk => ?_⟩, fun x hx z hz => ?_⟩
  · have e : zs.flatMap (fun x => [x.1]) = zs.map (·.1) := by
      clear h2 h3 h1 hx
      induction zs with
      | nil => rfl
      | cons a l ih => rw [List.flatMap_cons, ih]; rfl
    rw [e] at h2
    simpa using h2
  · have hk' : k < zs.length := by simpa using hk
    have := (h3 zs[k] (List.getElem_mem hk')).1
    simpa [List.getD, hk'] using this
  · obtain ⟨y, hy, rfl⟩ := List.mem_map.1 hx
    exact (h3 y hy).2 z hz

theorem open_lModel {H : Type} {enc : TypeId × Value → H} {w : World} {v : Value} {d : DataW H} {p : List MemPlace} {r : Reach} {b0 : Nat}
    (hv : Value.okWide Tryz.prog w r b0 25 v) (h : DataW.Trod enc Tryz.prog w 0 (fun _ => true) true 25 v d p) :
    ∃ (zv wv bv : Value) (zs : List Int) (ws : List (List Int)) (bs : List Int), v = .agg #[zv, wv, bv] ∧ Rd w zv zs.length (ints zs) ∧ RdSS w wv ws ∧ Rd w bv bs.length (ints bs) ∧ ((∀ z ∈ zs, I64 z) ∧ (∀ x ∈ ws, ∀ z ∈ x, I64 z) ∧ ∀ z ∈ bs, I64 z) := by
  obtain ⟨cs, rfl, _⟩ := okWide_struct Tryz.underlying25 hv
  obtain ⟨fuel, hx⟩ := h
  obtain ⟨xs, m, _, _, hl, hlen, hf⟩ := DataW.trod_struct Tryz.underlying25 hx
  have k : Tryz.prog.cellsOf 25 = 3 := by kernel_rfl
  have k1 : Tryz.prog.cellsOf 22 = 1 := by kernel_rfl
  have k2 : Tryz.prog.cellsOf 23 = 1 := by kernel_rfl
  simp only [Value.cells] at hf hl
  obtain ⟨cs⟩ := cs
  simp only at hf hl
  match cs, hl.trans k, xs, hlen with
  | [c0, c1, c2], _, [y0, y1, y2], _ =>
    obtain ⟨zv, zs, e0, h0, w0⟩ := rd_ints (hf 0 _ rfl)
    obtain ⟨wv, ws, e1, h1, w1⟩ := rd_intSS (hf 1 _ rfl)
    obtain ⟨bv, bs, e2, h2, w2⟩ := rd_ints (hf 2 _ rfl)
    simp [k1, k2] at e0 e1 e2
    subst e0 e1 e2
    exact ⟨_, _, _, zs, ws, bs, rfl, h0, h1, h2, w0, w1, w2⟩

end Go.Proofs.YtmeeibcbhjifbaaGreat
