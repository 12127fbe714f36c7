/- The arguments of a law, opened: structs, profiles. -/
import Derived.Test.YtddkjcdnomoglaaOpen
namespace Go.Proofs.Ytddkjcdnomoglaa
set_option linter.unusedVariables false
open Go.RowKit Go.Proofs.Bell Go.BigFrame
set_option maxRecDepth 100000
open Go.ChangeShapes Go.WideShapes Go.Deep

theorem trips_flat (zs : List (Int × Int × Int)) : zs.flatMap (fun p => [Value.int .i64 p.1, .int .i64 p.2.1, .int .i64 p.2.2]) = trips zs := rfl

theorem k_int : Try.prog.cellsOf 2 = 1 := by kernel_rfl

theorem tr_lRing {H : Type} {enc : TypeId × Value → H} {w : World} {n : Nat} {cs : List Value} {x : DataW H × List MemPlace} (hx : DataW.trod enc Try.prog w 0 (fun _ => true) true n 50 cs = some x) :
    ∃ p : Int × Int × Int, cs = [.int .i64 p.1, .int .i64 p.2.1, .int .i64 p.2.2] ∧ I64 p.1 ∧ I64 p.2.1 ∧ I64 p.2.2 := by
  obtain ⟨xs, m, _, _, hl, hlen, hf⟩ := DataW.trod_struct Try.underlying50 hx
  have k : Try.prog.cellsOf 50 = 3 := by kernel_rfl
  match cs, hl.trans k, xs, hlen with
  | [c0, c1, c2], _, [y0, y1, y2], _ =>
    obtain ⟨a0, e0, _, w0⟩ := DataW.trod_int Try.underlying2 (hf 0 _ rfl)
    obtain ⟨a1, e1, _, w1⟩ := DataW.trod_int Try.underlying2 (hf 1 _ rfl)
    obtain ⟨a2, e2, _, w2⟩ := DataW.trod_int Try.underlying2 (hf 2 _ rfl)
    simp [k_int] at e0 e1 e2
    subst e0 e1 e2
    exact ⟨(a0, a1, a2), rfl, i64_of_wf w0, i64_of_wf w1, i64_of_wf w2⟩

theorem open_lRing {H : Type} {enc : TypeId × Value → H} {w : World} {v : Value} {d : DataW H} {p : List MemPlace} {r : Reach} {b0 : Nat}
    (hv : Value.okWide Try.prog w r b0 50 v) (h : DataW.Trod enc Try.prog w 0 (fun _ => true) true 50 v d p) :
    ∃ a b c : Int, v = .agg #[.int .i64 a, .int .i64 b, .int .i64 c] ∧ I64 a ∧ I64 b ∧ I64 c := by
  obtain ⟨cs, rfl, _⟩ := okWide_struct Try.underlying50 hv
  obtain ⟨fuel, hf⟩ := h
  obtain ⟨p, e, h⟩ := tr_lRing hf
  refine ⟨p.1, p.2.1, p.2.2, ?_, h⟩
  obtain ⟨l⟩ := cs
  simp only [Value.cells] at e
  subst e
  rfl

theorem rd_lRings {H : Type} {enc : TypeId × Value → H} {w : World} {n : Nat} {cs : List Value} {x : DataW H × List MemPlace} (hx : DataW.trod enc Try.prog w 0 (fun _ => true) true n 22 cs = some x) :
    ∃ (v : Value) (zs : List (Int × Int × Int)), cs = [v] ∧ Rd w v zs.length (trips zs) ∧ ∀ z ∈ zs, I64 z.1 ∧ I64 z.2.1 ∧ I64 z.2.2 :=
  rd_elems (s := 3) (cells := fun p : Int × Int × Int => [Value.int .i64 p.1, .int .i64 p.2.1, .int .i64 p.2.2]) (Q := fun z : Int × Int × Int => I64 z.1 ∧ I64 z.2.1 ∧ I64 z.2.2) (fun _ => rfl) (by omega) Try.underlying22 (by kernel_rfl) (fun n cs x hx _ => tr_lRing hx) hx

theorem open_lProfile {H : Type} {enc : TypeId × Value → H} {w : World} {v : Value} {d : DataW H} {p : List MemPlace} {r : Reach} {b0 : Nat}
    (hv : Value.okWide Try.prog w r b0 24 v) (h : DataW.Trod enc Try.prog w 0 (fun _ => true) true 24 v d p) :
    ∃ (nm : ByteArray) (sv : Value) (rs : List (Int × Int × Int)), v = .agg #[.string nm, sv] ∧ nm.size ≤ maxLen ∧ Rd w sv rs.length (trips rs) ∧ ∀ z ∈ rs, I64 z.1 ∧ I64 z.2.1 ∧ I64 z.2.2 := by
  obtain ⟨cs, rfl, _⟩ := okWide_struct Try.underlying24 hv
  obtain ⟨fuel, hx⟩ := h
  obtain ⟨xs, m, _, _, hl, hlen, hf⟩ := DataW.trod_struct Try.underlying24 hx
  have k : Try.prog.cellsOf 24 = 2 := by kernel_rfl
  have k1 : Try.prog.cellsOf 9 = 1 := by kernel_rfl
  have k2 : Try.prog.cellsOf 22 = 1 := by kernel_rfl
  simp only [Value.cells] at hf hl
  obtain ⟨cs⟩ := cs
  simp only at hf hl
  match cs, hl.trans k, xs, hlen with
  | [c0, c1], _, [y0, y1], _ =>
    obtain ⟨nm, e0, _, w0⟩ := DataW.trod_string Try.underlying9 (hf 0 _ rfl)
    obtain ⟨sv, rs, e1, h1, h2⟩ := rd_lRings (hf 1 _ rfl)
    simp [k1, k2] at e0 e1
    subst e0 e1
    exact ⟨nm, _, rs, rfl, w0, h1, h2⟩

theorem trodAll_four {H : Type} {enc : TypeId × Value → H} {P : Program} {w : World} {base : Nat} {spare : Nat → Bool} {held : Bool} {t t1 t2 t3 : TypeId} {args : Array Value} {ds : List (DataW H)} {ps : List MemPlace} (h : DataW.TrodAll enc P w base spare held [t, t1, t2, t3] args.toList ds ps) :
    ∃ v0 v1 v2 v3 d0 d1 d2 d3 p0 p1 p2 p3, args = #[v0, v1, v2, v3] ∧ ds = [d0, d1, d2, d3] ∧ ps = p0 ++ (p1 ++ (p2 ++ p3)) ∧ DataW.Trod enc P w base spare held t v0 d0 p0 ∧ DataW.Trod enc P w base spare held t1 v1 d1 p1 ∧ DataW.Trod enc P w base spare held t2 v2 d2 p2 ∧ DataW.Trod enc P w base spare held t3 v3 d3 p3 := by
  obtain ⟨v0, vs, d0, dr, p0, q, e, rfl, rfl, h0, h⟩ := trodAll_cons h
  obtain ⟨v1, vs1, d1, dr1, p1, q1, rfl, rfl, rfl, h1, h⟩ := trodAll_cons h
  obtain ⟨v2, vs2, d2, dr2, p2, q2, rfl, rfl, rfl, h2, h⟩ := trodAll_cons h
  obtain ⟨v3, vs3, d3, dr3, p3, q3, rfl, rfl, rfl, h3, h⟩ := trodAll_cons h
  obtain ⟨rfl, rfl, rfl⟩ := trodAll_nil h
  refine ⟨v0, v1, v2, v3, d0, d1, d2, d3, p0, p1, p2, p3, ?_, rfl, by simp, h0, h1, h2, h3⟩
  obtain ⟨l⟩ := args
  simpa using e

end Go.Proofs.Ytddkjcdnomoglaa
