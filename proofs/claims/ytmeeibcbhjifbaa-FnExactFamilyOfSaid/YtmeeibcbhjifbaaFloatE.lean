/- A region that draws its order: one load more is taken ahead, that the tail's first operation does not wait for. -/
import Derived.Test.YtmeeibcbhjifbaaFloat
import Derived.OrdersHeld
namespace Go.Proofs.Bell
set_option linter.unusedVariables false
open Go.RowKit

section
variable {P : Program} {ops : Array Oper} {md : Region.Mode} {C : World → Prop}

theorem load_value {ρ : Operand → Value} {o : Oper} {t : TypeId} {x : Operand} (ho : o.op = .load t x) {w w' : World} {n : Next} (h : (execOp ρ o).run P w = .ok n w') : ∃ u, n = .value u := by
  unfold execOp at h
  simp only [ho] at h
  generalize Instr.loadAt t (ρ x) = s at h
  cases hs : s.run P w with
  | ok u w1 => simp [go_sem, hs] at h; exact ⟨u, h.1.symm⟩
  | halt y w1 => simp [go_sem, hs] at h

theorem yieldsIf_load {o : Oper} {t : TypeId} {x : Operand} {v : Value} {a : Act} (ho : o.op = .load t x) (hy : YieldsIn P ops C o v a) : YieldsIf P ops C o v a := by
  rcases hy with ⟨h1, h2⟩ | h
  · refine .inl ⟨h1, fun w hw => ?_⟩
    have h3 := h2 w hw
    unfold Oper.quietAt at h3
    cases hr : (execOp a.eval o).run P w with
    | ok n w1 =>
      obtain ⟨u, rfl⟩ := load_value ho hr
      rw [hr] at h3
      simp only [Oper.quietUpon] at h3
      rw [h3.1, h3.2]
    | halt y w1 => rw [hr] at h3; simp only [Oper.quietUpon] at h3
  · exact .inr h

/-- the head while the load `e` waits -/
def HE (P : Program) (md : Region.Mode) (ops : Array Oper) (C : World → Prop) (L M : Array Bool → Act → Prop) (e : Nat) : Nat → Array Bool → Act → Prop
  | 0, ls, a => M ls a
  | f + 1, ls, a => Region.ready md ops ls ≠ [] ∧ ∀ i ∈ Region.ready md ops ls, (i = e ∧ qOp P ops C e (HQ P md ops C L (f + 1) (ls.setIfInBounds e true)) a) ∨ (i ≠ e ∧ qOp P ops C i (HE P md ops C L M e f (ls.setIfInBounds i true)) a)

theorem HE.any {g e : Nat} {L M : Array Bool → Act → Prop} {Q : Exit → Act → World → Prop} (hL : ∀ ls a w, C w → L ls a → wpAny P md ops Q g ls a w) (hM : ∀ ls a w, C w → M ls a → wpAny P md ops Q (g + 1) ls a w) (f : Nat) :
    ∀ ls a w, C w → HE P md ops C L M e f ls a → wpAny P md ops Q (f + (g + 1)) ls a w := by
  induction f with
  | zero => intro ls a w hw h; rw [Nat.zero_add]; exact hM ls a w hw h
  | succ f ih =>
    intro ls a w hw h
    rw [show f + 1 + (g + 1) = (f + (g + 1)) + 1 by omega]
    refine ⟨fun h0 => absurd h0 h.1, fun i hi => ?_⟩
    rcases h.2 i hi with ⟨rfl, hq⟩ | ⟨hne, hq⟩
    · exact wpOp_of_qOp hw (fun a' w' hw' h' => by rw [show f + (g + 1) = f + 1 + g by omega]; exact HQ.any hL (f + 1) _ a' w' hw' h') hq
    · exact wpOp_of_qOp hw (fun a' w' hw' h' => ih _ a' w' hw' h') hq

def FreeOf (md : Region.Mode) (ops : Array Oper) (oe : Oper) (e : Nat) (ls : Array Bool) : Prop :=
  ∀ j oj, ops[j]? = some oj → j ≠ e → ls.getD j true = false → (∀ d ∈ oj.after, Region.binds md d = true → d.on ≠ e) → oe.apart ops oj = true
theorem FreeOf.set {oe : Oper} {e j : Nat} {ls : Array Bool} (h : FreeOf md ops oe e ls) (hj : ls.getD j true = false) : FreeOf md ops oe e (ls.setIfInBounds j true) := fun k ok hk hki hku hf => by
  refine h k ok hk hki ?_ hf
  rcases Nat.decEq j k with hjk | rfl
  · rwa [getD_set_ne true hjk] at hku
  · exact hj
theorem not_after {e j : Nat} {ls : Array Bool} {oj : Oper} (hall : ∀ d ∈ oj.after, Region.binds md d = true → ls.getD d.on false = true) (he : ls.getD e true = false) : ∀ d ∈ oj.after, Region.binds md d = true → d.on ≠ e := fun d hd hb heq => by
  have := hall d hd hb
  rw [heq, getD_both he] at this
  cases this

theorem HE.of {e : Nat} {oe : Oper} {v : Value} {L : Array Bool → Act → Prop} (he : ops[e]? = some oe) (hsel : ∀ (j : Nat) (o : Oper) cs b, ops[j]? = some o → o.op ≠ .select cs b) (f : Nat) :
    ∀ ls a, FreeOf md ops oe e ls → e ∈ Region.ready md ops ls → YieldsIn P ops C oe v a → HQ P md ops C L f (ls.setIfInBounds e true) (a.put oe.dst v) →
      HE P md ops C L (fun ls a => FreeOf md ops oe e ls ∧ e ∈ Region.ready md ops ls ∧ YieldsIn P ops C oe v a ∧ L (ls.setIfInBounds e true) (a.put oe.dst v)) e f ls a := by
  induction f with
  | zero => intro ls a hf hr hy h; exact ⟨hf, hr, hy, h⟩
  | succ f ih =>
    intro ls a hf hr hy h
    refine ⟨List.ne_nil_of_mem hr, fun j hj => ?_⟩
    rcases Nat.decEq j e with hne | rfl
    · obtain ⟨hju, oj, hoj, hall⟩ := mem_ready.1 hj
      have step := qOp_put hoj (hf j oj hoj hne hju (not_after (j := j) hall (mem_ready.1 hr).1)) (fun cs b => hsel e oe cs b he) (fun cs b => hsel j oj cs b hoj) hy (h.2 j (ready_mono hj hne))
      refine .inr ⟨hne, qOp_mono (fun a' ⟨y', h'⟩ => ih _ a' (hf.set hju) (ready_mono hr (Ne.symm hne)) y' ?_) step⟩
      rw [Array.setIfInBounds_comm _ _ hne]; exact h'
    · exact .inl ⟨rfl, hy.qOp he h⟩

/-- **THE WALK**, a load `e` ahead: head, tail; behind the tail's first operation the world must still be one of the class -/
theorem wpAny_pickE {Q : Exit → Act → World → Prop} {ls : Array Bool} {a : Act} {w : World} {l : List Oper} {oe : Oper} {v : Value} {t : TypeId} {x : Operand} (n : Nat) (fl ks : List Nat) (t0 : Nat) (ts : List Nat) (e : Nat)
    (hB : floatB md l.toArray n (e :: fl) ks (t0 :: ts) (ls.setIfInBounds e true) = true) (hE : ((Region.ready md l.toArray ls).contains e && Region.free md l.toArray ls e && decide (e ≠ t0) && (match ts.head? with | some t1 => Region.waitsFor md l.toArray t1 e | none => true)) = true)
    (hk : ks.all (fun k => decide (k < l.length)) = true) (ht : ts.all (fun k => decide (k < l.length)) = true) (hC : C w) (he : l.toArray[e]? = some oe) (ho : oe.op = .load t x)
    (hQ : ∀ c a w, Q (.panic c) (a.put oe.dst v) w → Q (.panic c) a w) (hy : YieldsIn P l.toArray C oe v a)
    (h : wpQuiet P l.toArray C (fun a' => ∀ w', C w' → wpOp P l.toArray Q t0 (fun a1 w1 => C w1 ∧ wpList P l.toArray Q (ts.filterMap (fun k => l[k]?)) a1 w1) a' w') (ks.filterMap (fun k => l[k]?)) (a.put oe.dst v)) :
    wpAny P md l.toArray Q (ks.length + (ts.length + 1 + 1)) ls a w := by
  simp only [Bool.and_eq_true, decide_eq_true_eq] at hE
  obtain ⟨⟨⟨hr0, hf0⟩, het⟩, hw1⟩ := hE
  have hr : e ∈ Region.ready md l.toArray ls := by simpa using hr0
  simp only [floatB, Bool.and_eq_true, decide_eq_true_eq, List.all_eq_true] at hB
  obtain ⟨⟨⟨⟨⟨⟨⟨⟨⟨hsel, hs⟩, hc⟩, htn⟩, hkn⟩, hlex⟩, hsz⟩, hcl⟩, htl⟩, hfl⟩ := hB
  have inv : InvF md l.toArray n (e :: fl) (ls.setIfInBounds e true) := by
    refine ⟨hsz, fun j oj hj hl d hd hb => ?_, fun t ht ht' hf => ?_, hfl⟩
    · have h1 := hcl j (List.mem_range.2 (Array.getElem?_eq_some_iff.1 hj).1)
      rw [hl, hj] at h1
      simp only [Bool.not_true, Bool.false_or, Array.all_eq_true_iff_forall_mem] at h1
      have h2 := h1 d hd
      rw [hb] at h2
      simpa using h2
    · have h1 := htl t (List.mem_range.2 ht')
      simp only [Bool.or_eq_true, decide_eq_true_eq] at h1
      rcases h1 with (h1 | h1) | h1
      · omega
      · exact absurd (by simpa using h1) hf
      · simpa using h1
  have H := HQ.lex (P := P) (C := C) (ts := t0 :: ts) hsel hs hc htn ks _ _ (fun k hk => by have := hkn k hk; simpa using this) inv hlex (idxQ_of ks _ _ (pick_some ks hk) h)
  have hseln := fun j o cs b hj => Region.noSelect_spec hsel (j := j) (o := o) (cs := cs) (b := b) hj
  have HH := HE.of (md := md) he hseln _ ls a (Region.free_spec he hf0) hr hy H
  have hLw : ∀ ls a w, C w → (seqF md l.toArray (t0 :: ts) ls = true ∧ ∀ w', C w' → wpOp P l.toArray Q t0 (fun a1 w1 => C w1 ∧ wpList P l.toArray Q (ts.filterMap (fun k => l[k]?)) a1 w1) a w') → wpAny P md l.toArray Q (ts.length + 1) ls a w := fun ls a w hw hL =>
    wpAny_seqF (t0 :: ts) ls a w hL.1 (wpOp_mono (fun a1 w1 h1 => idxW_of ts _ a1 w1 (pick_some ts ht) h1.2) (hL.2 w hw))
  refine HE.any (g := ts.length + 1) hLw ?_ _ ls a w hC HH
  rintro ls a w hw ⟨hf, hr, hy, hL⟩
  refine ⟨fun h0 => absurd h0 (List.ne_nil_of_mem hr), fun i hi => ?_⟩
  rcases Nat.decEq i e with hne | rfl
  · have hseq := hL.1
    simp only [seqF, Bool.and_eq_true, decide_eq_true_eq] at hseq
    have hi2 := ready_mono hi hne
    rw [hseq.1] at hi2
    obtain rfl : i = t0 := by simpa using hi2
    obtain ⟨hiu, ot, hot, hall⟩ := mem_ready.1 hi
    have heu := (mem_ready.1 hr).1
    have h1 := hL.2 w hw
    have h2 := wpOp_putIf hot (hf i ot hot hne hiu (not_after (j := i) hall heu)) (fun cs b => hseln e oe cs b he) (fun cs b => hseln i ot cs b hot) hQ (yieldsIf_load ho hy) h1
    refine wpOp_mono (fun a' w' h3 => ?_) h2
    obtain ⟨y', hw', h4⟩ := h3
    have hr2 := ready_mono hr (Ne.symm hne)
    refine ⟨fun h0 => absurd h0 (List.ne_nil_of_mem hr2), fun j hj => ?_⟩
    rcases Nat.decEq j e with hje | rfl
    · exfalso
      have hj2 := ready_mono hj hje
      rw [Array.setIfInBounds_comm _ _ hne] at hj2
      cases ts with
      | nil =>
        have := hseq.2
        simp only [seqF, List.isEmpty_iff] at this
        rw [this] at hj2
        cases hj2
      | cons t1 r =>
        have := hseq.2
        simp only [seqF, Bool.and_eq_true, decide_eq_true_eq] at this
        rw [this.1] at hj2
        obtain rfl : j = t1 := by simpa using hj2
        simp only [List.head?_cons] at hw1
        obtain ⟨o1, ho1, d, hd, hb, hon⟩ := Region.waitsFor_spec hw1
        obtain ⟨_, o2, ho2, hall2⟩ := mem_ready.1 hj
        obtain rfl : o2 = o1 := Option.some.inj (ho2.symm.trans ho1)
        have h5 := hall2 d hd hb
        rw [hon, getD_set_ne false hne, getD_both heu] at h5
        cases h5
    · refine YieldsIf.wpOp he y' hw' ?_
      rw [Array.setIfInBounds_comm _ _ hne]
      exact wpAny_seqF ts _ _ _ hseq.2 (idxW_of ts _ _ _ (pick_some ts ht) h4)
  · exact wpOp_of_qOp hw (fun a' w' hw' h' => hLw _ a' w' hw' h') (hy.qOp he hL)
end

end Go.Proofs.Bell
