/- Several texts of the proofs in one: Float, FloatE, Force, Force2. -/
import Derived.Test.YtgdadbmhdljcdaaGreatDoorGF
import Derived.OrdersHeld
/- A region that draws its order: some operations are taken ahead, the head leaves the world in a class, the tail follows by force. -/
namespace Go.Proofs.Bell
set_option linter.unusedVariables false
open Go.RowKit

section
variable {P : Program} {ops : Array Oper} {md : Region.Mode} {C : World → Prop}

/-- the head, whatever order is picked: each operation that may come up is quiet in the class -/
def HQ (P : Program) (md : Region.Mode) (ops : Array Oper) (C : World → Prop) (L : Array Bool → Act → Prop) : Nat → Array Bool → Act → Prop
  | 0, ls, a => L ls a
  | f + 1, ls, a => Region.ready md ops ls ≠ [] ∧ ∀ i ∈ Region.ready md ops ls, qOp P ops C i (HQ P md ops C L f (ls.setIfInBounds i true)) a

theorem HQ.any {g : Nat} {L : Array Bool → Act → Prop} {Q : Exit → Act → World → Prop} (hL : ∀ ls a w, C w → L ls a → wpAny P md ops Q g ls a w) (f : Nat) :
    ∀ ls a w, C w → HQ P md ops C L f ls a → wpAny P md ops Q (f + g) ls a w := by
  induction f with
  | zero => intro ls a w hw h; rw [Nat.zero_add]; exact hL ls a w hw h
  | succ f ih =>
    intro ls a w hw h
    rw [show f + 1 + g = (f + g) + 1 by omega]
    exact ⟨fun h0 => absurd h0 h.1, fun i hi => wpOp_of_qOp hw (fun a' w' hw' h' => ih _ a' w' hw' h') (h.2 i hi)⟩

/-- where the walk stands: what is listed is closed, the floats are listed, the tail is not -/
structure InvF (md : Region.Mode) (ops : Array Oper) (n : Nat) (fl : List Nat) (ls : Array Bool) : Prop where
  size : ls.size = ops.size
  closed : ∀ j oj, ops[j]? = some oj → ls.getD j false = true → ∀ e ∈ oj.after, Region.binds md e = true → ls.getD e.on false = true
  tail : ∀ t, n ≤ t → t < ops.size → t ∉ fl → ls.getD t true = false
  floats : ∀ t, t ∈ fl → ls.getD t false = true

theorem InvF.set {n i : Nat} {fl : List Nat} {ls : Array Bool} (inv : InvF md ops n fl ls) (hi : i ∈ Region.ready md ops ls) (hin : i < n) : InvF md ops n fl (ls.setIfInBounds i true) := by
  obtain ⟨_, oi, hoi, hall⟩ := mem_ready.1 hi
  refine ⟨by simp [inv.size], fun j oj hj hl e he hb => ?_, fun t ht ht' hf => by rw [getD_set_ne true (by omega)]; exact inv.tail t ht ht' hf, fun t ht => getD_set_true (inv.floats t ht)⟩
  by_cases hij : i = j
  · subst hij
    obtain rfl : oj = oi := Option.some.inj (hj.symm.trans hoi)
    exact getD_set_true (hall e he hb)
  · rw [getD_set_ne false hij] at hl
    exact getD_set_true (inv.closed j oj hj hl e he hb)

def sinkF (md : Region.Mode) (ops : Array Oper) (n : Nat) (fl : List Nat) : Bool :=
  (List.range n).all fun i => fl.contains i || (List.range (n + 1)).any fun j => decide (i < j) && !fl.contains j && Region.waitsFor md ops j i
def chainF (md : Region.Mode) (ops : Array Oper) (n : Nat) (fl : List Nat) : Bool :=
  (List.range ops.size).all fun t => decide (t ≤ n) || fl.contains t || (List.range t).any fun p => decide (n ≤ p) && !fl.contains p && Region.waitsFor md ops t p

/-- while one of the head waits, none of the tail may come up -/
theorem waitsF {n : Nat} {fl : List Nat} {ls : Array Bool} (hs : sinkF md ops n fl = true) (hc : chainF md ops n fl = true) (inv : InvF md ops n fl ls) :
    ∀ (d i : Nat), n - i = d → i < n → i ∉ fl → ls.getD i true = false → ∀ t, n ≤ t → t ∉ Region.ready md ops ls := by
  intro d
  induction d using Nat.strongRecOn with
  | _ d ih =>
    intro i hd hi hif hun t ht hr
    obtain ⟨h0, ot, hot, hall⟩ := mem_ready.1 hr
    have htlt : t < ops.size := (Array.getElem?_eq_some_iff.1 hot).1
    by_cases htf : t ∈ fl
    · have h1 := inv.floats t htf
      rw [getD_both h0] at h1
      cases h1
    · by_cases htn : t = n
      · subst htn
        have h1 := List.all_eq_true.1 hs i (List.mem_range.2 hi)
        rw [Bool.or_eq_true] at h1
        rcases h1 with h1 | h1
        · exact hif (by simpa using h1)
        · obtain ⟨j, hj, hj2⟩ := List.any_eq_true.1 h1
          simp only [Bool.and_eq_true, decide_eq_true_eq] at hj2
          obtain ⟨oj, hoj, e, he, hb, hon⟩ := Region.waitsFor_spec hj2.2
          have hjle : j ≤ t := by have := List.mem_range.1 hj; omega
          by_cases hjt : j = t
          · subst hjt
            obtain rfl : oj = ot := Option.some.inj (hoj.symm.trans hot)
            have h2 := hall e he hb
            rw [hon, getD_both hun] at h2
            cases h2
          · cases hl : ls.getD j false with
            | true =>
              have h2 := inv.closed j oj hoj hl e he hb
              rw [hon, getD_both hun] at h2
              cases h2
            | false =>
              have hjs : j < ls.size := by rw [inv.size]; omega
              exact ih (t - j) (by omega) j rfl (by omega) (by simpa using hj2.1.2) (getD_in hjs hl) t (Nat.le_refl _) hr
      · have h1 := List.all_eq_true.1 hc t (List.mem_range.2 htlt)
        simp only [Bool.or_eq_true, decide_eq_true_eq] at h1
        rcases h1 with (h1 | h1) | h1
        · omega
        · exact htf (by simpa using h1)
        · obtain ⟨p, hp, hp2⟩ := List.any_eq_true.1 h1
          simp only [Bool.and_eq_true, decide_eq_true_eq] at hp2
          obtain ⟨o', ho', e, he, hb, hon⟩ := Region.waitsFor_spec hp2.2
          obtain rfl : o' = ot := Option.some.inj (ho'.symm.trans hot)
          have h2 := hall e he hb
          rw [hon, getD_both (inv.tail p hp2.1.1 (by have := List.mem_range.1 hp; omega) (by simpa using hp2.1.2))] at h2
          cases h2

/-- an operation of the head that may come up now may be taken first -/
theorem HQ.first {n i : Nat} {fl : List Nat} {oi : Oper} {v : Value} {L : Array Bool → Act → Prop} (hi : ops[i]? = some oi) (hsel : ∀ (j : Nat) (o : Oper) cs b, ops[j]? = some o → o.op ≠ .select cs b)
    (hs : sinkF md ops n fl = true) (hc : chainF md ops n fl = true) (hin : i < n) (hif : i ∉ fl) (hL : ∀ ls a, L ls a → ∀ j ∈ Region.ready md ops ls, n ≤ j) (f : Nat) :
    ∀ ls a, InvF md ops n fl ls →
      (∀ j oj, ops[j]? = some oj → j ≠ i → ls.getD j true = false → (∀ e ∈ oj.after, Region.binds md e = true → e.on ≠ i) → oi.apart ops oj = true) →
      i ∈ Region.ready md ops ls → YieldsIn P ops C oi v a → HQ P md ops C L f (ls.setIfInBounds i true) (a.put oi.dst v) → HQ P md ops C L (f + 1) ls a := by
  have low : ∀ ls, InvF md ops n fl ls → i ∈ Region.ready md ops ls → ∀ j ∈ Region.ready md ops ls, j < n := fun ls inv hr j hj =>
    Nat.lt_of_not_le fun h => waitsF hs hc inv _ i rfl hin hif (mem_ready.1 hr).1 j h hj
  induction f with
  | zero =>
    intro ls a inv hap hr hy h
    refine ⟨List.ne_nil_of_mem hr, fun j hj => ?_⟩
    rcases Nat.decEq j i with hne | rfl
    · exact absurd (low ls inv hr j hj) (Nat.not_lt.2 (hL _ _ h j (ready_mono hj hne)))
    · exact hy.qOp hi h
  | succ f ih =>
    intro ls a inv hap hr hy h
    refine ⟨List.ne_nil_of_mem hr, fun j hj => ?_⟩
    rcases Nat.decEq j i with hne | rfl
    · obtain ⟨hju, oj, hoj, hall⟩ := mem_ready.1 hj
      have hiu := (mem_ready.1 hr).1
      have free : ∀ e ∈ oj.after, Region.binds md e = true → e.on ≠ i := fun e he hb heq => by
        have := hall e he hb
        rw [heq, getD_both hiu] at this
        cases this
      have step := qOp_put hoj (hap j oj hoj hne hju free) (fun cs b => hsel i oi cs b hi) (fun cs b => hsel j oj cs b hoj) hy (h.2 j (ready_mono hj hne))
      refine qOp_mono (fun a' ⟨y', h'⟩ => ih _ a' (inv.set hj (low ls inv hr j hj)) (fun k ok hk hki hku hf => ?_) (ready_mono hr (Ne.symm hne)) y' ?_) step
      · refine hap k ok hk hki ?_ hf
        rcases Nat.decEq j k with hjk | rfl
        · rwa [getD_set_ne true hjk] at hku
        · exact hju
      · rw [Array.setIfInBounds_comm _ _ hne]; exact h'
    · exact hy.qOp hi h

/-- the tail's order is forced -/
def seqF (md : Region.Mode) (ops : Array Oper) : List Nat → Array Bool → Bool
  | [], ls => (Region.ready md ops ls).isEmpty
  | k :: r, ls => decide (Region.ready md ops ls = [k]) && seqF md ops r (ls.setIfInBounds k true)
/-- the head's lexical order -/
def lexF (md : Region.Mode) (ops : Array Oper) (ts : List Nat) : List Nat → Array Bool → Bool
  | [], ls => seqF md ops ts ls
  | k :: r, ls => (Region.ready md ops ls).contains k && Region.free md ops ls k && lexF md ops ts r (ls.setIfInBounds k true)

def idxW (P : Program) (ops : Array Oper) (Q : Exit → Act → World → Prop) : List Nat → Act → World → Prop
  | [], a, w => Q .normal a w
  | k :: r, a, w => wpOp P ops Q k (idxW P ops Q r) a w
def idxQ (P : Program) (ops : Array Oper) (C : World → Prop) (R : Act → Prop) : List Nat → Act → Prop
  | [], a => R a
  | k :: r, a => qOp P ops C k (idxQ P ops C R r) a

theorem idxW_of {Q : Exit → Act → World → Prop} : ∀ (ks : List Nat) (os : List Oper) (a : Act) (w : World), os.map some = ks.map (fun k => ops[k]?) → wpList P ops Q os a w → idxW P ops Q ks a w
  | [], [], _, _, _, h => h
  | [], _ :: _, _, _, he, _ => by simp at he
  | _ :: _, [], _, _, he, _ => by simp at he
  | k :: r, o :: os, a, w, he, h => by
    simp only [List.map_cons, List.cons.injEq] at he
    have hw : wpOp P ops Q k (wpList P ops Q os) a w := by unfold wpOp; simp only [← he.1]; exact h
    exact wpOp_mono (fun a' w' h' => idxW_of r os a' w' he.2 h') hw
theorem idxQ_of {R : Act → Prop} : ∀ (ks : List Nat) (os : List Oper) (a : Act), os.map some = ks.map (fun k => ops[k]?) → wpQuiet P ops C R os a → idxQ P ops C R ks a
  | [], [], _, _, h => h
  | [], _ :: _, _, he, _ => by simp at he
  | _ :: _, [], _, he, _ => by simp at he
  | k :: r, o :: os, a, he, h => by
    simp only [List.map_cons, List.cons.injEq] at he
    have hq : qOp P ops C k (wpQuiet P ops C R os) a := by unfold qOp; simp only [← he.1]; exact h
    exact qOp_mono (fun a' h' => idxQ_of r os a' he.2 h') hq

theorem seqF_ready {n : Nat} {ts : List Nat} {ls : Array Bool} (ht : ∀ t ∈ ts, n ≤ t) (h : seqF md ops ts ls = true) : ∀ j ∈ Region.ready md ops ls, n ≤ j := by
  cases ts with
  | nil => intro j hj; simp only [seqF, List.isEmpty_iff] at h; rw [h] at hj; cases hj
  | cons k r =>
    intro j hj
    simp only [seqF, Bool.and_eq_true, decide_eq_true_eq] at h
    rw [h.1] at hj
    have : j = k := by simpa using hj
    exact this ▸ ht k (by simp)
theorem wpAny_seqF {Q : Exit → Act → World → Prop} : ∀ (ts : List Nat) (ls : Array Bool) (a : Act) (w : World), seqF md ops ts ls = true → idxW P ops Q ts a w → wpAny P md ops Q ts.length ls a w
  | [], _, _, _, hB, h => ⟨by simpa [seqF] using hB, h⟩
  | k :: r, ls, a, w, hB, h => by
    simp only [seqF, Bool.and_eq_true, decide_eq_true_eq] at hB
    refine ⟨fun h1 => (by rw [hB.1] at h1; cases h1), fun i hi => ?_⟩
    rw [hB.1] at hi
    obtain rfl : i = k := by simpa using hi
    exact wpOp_mono (fun a' w' h' => wpAny_seqF r _ a' w' hB.2 h') h

theorem HQ.lex {n : Nat} {fl ts : List Nat} {R : Act → Prop} (hsel : Region.noSelect ops = true) (hs : sinkF md ops n fl = true) (hc : chainF md ops n fl = true) (ht : ∀ t ∈ ts, n ≤ t) :
    ∀ (ks : List Nat) ls a, (∀ k ∈ ks, k < n ∧ k ∉ fl) → InvF md ops n fl ls → lexF md ops ts ks ls = true → idxQ P ops C R ks a →
      HQ P md ops C (fun ls' a' => seqF md ops ts ls' = true ∧ R a') ks.length ls a := by
  intro ks
  induction ks with
  | nil => intro ls a _ _ hB h; exact ⟨by simpa [lexF] using hB, h⟩
  | cons k r ih =>
    intro ls a hk inv hB h
    simp only [lexF, Bool.and_eq_true] at hB
    have hr : k ∈ Region.ready md ops ls := by simpa using hB.1.1
    obtain ⟨_, o, h0, _⟩ := mem_ready.1 hr
    obtain ⟨v, hy, hR⟩ := yieldsIn_of_qOp h0 h
    have hkn := hk k (by simp)
    refine HQ.first h0 (Region.noSelect_spec hsel) hs hc hkn.1 hkn.2 (fun ls' a' hL => seqF_ready ht hL.1) _ ls a inv (Region.free_spec h0 hB.1.2) hr hy ?_
    exact ih _ _ (fun j hj => hk j (by simp [hj])) (inv.set hr hkn.1) hB.2 hR

def floatB (md : Region.Mode) (ops : Array Oper) (n : Nat) (fl ks ts : List Nat) (ls : Array Bool) : Bool :=
  Region.noSelect ops && sinkF md ops n fl && chainF md ops n fl && (ts.all fun t => decide (n ≤ t)) && (ks.all fun k => decide (k < n) && !fl.contains k) && lexF md ops ts ks ls
    && decide (ls.size = ops.size) && ((List.range ops.size).all fun j => !ls.getD j false || match ops[j]? with | some oj => oj.after.all (fun e => !Region.binds md e || ls.getD e.on false) | none => true)
    && ((List.range ops.size).all fun t => decide (t < n) || fl.contains t || !ls.getD t true) && (fl.all fun t => ls.getD t false)

/-- **THE WALK**, once the floats are taken: the head, quiet in the class, then the tail -/
theorem wpAny_float {Q : Exit → Act → World → Prop} {ls : Array Bool} {a : Act} {w : World} {hd tl : List Oper} (n : Nat) (fl ks ts : List Nat) (hB : floatB md ops n fl ks ts ls = true) (hC : C w)
    (hh : hd.map some = ks.map (fun k => ops[k]?)) (ht : tl.map some = ts.map (fun k => ops[k]?))
    (h : wpQuiet P ops C (fun a' => ∀ w', C w' → wpList P ops Q tl a' w') hd a) : wpAny P md ops Q (ks.length + ts.length) ls a w := by
  simp only [floatB, Bool.and_eq_true, decide_eq_true_eq, List.all_eq_true] at hB
  obtain ⟨⟨⟨⟨⟨⟨⟨⟨⟨hsel, hs⟩, hc⟩, htn⟩, hkn⟩, hlex⟩, hsz⟩, hcl⟩, htl⟩, hfl⟩ := hB
  have inv : InvF md ops n fl ls := by
    refine ⟨hsz, fun j oj hj hl e he hb => ?_, fun t ht ht' hf => ?_, hfl⟩
    · have h1 := hcl j (List.mem_range.2 (Array.getElem?_eq_some_iff.1 hj).1)
      rw [hl, hj] at h1
      simp only [Bool.not_true, Bool.false_or, Array.all_eq_true_iff_forall_mem] at h1
      have h2 := h1 e he
      rw [hb] at h2
      simpa using h2
    · have h1 := htl t (List.mem_range.2 ht')
      simp only [Bool.or_eq_true, decide_eq_true_eq] at h1
      rcases h1 with (h1 | h1) | h1
      · omega
      · exact absurd (by simpa using h1) hf
      · simpa using h1
  have H := HQ.lex (C := C) (ts := ts) hsel hs hc htn ks ls a (fun k hk => by have := hkn k hk; simpa using this) inv hlex (idxQ_of ks hd a hh h)
  exact HQ.any (Q := Q) (g := ts.length) (fun ls a' w' hw' hL => wpAny_seqF ts ls a' w' hL.1 (idxW_of ts tl a' w' ht (hL.2 w' hw'))) _ _ _ _ hC H

theorem pick_some {l : List Oper} : ∀ ks : List Nat, ks.all (fun k => decide (k < l.length)) = true → (ks.filterMap (fun k => l[k]?)).map some = ks.map (fun k => l.toArray[k]?)
  | [], _ => rfl
  | k :: r, h => by
    simp only [List.all_cons, Bool.and_eq_true, decide_eq_true_eq] at h
    have hk : l[k]? = some l[k] := List.getElem?_eq_getElem h.1
    simp only [List.filterMap_cons, hk, List.map_cons, pick_some r h.2, List.getElem?_toArray]

/-- .. the lists picked by their indices -/
theorem wpAny_pick {Q : Exit → Act → World → Prop} {ls : Array Bool} {a : Act} {w : World} {l : List Oper} (n : Nat) (fl ks ts : List Nat) (hB : floatB md l.toArray n fl ks ts ls = true)
    (hk : ks.all (fun k => decide (k < l.length)) = true) (ht : ts.all (fun k => decide (k < l.length)) = true) (hC : C w)
    (h : wpQuiet P l.toArray C (fun a' => ∀ w', C w' → wpList P l.toArray Q (ts.filterMap (fun k => l[k]?)) a' w') (ks.filterMap (fun k => l[k]?)) a) : wpAny P md l.toArray Q (ks.length + ts.length) ls a w :=
  wpAny_float n fl ks ts hB hC (pick_some ks hk) (pick_some ts ht) h
end

end Go.Proofs.Bell

/- A region that draws its order: one load more is taken ahead, that the tail's first operation does not wait for. -/
namespace Go.Proofs.Bell
set_option linter.unusedVariables false
open Go.RowKit

section
variable {P : Program} {ops : Array Oper} {md : Region.Mode} {C : World → Prop}

theorem load_value {ρ : Operand → Value} {o : Oper} {t : TypeId} {x : Operand} (ho : o.op = .load t x) {w w' : World} {n : Next} (h : (execOp ρ o).run P w = .ok n w') : ∃ u, n = .value u := by
  unfold execOp at h
  simp only [ho] at h
  generalize Instr.loadAt t (ρ x) = s at h
  cases hs : s.run P w with
  | ok u w1 => simp [go_sem, hs] at h; exact ⟨u, h.1.symm⟩
  | halt y w1 => simp [go_sem, hs] at h

theorem yieldsIf_load {o : Oper} {t : TypeId} {x : Operand} {v : Value} {a : Act} (ho : o.op = .load t x) (hy : YieldsIn P ops C o v a) : YieldsIf P ops C o v a := by
  rcases hy with ⟨h1, h2⟩ | h
  · refine .inl ⟨h1, fun w hw => ?_⟩
    have h3 := h2 w hw
    unfold Oper.quietAt at h3
    cases hr : (execOp a.eval o).run P w with
    | ok n w1 =>
      obtain ⟨u, rfl⟩ := load_value ho hr
      rw [hr] at h3
      simp only [Oper.quietUpon] at h3
      rw [h3.1, h3.2]
    | halt y w1 => rw [hr] at h3; simp only [Oper.quietUpon] at h3
  · exact .inr h

/-- the head while the load `e` waits -/
def HE (P : Program) (md : Region.Mode) (ops : Array Oper) (C : World → Prop) (L M : Array Bool → Act → Prop) (e : Nat) : Nat → Array Bool → Act → Prop
  | 0, ls, a => M ls a
  | f + 1, ls, a => Region.ready md ops ls ≠ [] ∧ ∀ i ∈ Region.ready md ops ls, (i = e ∧ qOp P ops C e (HQ P md ops C L (f + 1) (ls.setIfInBounds e true)) a) ∨ (i ≠ e ∧ qOp P ops C i (HE P md ops C L M e f (ls.setIfInBounds i true)) a)

theorem HE.any {g e : Nat} {L M : Array Bool → Act → Prop} {Q : Exit → Act → World → Prop} (hL : ∀ ls a w, C w → L ls a → wpAny P md ops Q g ls a w) (hM : ∀ ls a w, C w → M ls a → wpAny P md ops Q (g + 1) ls a w) (f : Nat) :
    ∀ ls a w, C w → HE P md ops C L M e f ls a → wpAny P md ops Q (f + (g + 1)) ls a w := by
  induction f with
  | zero => intro ls a w hw h; rw [Nat.zero_add]; exact hM ls a w hw h
  | succ f ih =>
    intro ls a w hw h
    rw [show f + 1 + (g + 1) = (f + (g + 1)) + 1 by omega]
    refine ⟨fun h0 => absurd h0 h.1, fun i hi => ?_⟩
    rcases h.2 i hi with ⟨rfl, hq⟩ | ⟨hne, hq⟩
    · exact wpOp_of_qOp hw (fun a' w' hw' h' => by rw [show f + (g + 1) = f + 1 + g by omega]; exact HQ.any hL (f + 1) _ a' w' hw' h') hq
    · exact wpOp_of_qOp hw (fun a' w' hw' h' => ih _ a' w' hw' h') hq

def FreeOf (md : Region.Mode) (ops : Array Oper) (oe : Oper) (e : Nat) (ls : Array Bool) : Prop :=
  ∀ j oj, ops[j]? = some oj → j ≠ e → ls.getD j true = false → (∀ d ∈ oj.after, Region.binds md d = true → d.on ≠ e) → oe.apart ops oj = true
theorem FreeOf.set {oe : Oper} {e j : Nat} {ls : Array Bool} (h : FreeOf md ops oe e ls) (hj : ls.getD j true = false) : FreeOf md ops oe e (ls.setIfInBounds j true) := fun k ok hk hki hku hf => by
  refine h k ok hk hki ?_ hf
  rcases Nat.decEq j k with hjk | rfl
  · rwa [getD_set_ne true hjk] at hku
  · exact hj
theorem not_after {e j : Nat} {ls : Array Bool} {oj : Oper} (hall : ∀ d ∈ oj.after, Region.binds md d = true → ls.getD d.on false = true) (he : ls.getD e true = false) : ∀ d ∈ oj.after, Region.binds md d = true → d.on ≠ e := fun d hd hb heq => by
  have := hall d hd hb
  rw [heq, getD_both he] at this
  cases this

theorem HE.of {e : Nat} {oe : Oper} {v : Value} {L : Array Bool → Act → Prop} (he : ops[e]? = some oe) (hsel : ∀ (j : Nat) (o : Oper) cs b, ops[j]? = some o → o.op ≠ .select cs b) (f : Nat) :
    ∀ ls a, FreeOf md ops oe e ls → e ∈ Region.ready md ops ls → YieldsIn P ops C oe v a → HQ P md ops C L f (ls.setIfInBounds e true) (a.put oe.dst v) →
      HE P md ops C L (fun ls a => FreeOf md ops oe e ls ∧ e ∈ Region.ready md ops ls ∧ YieldsIn P ops C oe v a ∧ L (ls.setIfInBounds e true) (a.put oe.dst v)) e f ls a := by
  induction f with
  | zero => intro ls a hf hr hy h; exact ⟨hf, hr, hy, h⟩
  | succ f ih =>
    intro ls a hf hr hy h
    refine ⟨List.ne_nil_of_mem hr, fun j hj => ?_⟩
    rcases Nat.decEq j e with hne | rfl
    · obtain ⟨hju, oj, hoj, hall⟩ := mem_ready.1 hj
      have step := qOp_put hoj (hf j oj hoj hne hju (not_after (j := j) hall (mem_ready.1 hr).1)) (fun cs b => hsel e oe cs b he) (fun cs b => hsel j oj cs b hoj) hy (h.2 j (ready_mono hj hne))
      refine .inr ⟨hne, qOp_mono (fun a' ⟨y', h'⟩ => ih _ a' (hf.set hju) (ready_mono hr (Ne.symm hne)) y' ?_) step⟩
      rw [Array.setIfInBounds_comm _ _ hne]; exact h'
    · exact .inl ⟨rfl, hy.qOp he h⟩

/-- **THE WALK**, a load `e` ahead: head, tail; behind the tail's first operation the world must still be one of the class -/
theorem wpAny_pickE {Q : Exit → Act → World → Prop} {ls : Array Bool} {a : Act} {w : World} {l : List Oper} {oe : Oper} {v : Value} {t : TypeId} {x : Operand} (n : Nat) (fl ks : List Nat) (t0 : Nat) (ts : List Nat) (e : Nat)
    (hB : floatB md l.toArray n (e :: fl) ks (t0 :: ts) (ls.setIfInBounds e true) = true) (hE : ((Region.ready md l.toArray ls).contains e && Region.free md l.toArray ls e && decide (e ≠ t0) && (match ts.head? with | some t1 => Region.waitsFor md l.toArray t1 e | none => true)) = true)
    (hk : ks.all (fun k => decide (k < l.length)) = true) (ht : ts.all (fun k => decide (k < l.length)) = true) (hC : C w) (he : l.toArray[e]? = some oe) (ho : oe.op = .load t x)
    (hQ : ∀ c a w, Q (.panic c) (a.put oe.dst v) w → Q (.panic c) a w) (hy : YieldsIn P l.toArray C oe v a)
    (h : wpQuiet P l.toArray C (fun a' => ∀ w', C w' → wpOp P l.toArray Q t0 (fun a1 w1 => C w1 ∧ wpList P l.toArray Q (ts.filterMap (fun k => l[k]?)) a1 w1) a' w') (ks.filterMap (fun k => l[k]?)) (a.put oe.dst v)) :
    wpAny P md l.toArray Q (ks.length + (ts.length + 1 + 1)) ls a w := by
  simp only [Bool.and_eq_true, decide_eq_true_eq] at hE
  obtain ⟨⟨⟨hr0, hf0⟩, het⟩, hw1⟩ := hE
  have hr : e ∈ Region.ready md l.toArray ls := by simpa using hr0
  simp only [floatB, Bool.and_eq_true, decide_eq_true_eq, List.all_eq_true] at hB
  obtain ⟨⟨⟨⟨⟨⟨⟨⟨⟨hsel, hs⟩, hc⟩, htn⟩, hkn⟩, hlex⟩, hsz⟩, hcl⟩, htl⟩, hfl⟩ := hB
  have inv : InvF md l.toArray n (e :: fl) (ls.setIfInBounds e true) := by
    refine ⟨hsz, fun j oj hj hl d hd hb => ?_, fun t ht ht' hf => ?_, hfl⟩
    · have h1 := hcl j (List.mem_range.2 (Array.getElem?_eq_some_iff.1 hj).1)
      rw [hl, hj] at h1
      simp only [Bool.not_true, Bool.false_or, Array.all_eq_true_iff_forall_mem] at h1
      have h2 := h1 d hd
      rw [hb] at h2
      simpa using h2
    · have h1 := htl t (List.mem_range.2 ht')
      simp only [Bool.or_eq_true, decide_eq_true_eq] at h1
      rcases h1 with (h1 | h1) | h1
      · omega
      · exact absurd (by simpa using h1) hf
      · simpa using h1
  have H := HQ.lex (P := P) (C := C) (ts := t0 :: ts) hsel hs hc htn ks _ _ (fun k hk => by have := hkn k hk; simpa using this) inv hlex (idxQ_of ks _ _ (pick_some ks hk) h)
  have hseln := fun j o cs b hj => Region.noSelect_spec hsel (j := j) (o := o) (cs := cs) (b := b) hj
  have HH := HE.of (md := md) he hseln _ ls a (Region.free_spec he hf0) hr hy H
  have hLw : ∀ ls a w, C w → (seqF md l.toArray (t0 :: ts) ls = true ∧ ∀ w', C w' → wpOp P l.toArray Q t0 (fun a1 w1 => C w1 ∧ wpList P l.toArray Q (ts.filterMap (fun k => l[k]?)) a1 w1) a w') → wpAny P md l.toArray Q (ts.length + 1) ls a w := fun ls a w hw hL =>
    wpAny_seqF (t0 :: ts) ls a w hL.1 (wpOp_mono (fun a1 w1 h1 => idxW_of ts _ a1 w1 (pick_some ts ht) h1.2) (hL.2 w hw))
  refine HE.any (g := ts.length + 1) hLw ?_ _ ls a w hC HH
  rintro ls a w hw ⟨hf, hr, hy, hL⟩
  refine ⟨fun h0 => absurd h0 (List.ne_nil_of_mem hr), fun i hi => ?_⟩
  rcases Nat.decEq i e with hne | rfl
  · have hseq := hL.1
    simp only [seqF, Bool.and_eq_true, decide_eq_true_eq] at hseq
    have hi2 := ready_mono hi hne
    rw [hseq.1] at hi2
    obtain rfl : i = t0 := by simpa using hi2
    obtain ⟨hiu, ot, hot, hall⟩ := mem_ready.1 hi
    have heu := (mem_ready.1 hr).1
    have h1 := hL.2 w hw
    have h2 := wpOp_putIf hot (hf i ot hot hne hiu (not_after (j := i) hall heu)) (fun cs b => hseln e oe cs b he) (fun cs b => hseln i ot cs b hot) hQ (yieldsIf_load ho hy) h1
    refine wpOp_mono (fun a' w' h3 => ?_) h2
    obtain ⟨y', hw', h4⟩ := h3
    have hr2 := ready_mono hr (Ne.symm hne)
    refine ⟨fun h0 => absurd h0 (List.ne_nil_of_mem hr2), fun j hj => ?_⟩
    rcases Nat.decEq j e with hje | rfl
    · exfalso
      have hj2 := ready_mono hj hje
      rw [Array.setIfInBounds_comm _ _ hne] at hj2
      cases ts with
      | nil =>
        have := hseq.2
        simp only [seqF, List.isEmpty_iff] at this
        rw [this] at hj2
        cases hj2
      | cons t1 r =>
        have := hseq.2
        simp only [seqF, Bool.and_eq_true, decide_eq_true_eq] at this
        rw [this.1] at hj2
        obtain rfl : j = t1 := by simpa using hj2
        simp only [List.head?_cons] at hw1
        obtain ⟨o1, ho1, d, hd, hb, hon⟩ := Region.waitsFor_spec hw1
        obtain ⟨_, o2, ho2, hall2⟩ := mem_ready.1 hj
        obtain rfl : o2 = o1 := Option.some.inj (ho2.symm.trans ho1)
        have h5 := hall2 d hd hb
        rw [hon, getD_set_ne false hne, getD_both heu] at h5
        cases h5
    · refine YieldsIf.wpOp he y' hw' ?_
      rw [Array.setIfInBounds_comm _ _ hne]
      exact wpAny_seqF ts _ _ _ hseq.2 (idxW_of ts _ _ _ (pick_some ts ht) h4)
  · exact wpOp_of_qOp hw (fun a' w' hw' h' => hLw _ a' w' hw' h') (hy.qOp he hL)
end

end Go.Proofs.Bell

/- A region that draws its order: loads are taken ahead under a condition, what is left goes by force. -/
namespace Go.Proofs.Bell
set_option linter.unusedVariables false
open Go.RowKit

section
variable {P : Program} {ops : Array Oper} {md : Region.Mode} {S : World → Prop}

def idxH (P : Program) (ops : Array Oper) (Q : Exit → Act → World → Prop) (S : World → Prop) : List Nat → Act → World → Prop
  | [], a, w => Q .normal a w
  | k :: r, a, w => wpOp P ops Q k (fun a' w' => S w' ∧ idxH P ops Q S r a' w') a w

theorem wpAnyH_seqF {Q : Exit → Act → World → Prop} : ∀ (ts : List Nat) (ls : Array Bool) (a : Act) (w : World), seqF md ops ts ls = true → idxH P ops Q S ts a w → wpAnyH P md ops Q S ts.length ls a w
  | [], ls, a, w, hB, h => ⟨by simpa [seqF] using hB, h⟩
  | k :: r, ls, a, w, hB, h => by
    simp only [seqF, Bool.and_eq_true, decide_eq_true_eq] at hB
    refine ⟨fun h1 => (by rw [hB.1] at h1; cases h1), fun i hi => ?_⟩
    rw [hB.1] at hi
    obtain rfl : i = k := by simpa using hi
    exact wpOp_mono (fun a' w' h' => ⟨h'.1, wpAnyH_seqF r _ a' w' hB.2 h'.2⟩) h

/-- one operation of the forced rest -/
theorem idxH_step {Q : Exit → Act → World → Prop} {k : Nat} {r : List Nat} {o : Oper} {a : Act} {w : World} (ho : ops[k]? = some o)
    (h : ∀ K' : Act → World → Prop, (∀ a w, S w → idxH P ops Q S r a w → K' a w) → if Region.wanted o (yielded ops a.tmps) = true then Oper.wp P o a w K' Q else K' (a.put o.dst undef) w) : idxH P ops Q S (k :: r) a w :=
  wpOp_step ho fun K hK => h K fun a w h1 h2 => hK a w ⟨h1, h2⟩
/-- one operation is taken ahead; its slot is written out -/
theorem takeH {Q : Exit → Act → World → Prop} {l : List Oper} (i : Nat) (d : Nat) (v : Value) {oi : Oper} {fuel : Nat} {listed : Array Bool} {a : Act} {w : World} (hi : l[i]? = some oi) (hd : oi.dst = some d)
    (hB : (Region.noSelect l.toArray && Region.free md l.toArray listed i && (Region.ready md l.toArray listed).contains i) = true)
    (hQ : ∀ c a w, Q (.panic c) (a.put oi.dst v) w → Q (.panic c) a w) (hw : Region.wanted oi (yielded l.toArray a.tmps) = true) (hy : ∀ w, S w → (execOp a.eval oi).run P w = .ok (.value v) w) (hS : S w)
    (h : wpAnyH P md l.toArray Q S fuel (listed.setIfInBounds i true) { a with tmps := a.tmps.setIfInBounds d v } w) : wpAnyH P md l.toArray Q S (fuel + 1) listed a w := by
  simp only [Bool.and_eq_true] at hB
  have e : a.put oi.dst v = { a with tmps := a.tmps.setIfInBounds d v } := by rw [hd]; rfl
  exact wpAnyH_take (by simpa using hi) hB.1.1 hB.1.2 hB.2 hQ (.inl ⟨hw, hy⟩) hS (by rw [e]; exact h)
theorem idxH_end {Q : Exit → Act → World → Prop} {a : Act} {w : World} (h : Q .normal a w) : idxH P ops Q S [] a w := h
/-- one operation of the forced rest, its slot written out -/
theorem idxH_stepL {Q : Exit → Act → World → Prop} {l : List Oper} {k : Nat} {r : List Nat} {o : Oper} {a : Act} {w : World} (ho : l[k]? = some o)
    (h : ∀ K' : Act → World → Prop, (∀ a w, S w → idxH P l.toArray Q S r a w → K' a w) → if Region.wanted o (yielded l.toArray a.tmps) = true then Oper.wp P o a w K' Q else K' (a.put o.dst undef) w) : idxH P l.toArray Q S (k :: r) a w :=
  idxH_step (by simpa using ho) h
/-- one operation that alone may come up now is carried out -/
theorem stepH {Q : Exit → Act → World → Prop} {l : List Oper} (k : Nat) {o : Oper} {fuel : Nat} {listed : Array Bool} {a : Act} {w : World} (hB : decide (Region.ready md l.toArray listed = [k]) = true) (ho : l[k]? = some o)
    (h : ∀ K' : Act → World → Prop, (∀ a w, S w → wpAnyH P md l.toArray Q S fuel (listed.setIfInBounds k true) a w → K' a w) → if Region.wanted o (yielded l.toArray a.tmps) = true then Oper.wp P o a w K' Q else K' (a.put o.dst undef) w) : wpAnyH P md l.toArray Q S (fuel + 1) listed a w := by
  have hr : Region.ready md l.toArray listed = [k] := of_decide_eq_true hB
  refine wpAnyH_all hr (by simp) fun i hi => ?_
  obtain rfl : i = k := by simpa using hi
  exact wpOp_step (by simpa using ho) fun K hK => h K fun a w h1 h2 => hK a w ⟨h1, h2⟩
/-- one of those that may come up now: the other way is left to be shown apart -/
theorem stepH2 {Q : Exit → Act → World → Prop} {l : List Oper} (j k : Nat) {oj ok : Oper} {fuel : Nat} {listed : Array Bool} {a : Act} {w : World} (hB : decide (Region.ready md l.toArray listed = [j, k]) = true) (hj : l[j]? = some oj) (hk : l[k]? = some ok)
    (h1 : ∀ K' : Act → World → Prop, (∀ a w, S w → wpAnyH P md l.toArray Q S fuel (listed.setIfInBounds j true) a w → K' a w) → if Region.wanted oj (yielded l.toArray a.tmps) = true then Oper.wp P oj a w K' Q else K' (a.put oj.dst undef) w)
    (h2 : ∀ K' : Act → World → Prop, (∀ a w, S w → wpAnyH P md l.toArray Q S fuel (listed.setIfInBounds k true) a w → K' a w) → if Region.wanted ok (yielded l.toArray a.tmps) = true then Oper.wp P ok a w K' Q else K' (a.put ok.dst undef) w) : wpAnyH P md l.toArray Q S (fuel + 1) listed a w := by
  have hr : Region.ready md l.toArray listed = [j, k] := of_decide_eq_true hB
  refine wpAnyH_all hr (by simp) fun i hi => ?_
  have hi' : i = j ∨ i = k := by simpa using hi
  rcases hi' with rfl | rfl
  · exact wpOp_step (by simpa using hj) fun K hK => h1 K fun a w h1 h2 => hK a w ⟨h1, h2⟩
  · exact wpOp_step (by simpa using hk) fun K hK => h2 K fun a w h1 h2 => hK a w ⟨h1, h2⟩
theorem doneH {Q : Exit → Act → World → Prop} {l : List Oper} {listed : Array Bool} {a : Act} {w : World} {fuel : Nat} (hB : decide (Region.ready md l.toArray listed = []) = true) (h : Q .normal a w) : wpAnyH P md l.toArray Q S fuel listed a w :=
  wpAnyH_done (of_decide_eq_true hB) h fuel
/-- a stronger condition on the worlds serves as well -/
theorem monoH {Q : Exit → Act → World → Prop} {S2 : World → Prop} (hS : ∀ w, S2 w → S w) : ∀ (fuel : Nat) (listed : Array Bool) (a : Act) (w : World), wpAnyH P md ops Q S2 fuel listed a w → wpAnyH P md ops Q S fuel listed a w
  | 0, _, _, _, h => h
  | fuel + 1, _, _, _, h => ⟨h.1, fun i hi => wpOp_mono (fun a' w' h' => ⟨hS _ h'.1, monoH hS fuel _ a' w' h'.2⟩) (h.2 i hi)⟩
end

end Go.Proofs.Bell

/- A region that draws its order: loads are taken ahead under a condition that the last operations need not keep. -/
namespace Go.Proofs.Bell
set_option linter.unusedVariables false
open Go.RowKit

section
variable {P : Program} {ops : Array Oper} {md : Region.Mode} {Q : Exit → Act → World → Prop} {S : World → Prop} {X : List Nat}

/-- whatever order is picked, and S holds behind every operation that is not in X -/
def wpAnyX (P : Program) (md : Region.Mode) (ops : Array Oper) (Q : Exit → Act → World → Prop) (S : World → Prop) (X : List Nat) : Nat → Array Bool → Act → World → Prop
  | 0, listed, a, w => Region.ready md ops listed = [] ∧ Q .normal a w
  | fuel + 1, listed, a, w => (Region.ready md ops listed = [] → Q .normal a w) ∧ ∀ i ∈ Region.ready md ops listed, wpOp P ops Q i (fun a' w' => (X.contains i = false → S w') ∧ wpAnyX P md ops Q S X fuel (listed.setIfInBounds i true) a' w') a w

theorem wpAny_of_X : ∀ (fuel : Nat) (listed : Array Bool) (a : Act) (w : World), wpAnyX P md ops Q S X fuel listed a w → wpAny P md ops Q fuel listed a w
  | 0, _, _, _, h => h
  | fuel + 1, _, _, _, h => ⟨h.1, fun i hi => wpOp_mono (fun a' w' h' => wpAny_of_X fuel _ a' w' h'.2) (h.2 i hi)⟩

theorem wpAnyX_first {i : Nat} {oi : Oper} {v : Value} (hi : ops[i]? = some oi) (hsel : ∀ (j : Nat) (o : Oper) cs b, ops[j]? = some o → o.op ≠ .select cs b)
    (hQ : ∀ c a w, Q (.panic c) (a.put oi.dst v) w → Q (.panic c) a w) (hX : ∀ j, X.contains j = true → Region.waitsFor md ops j i = true) :
    ∀ (fuel : Nat) (listed : Array Bool) (a : Act) (w : World),
      (∀ j oj, ops[j]? = some oj → j ≠ i → listed.getD j true = false → (∀ e ∈ oj.after, Region.binds md e = true → e.on ≠ i) → oi.apart ops oj = true) →
      i ∈ Region.ready md ops listed → YieldsIf P ops S oi v a → S w →
      wpAnyX P md ops Q S X fuel (listed.setIfInBounds i true) (a.put oi.dst v) w → wpAnyX P md ops Q S X (fuel + 1) listed a w := by
  intro fuel
  induction fuel with
  | zero =>
    intro listed a w _ hr hy hS H
    refine ⟨fun h => (by rw [h] at hr; cases hr), fun j hj => ?_⟩
    by_cases hji : j = i
    · subst hji; exact hy.wpOp hi hS ⟨fun _ => hS, H⟩
    · have := ready_mono hj hji
      rw [H.1] at this
      cases this
  | succ fuel ih =>
    intro listed a w hfree hr hy hS H
    refine ⟨fun h => (by rw [h] at hr; cases hr), fun j hj => ?_⟩
    by_cases hji : j = i
    · subst hji; exact hy.wpOp hi hS ⟨fun _ => hS, H⟩
    · have h1 := H.2 j (ready_mono hj hji)
      obtain ⟨hjun, oj, hoj, hall⟩ := mem_ready.1 hj
      have hnot : ∀ e ∈ oj.after, Region.binds md e = true → e.on ≠ i := not_after (j := j) hall (mem_ready.1 hr).1
      have hxj : X.contains j = false := by
        cases hc : X.contains j
        · rfl
        · obtain ⟨o', ho', e, he, hb, hon⟩ := Region.waitsFor_spec (hX j hc)
          obtain rfl : o' = oj := Option.some.inj (ho'.symm.trans hoj)
          exact absurd hon (hnot e he hb)
      have h2 := wpOp_putIf hoj (hfree j oj hoj hji hjun hnot) (fun cs b => hsel i oi cs b hi) (fun cs b => hsel j oj cs b hoj) hQ hy h1
      have hfree' : ∀ k ok, ops[k]? = some ok → k ≠ i → (listed.setIfInBounds j true).getD k true = false →
          (∀ e ∈ ok.after, Region.binds md e = true → e.on ≠ i) → oi.apart ops ok = true := fun k ok hk hki hun hno => by
        refine hfree k ok hk hki ?_ hno
        by_cases hjk : j = k
        · subst hjk; exact hjun
        · rw [getD_set_ne true hjk] at hun; exact hun
      refine wpOp_mono (fun a' w' h3 => ⟨h3.2.1, ih (listed.setIfInBounds j true) a' w' hfree' (ready_mono hr (Ne.symm hji)) h3.1 (h3.2.1 hxj) ?_⟩) h2
      rw [Array.setIfInBounds_comm _ _ hji]
      exact h3.2.2

theorem startX {l : List Oper} {id : Nat} {a : Act} {w : World} (S : World → Prop) (X : List Nat) (hm : P.follows .mixedOrders = true)
    (h : wpAnyX P .any l.toArray Q S X l.toArray.size (Array.replicate l.toArray.size false) a w.drew) : (Code.region id l.toArray true).wp P Q a w :=
  wp_region_any hm (wpAny_of_X _ _ _ _ h)

/-- one operation is taken ahead; its slot is written out -/
theorem takeX {l : List Oper} (i : Nat) (d : Nat) (v : Value) {oi : Oper} {fuel : Nat} {listed : Array Bool} {a : Act} {w : World} (hi : l[i]? = some oi) (hd : oi.dst = some d)
    (hB : (Region.noSelect l.toArray && Region.free md l.toArray listed i && (Region.ready md l.toArray listed).contains i && X.all fun j => Region.waitsFor md l.toArray j i) = true)
    (hQ : ∀ c a w, Q (.panic c) (a.put oi.dst v) w → Q (.panic c) a w) (hw : Region.wanted oi (yielded l.toArray a.tmps) = true) (hy : ∀ w, S w → (execOp a.eval oi).run P w = .ok (.value v) w) (hS : S w)
    (h : wpAnyX P md l.toArray Q S X fuel (listed.setIfInBounds i true) { a with tmps := a.tmps.setIfInBounds d v } w) : wpAnyX P md l.toArray Q S X (fuel + 1) listed a w := by
  simp only [Bool.and_eq_true] at hB
  have e : a.put oi.dst v = { a with tmps := a.tmps.setIfInBounds d v } := by rw [hd]; rfl
  have hi' : l.toArray[i]? = some oi := by simpa using hi
  exact wpAnyX_first hi' (Region.noSelect_spec hB.1.1.1) hQ (fun j hj => List.all_eq_true.1 hB.2 j (by simpa using hj)) fuel listed a w (Region.free_spec hi' hB.1.1.2) (by simpa using hB.1.2) (.inl ⟨hw, hy⟩) hS (by rw [e]; exact h)
/-- one that is guarded away is passed by -/
theorem takeXu {l : List Oper} (i : Nat) (d : Nat) {oi : Oper} {fuel : Nat} {listed : Array Bool} {a : Act} {w : World} (hi : l[i]? = some oi) (hd : oi.dst = some d)
    (hB : (Region.noSelect l.toArray && Region.free md l.toArray listed i && (Region.ready md l.toArray listed).contains i && X.all fun j => Region.waitsFor md l.toArray j i) = true)
    (hQ : ∀ c a w, Q (.panic c) (a.put oi.dst undef) w → Q (.panic c) a w) (hw : Region.wanted oi (yielded l.toArray a.tmps) = false) (hS : S w)
    (h : wpAnyX P md l.toArray Q S X fuel (listed.setIfInBounds i true) { a with tmps := a.tmps.setIfInBounds d undef } w) : wpAnyX P md l.toArray Q S X (fuel + 1) listed a w := by
  simp only [Bool.and_eq_true] at hB
  have e : a.put oi.dst undef = { a with tmps := a.tmps.setIfInBounds d undef } := by rw [hd]; rfl
  have hi' : l.toArray[i]? = some oi := by simpa using hi
  exact wpAnyX_first hi' (Region.noSelect_spec hB.1.1.1) hQ (fun j hj => List.all_eq_true.1 hB.2 j (by simpa using hj)) fuel listed a w (Region.free_spec hi' hB.1.1.2) (by simpa using hB.1.2) (.inr ⟨hw, rfl⟩) hS (by rw [e]; exact h)
theorem stepX {l : List Oper} (k : Nat) {o : Oper} {fuel : Nat} {listed : Array Bool} {a : Act} {w : World} (hB : decide (Region.ready md l.toArray listed = [k]) = true) (ho : l[k]? = some o)
    (h : ∀ K' : Act → World → Prop, (∀ a w, (X.contains k = false → S w) → wpAnyX P md l.toArray Q S X fuel (listed.setIfInBounds k true) a w → K' a w) → if Region.wanted o (yielded l.toArray a.tmps) = true then Oper.wp P o a w K' Q else K' (a.put o.dst undef) w) : wpAnyX P md l.toArray Q S X (fuel + 1) listed a w := by
  have hr : Region.ready md l.toArray listed = [k] := of_decide_eq_true hB
  refine ⟨fun h0 => (by rw [hr] at h0; cases h0), fun i hi => ?_⟩
  rw [hr] at hi
  obtain rfl : i = k := by simpa using hi
  exact wpOp_step (by simpa using ho) fun K hK => h K fun a w h1 h2 => hK a w ⟨h1, h2⟩
/-- one of the two that may come up -/
theorem stepX2 {l : List Oper} (j k : Nat) {oj ok : Oper} {fuel : Nat} {listed : Array Bool} {a : Act} {w : World} (hB : decide (Region.ready md l.toArray listed = [j, k]) = true) (hj : l[j]? = some oj) (hk : l[k]? = some ok)
    (h1 : ∀ K' : Act → World → Prop, (∀ a w, (X.contains j = false → S w) → wpAnyX P md l.toArray Q S X fuel (listed.setIfInBounds j true) a w → K' a w) → if Region.wanted oj (yielded l.toArray a.tmps) = true then Oper.wp P oj a w K' Q else K' (a.put oj.dst undef) w)
    (h2 : ∀ K' : Act → World → Prop, (∀ a w, (X.contains k = false → S w) → wpAnyX P md l.toArray Q S X fuel (listed.setIfInBounds k true) a w → K' a w) → if Region.wanted ok (yielded l.toArray a.tmps) = true then Oper.wp P ok a w K' Q else K' (a.put ok.dst undef) w) : wpAnyX P md l.toArray Q S X (fuel + 1) listed a w := by
  have hr : Region.ready md l.toArray listed = [j, k] := of_decide_eq_true hB
  refine ⟨fun h0 => (by rw [hr] at h0; cases h0), fun i hi => ?_⟩
  rw [hr] at hi
  have hi' : i = j ∨ i = k := by simpa using hi
  rcases hi' with rfl | rfl
  · exact wpOp_step (by simpa using hj) fun K hK => h1 K fun a w h1 h2 => hK a w ⟨h1, h2⟩
  · exact wpOp_step (by simpa using hk) fun K hK => h2 K fun a w h1 h2 => hK a w ⟨h1, h2⟩
theorem doneX {l : List Oper} {listed : Array Bool} {a : Act} {w : World} (hB : decide (Region.ready md l.toArray listed = []) = true) (h : Q .normal a w) : ∀ fuel, wpAnyX P md l.toArray Q S X fuel listed a w
  | 0 => ⟨of_decide_eq_true hB, h⟩
  | _ + 1 => ⟨fun _ => h, by rw [of_decide_eq_true hB]; simp⟩
end

end Go.Proofs.Bell

