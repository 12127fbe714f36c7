/- A region that draws its order: some operations are taken ahead, the head leaves the world in a class, the tail follows by force. -/
import Derived.Test.YtgdadbmhdljcdaaGreatDoorGF
namespace Go.Proofs.Bell
set_option linter.unusedVariables false
open Go.RowKit

section
variable {P : Program} {ops : Array Oper} {md : Region.Mode} {C : World → Prop}

/-- the head, whatever order is picked: each operation that may come up is quiet in the class -/
def HQ (P : Program) (md : Region.Mode) (ops : Array Oper) (C : World → Prop) (L : Array Bool → Act → Prop) : Nat → Array Bool → Act → Prop
  | 0, ls, a => L ls a
  | f + 1, ls, a => Region.ready md ops ls ≠ [] ∧ ∀ i ∈ Region.ready md ops ls, qOp P ops C i (HQ P md ops C L f (ls.setIfInBounds i true)) a

theorem HQ.any {g : Nat} {L : Array Bool → Act → Prop} {Q : Exit → Act → World → Prop} (hL : ∀ ls a w, C w → L ls a → wpAny P md ops Q g ls a w) (f : Nat) :
    ∀ ls a w, C w → HQ P md ops C L f ls a → wpAny P md ops Q (f + g) ls a w := by
  induction f with
  | zero => intro ls a w hw h; rw [Nat.zero_add]; exact hL ls a w hw h
  | succ f ih =>
    intro ls a w hw h
    rw [show f + 1 + g = (f + g) + 1 by omega]
    exact ⟨fun h0 => absurd h0 h.1, fun i hi => wpOp_of_qOp hw (fun a' w' hw' h' => ih _ a' w' hw' h') (h.2 i hi)⟩

/-- where the walk stands: what is listed is closed, the floats are listed, the tail is not -/
structure InvF (md : Region.Mode) (ops : Array Oper) (n : Nat) (fl : List Nat) (ls : Array Bool) : Prop where
  size : ls.size = ops.size
  closed : ∀ j oj, ops[j]? = some oj → ls.getD j false = true → ∀ e ∈ oj.after, Region.binds md e = true → ls.getD e.on false = true
  tail : ∀ t, n ≤ t → t < ops.size → t ∉ fl → ls.getD t true = false
  floats : ∀ t, t ∈ fl → ls.getD t false = true

theorem InvF.set {n i : Nat} {fl : List Nat} {ls : Array Bool} (inv : InvF md ops n fl ls) (hi : i ∈ Region.ready md ops ls) (hin : i < n) : InvF md ops n fl (ls.setIfInBounds i true) := by
  obtain ⟨_, oi, hoi, hall⟩ := mem_ready.1 hi
  refine ⟨by simp [inv.size], fun j oj hj hl e he hb => ?_, fun t ht ht' hf => by rw [getD_set_ne true (by omega)]; exact inv.tail t ht ht' hf, fun t ht => getD_set_true (inv.floats t ht)⟩
  by_cases hij : i = j
  · subst hij
    obtain rfl : oj = oi := Option.some.inj (hj.symm.trans hoi)
    exact getD_set_true (hall e he hb)
  · rw [getD_set_ne false hij] at hl
    exact getD_set_true (inv.closed j oj hj hl e he hb)

def sinkF (md : Region.Mode) (ops : Array Oper) (n : Nat) (fl : List Nat) : Bool :=
  (List.range n).all fun i => fl.contains i || (List.range (n + 1)).any fun j => decide (i < j) && !fl.contains j && Region.waitsFor md ops j i
def chainF (md : Region.Mode) (ops : Array Oper) (n : Nat) (fl : List Nat) : Bool :=
  (List.range ops.size).all fun t => decide (t ≤ n) || fl.contains t || (List.range t).any fun p => decide (n ≤ p) && !fl.contains p && Region.waitsFor md ops t p

/-- while one of the head waits, none of the tail may come up -/
theorem waitsF {n : Nat} {fl : List Nat} {ls : Array Bool} (hs : sinkF md ops n fl = true) (hc : chainF md ops n fl = true) (inv : InvF md ops n fl ls) :
    ∀ (d i : Nat), n - i = d → i < n → i ∉ fl → ls.getD i true = false → ∀ t, n ≤ t → t ∉ Region.ready md ops ls := by
  intro d
  induction d using Nat.strongRecOn with
  | _ d ih =>
    intro i hd hi hif hun t ht hr
    obtain ⟨h0, ot, hot, hall⟩ := mem_ready.1 hr
    have htlt : t < ops.size := (Array.getElem?_eq_some_iff.1 hot).1
    by_cases htf : t ∈ fl
    · have h1 := inv.floats t htf
      rw [getD_both h0] at h1
      cases h1
    · by_cases htn : t = n
      · subst htn
        have h1 := List.all_eq_true.1 hs i (List.mem_range.2 hi)
        rw [Bool.or_eq_true] at h1
        rcases h1 with h1 | h1
        · exact hif (by simpa using h1)
        · obtain ⟨j, hj, hj2⟩ := List.any_eq_true.1 h1
          simp only [Bool.and_eq_true, decide_eq_true_eq] at hj2
          obtain ⟨oj, hoj, e, he, hb, hon⟩ := Region.waitsFor_spec hj2.2
          have hjle : j ≤ t := by have := List.mem_range.1 hj; omega
          by_cases hjt : j = t
          · subst hjt
            obtain rfl : oj = ot := Option.some.inj (hoj.symm.trans hot)
            have h2 := hall e he hb
            rw [hon, getD_both hun] at h2
            cases h2
          · cases hl : ls.getD j false with
            | true =>
              have h2 := inv.closed j oj hoj hl e he hb
              rw [hon, getD_both hun] at h2
              cases h2
            | false =>
              have hjs : j < ls.size := by rw [inv.size]; omega
              exact ih (t - j) (by omega) j rfl (by omega) (by simpa using hj2.1.2) (getD_in hjs hl) t (Nat.le_refl _) hr
      · have h1 := List.all_eq_true.1 hc t (List.mem_range.2 htlt)
        simp only [Bool.or_eq_true, decide_eq_true_eq] at h1
        rcases h1 with (h1 | h1) | h1
        · omega
        · exact htf (by simpa using h1)
        · obtain ⟨p, hp, hp2⟩ := List.any_eq_true.1 h1
          simp only [Bool.and_eq_true, decide_eq_true_eq] at hp2
          obtain ⟨o', ho', e, he, hb, hon⟩ := Region.waitsFor_spec hp2.2
          obtain rfl : o' = ot := Option.some.inj (ho'.symm.trans hot)
          have h2 := hall e he hb
          rw [hon, getD_both (inv.tail p hp2.1.1 (by have := List.mem_range.1 hp; omega) (by simpa using hp2.1.2))] at h2
          cases h2

/-- an operation of the head that may come up now may be taken first -/
theorem HQ.first {n i : Nat} {fl : List Nat} {oi : Oper} {v : Value} {L : Array Bool → Act → Prop} (hi : ops[i]? = some oi) (hsel : ∀ (j : Nat) (o : Oper) cs b, ops[j]? = some o → o.op ≠ .select cs b)
    (hs : sinkF md ops n fl = true) (hc : chainF md ops n fl = true) (hin : i < n) (hif : i ∉ fl) (hL : ∀ ls a, L ls a → ∀ j ∈ Region.ready md ops ls, n ≤ j) (f : Nat) :
    ∀ ls a, InvF md ops n fl ls →
      (∀ j oj, ops[j]? = some oj → j ≠ i → ls.getD j true = false → (∀ e ∈ oj.after, Region.binds md e = true → e.on ≠ i) → oi.apart ops oj = true) →
      i ∈ Region.ready md ops ls → YieldsIn P ops C oi v a → HQ P md ops C L f (ls.setIfInBounds i true) (a.put oi.dst v) → HQ P md ops C L (f + 1) ls a := by
  have low : ∀ ls, InvF md ops n fl ls → i ∈ Region.ready md ops ls → ∀ j ∈ Region.ready md ops ls, j < n := fun ls inv hr j hj =>
    Nat.lt_of_not_le fun h => waitsF hs hc inv _ i rfl hin hif (mem_ready.1 hr).1 j h hj
  induction f with
  | zero =>
    intro ls a inv hap hr hy h
    refine ⟨List.ne_nil_of_mem hr, fun j hj => ?_⟩
    rcases Nat.decEq j i with hne | rfl
    · exact absurd (low ls inv hr j hj) (Nat.not_lt.2 (hL _ _ h j (ready_mono hj hne)))
    · exact hy.qOp hi h
  | succ f ih =>
    intro ls a inv hap hr hy h
    refine ⟨List.ne_nil_of_mem hr, fun j hj => ?_⟩
    rcases Nat.decEq j i with hne | rfl
    · obtain ⟨hju, oj, hoj, hall⟩ := mem_ready.1 hj
      have hiu := (mem_ready.1 hr).1
      have free : ∀ e ∈ oj.after, Region.binds md e = true → e.on ≠ i := fun e he hb heq => by
        have := hall e he hb
        rw [heq, getD_both hiu] at this
        cases this
      have step := qOp_put hoj (hap j oj hoj hne hju free) (fun cs b => hsel i oi cs b hi) (fun cs b => hsel j oj cs b hoj) hy (h.2 j (ready_mono hj hne))
      refine qOp_mono (fun a' ⟨y', h'⟩ => ih _ a' (inv.set hj (low ls inv hr j hj)) (fun k ok hk hki hku hf => ?_) (ready_mono hr (Ne.symm hne)) y' ?_) step
      · refine hap k ok hk hki ?_ hf
        rcases Nat.decEq j k with hjk | rfl
        · rwa [getD_set_ne true hjk] at hku
        · exact hju
      · rw [Array.setIfInBounds_comm _ _ hne]; exact h'
    · exact hy.qOp hi h

/-- the tail's order is forced -/
def seqF (md : Region.Mode) (ops : Array Oper) : List Nat → Array Bool → Bool
  | [], ls => (Region.ready md ops ls).isEmpty
  | k :: r, ls => decide (Region.ready md ops ls = [k]) && seqF md ops r (ls.setIfInBounds k true)
/-- the head's lexical order -/
def lexF (md : Region.Mode) (ops : Array Oper) (ts : List Nat) : List Nat → Array Bool → Bool
  | [], ls => seqF md ops ts ls
  | k :: r, ls => (Region.ready md ops ls).contains k && Region.free md ops ls k && lexF md ops ts r (ls.setIfInBounds k true)

def idxW (P : Program) (ops : Array Oper) (Q : Exit → Act → World → Prop) : List Nat → Act → World → Prop
  | [], a, w => Q .normal a w
  | k :: r, a, w => wpOp P ops Q k (idxW P ops Q r) a w
def idxQ (P : Program) (ops : Array Oper) (C : World → Prop) (R : Act → Prop) : List Nat → Act → Prop
  | [], a => R a
  | k :: r, a => qOp P ops C k (idxQ P ops C R r) a

theorem idxW_of {Q : Exit → Act → World → Prop} : ∀ (ks : List Nat) (os : List Oper) (a : Act) (w : World), os.map some = ks.map (fun k => ops[k]?) → wpList P ops Q os a w → idxW P ops Q ks a w
  | [], [], _, _, _, h => h
  | [], _ :: _, _, _, he, _ => by simp at he
  | _ :: _, [], _, _, he, _ => by simp at he
  | k :: r, o :: os, a, w, he, h => by
    simp only [List.map_cons, List.cons.injEq] at he
    have hw : wpOp P ops Q k (wpList P ops Q os) a w := by unfold wpOp; simp only [← he.1]; exact h
    exact wpOp_mono (fun a' w' h' => idxW_of r os a' w' he.2 h') hw
theorem idxQ_of {R : Act → Prop} : ∀ (ks : List Nat) (os : List Oper) (a : Act), os.map some = ks.map (fun k => ops[k]?) → wpQuiet P ops C R os a → idxQ P ops C R ks a
  | [], [], _, _, h => h
  | [], _ :: _, _, he, _ => by simp at he
  | _ :: _, [], _, he, _ => by simp at he
  | k :: r, o :: os, a, he, h => by
    simp only [List.map_cons, List.cons.injEq] at he
    have hq : qOp P ops C k (wpQuiet P ops C R os) a := by unfold qOp; simp only [← he.1]; exact h
    exact qOp_mono (fun a' h' => idxQ_of r os a' he.2 h') hq

theorem seqF_ready {n : Nat} {ts : List Nat} {ls : Array Bool} (ht : ∀ t ∈ ts, n ≤ t) (h : seqF md ops ts ls = true) : ∀ j ∈ Region.ready md ops ls, n ≤ j := by
  cases ts with
  | nil => intro j hj; simp only [seqF, List.isEmpty_iff] at h; rw [h] at hj; cases hj
  | cons k r =>
    intro j hj
    simp only [seqF, Bool.and_eq_true, decide_eq_true_eq] at h
    rw [h.1] at hj
    have : j = k := by simpa using hj
    exact this ▸ ht k (by simp)
theorem wpAny_seqF {Q : Exit → Act → World → Prop} : ∀ (ts : List Nat) (ls : Array Bool) (a : Act) (w : World), seqF md ops ts ls = true → idxW P ops Q ts a w → wpAny P md ops Q ts.length ls a w
  | [], _, _, _, hB, h => ⟨by simpa [seqF] using hB, h⟩
  | k :: r, ls, a, w, hB, h => by
    simp only [seqF, Bool.and_eq_true, decide_eq_true_eq] at hB
    refine ⟨fun h1 => (by rw [hB.1] at h1; cases h1), fun i hi => ?_⟩
    rw [hB.1] at hi
    obtain rfl : i = k := by simpa using hi
    exact wpOp_mono (fun a' w' h' => wpAny_seqF r _ a' w' hB.2 h') h

theorem HQ.lex {n : Nat} {fl ts : List Nat} {R : Act → Prop} (hsel : Region.noSelect ops = true) (hs : sinkF md ops n fl = true) (hc : chainF md ops n fl = true) (ht : ∀ t ∈ ts, n ≤ t) :
    ∀ (ks : List Nat) ls a, (∀ k ∈ ks, k < n ∧ k ∉ fl) → InvF md ops n fl ls → lexF md ops ts ks ls = true → idxQ P ops C R ks a →
      HQ P md ops C (fun ls' a' => seqF md ops ts ls' = true ∧ R a') ks.length ls a := by
  intro ks
  induction ks with
  | nil => intro ls a _ _ hB h; exact ⟨by simpa [lexF] using hB, h⟩
  | cons k r ih =>
    intro ls a hk inv hB h
    simp only [lexF, Bool.and_eq_true] at hB
    have hr : k ∈ Region.ready md ops ls := by simpa using hB.1.1
    obtain ⟨_, o, h0, _⟩ := mem_ready.1 hr
    obtain ⟨v, hy, hR⟩ := yieldsIn_of_qOp h0 h
    have hkn := hk k (by simp)
    refine HQ.first h0 (Region.noSelect_spec hsel) hs hc hkn.1 hkn.2 (fun ls' a' hL => seqF_ready ht hL.1) _ ls a inv (Region.free_spec h0 hB.1.2) hr hy ?_
    exact ih _ _ (fun j hj => hk j (by simp [hj])) (inv.set hr hkn.1) hB.2 hR

def floatB (md : Region.Mode) (ops : Array Oper) (n : Nat) (fl ks ts : List Nat) (ls : Array Bool) : Bool :=
  Region.noSelect ops && sinkF md ops n fl && chainF md ops n fl && (ts.all fun t => decide (n ≤ t)) && (ks.all fun k => decide (k < n) && !fl.contains k) && lexF md ops ts ks ls
    && decide (ls.size = ops.size) && ((List.range ops.size).all fun j => !ls.getD j false || match ops[j]? with | some oj => oj.after.all (fun e => !Region.binds md e || ls.getD e.on false) | none => true)
    && ((List.range ops.size).all fun t => decide (t < n) || fl.contains t || !ls.getD t true) && (fl.all fun t => ls.getD t false)

/-- **THE WALK**, once the floats are taken: the head, quiet in the class, then the tail -/
theorem wpAny_float {Q : Exit → Act → World → Prop} {ls : Array Bool} {a : Act} {w : World} {hd tl : List Oper} (n : Nat) (fl ks ts : List Nat) (hB : floatB md ops n fl ks ts ls = true) (hC : C w)
    (hh : hd.map some = ks.map (fun k => ops[k]?)) (ht : tl.map some = ts.map (fun k => ops[k]?))
    (h : wpQuiet P ops C (fun a' => ∀ w', C w' → wpList P ops Q tl a' w') hd a) : wpAny P md ops Q (ks.length + ts.length) ls a w := by
  simp only [floatB, Bool.and_eq_true, decide_eq_true_eq, List.all_eq_true] at hB
  obtain ⟨⟨⟨⟨⟨⟨⟨⟨⟨hsel, hs⟩, hc⟩, htn⟩, hkn⟩, hlex⟩, hsz⟩, hcl⟩, htl⟩, hfl⟩ := hB
  have inv : InvF md ops n fl ls := by
    refine ⟨hsz, fun j oj hj hl e he hb => ?_, fun t ht ht' hf => ?_, hfl⟩
    · have h1 := hcl j (List.mem_range.2 (Array.getElem?_eq_some_iff.1 hj).1)
      rw [hl, hj] at h1
      simp only [Bool.not_true, Bool.false_or, Array.all_eq_true_iff_forall_mem] at h1
      have h2 := h1 e he
      rw [hb] at h2
      simpa using h2
    · have h1 := htl t (List.mem_range.2 ht')
      simp only [Bool.or_eq_true, decide_eq_true_eq] at h1
      rcases h1 with (h1 | h1) | h1
      · omega
      · exact absurd (by simpa using h1) hf
      · simpa using h1
  have H := HQ.lex (C := C) (ts := ts) hsel hs hc htn ks ls a (fun k hk => by have := hkn k hk; simpa using this) inv hlex (idxQ_of ks hd a hh h)
  exact HQ.any (Q := Q) (g := ts.length) (fun ls a' w' hw' hL => wpAny_seqF ts ls a' w' hL.1 (idxW_of ts tl a' w' ht (hL.2 w' hw'))) _ _ _ _ hC H

theorem pick_some {l : List Oper} : ∀ ks : List Nat, ks.all (fun k => decide (k < l.length)) = true → (ks.filterMap (fun k => l[k]?)).map some = ks.map (fun k => l.toArray[k]?)
  | [], _ => rfl
  | k :: r, h => by
    simp only [List.all_cons, Bool.and_eq_true, decide_eq_true_eq] at h
    have hk : l[k]? = some l[k] := List.getElem?_eq_getElem h.1
    simp only [List.filterMap_cons, hk, List.map_cons, pick_some r h.2, List.getElem?_toArray]

/-- .. the lists picked by their indices -/
theorem wpAny_pick {Q : Exit → Act → World → Prop} {ls : Array Bool} {a : Act} {w : World} {l : List Oper} (n : Nat) (fl ks ts : List Nat) (hB : floatB md l.toArray n fl ks ts ls = true)
    (hk : ks.all (fun k => decide (k < l.length)) = true) (ht : ts.all (fun k => decide (k < l.length)) = true) (hC : C w)
    (h : wpQuiet P l.toArray C (fun a' => ∀ w', C w' → wpList P l.toArray Q (ts.filterMap (fun k => l[k]?)) a' w') (ks.filterMap (fun k => l[k]?)) a) : wpAny P md l.toArray Q (ks.length + ts.length) ls a w :=
  wpAny_float n fl ks ts hB hC (pick_some ks hk) (pick_some ts ht) h
end

end Go.Proofs.Bell
