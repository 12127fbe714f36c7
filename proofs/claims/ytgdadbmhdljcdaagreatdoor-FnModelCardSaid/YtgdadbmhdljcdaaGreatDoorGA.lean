/- Several texts of the proofs in one: Base, Lift, Math, Ints, Mem, Nums. -/
import Derived.Test.YtgdadbmhdljcdaaGreatDoorRows
import Derived.BigQuiet
import Derived.Deep.QuietTactic
import Derived.Handy
import Derived.Lib.Hide
import Derived.Lib.Strings
import Derived.ProofKit
import Derived.WalkKit
import Derived.WalkLawsBesides
import Derived.WalkSpells
/- The forms of the contracts, and small facts that every walk wants. -/
namespace Go.Proofs.Bell
set_option linter.unusedVariables false
open Go.RowKit

/-- it returns `v`; the world is the same -/
def RetS (v : Value) (w : World) (e : Ending) (w' : World) : Prop := e = .returned v ∧ w = w'
/-- it returns `v`; the world has drawn -/
def RetD (v : Value) (w : World) (e : Ending) (w' : World) : Prop := e = .returned v ∧ ∃ n, w' = w.drewN n
/-- it returns `v`; what was there reads as before -/
def RetB (v : Value) (w : World) (e : Ending) (w' : World) : Prop := e = .returned v ∧ Below w.heap.size w w'

theorem RetS.mk {v v' : Value} {w : World} (h : v' = v) : RetS v w (.returned v') w := ⟨by rw [h], rfl⟩
theorem RetD.mk {v v' : Value} {w w' : World} (h : v' = v) (hw : ∃ n, w' = w.drewN n) : RetD v w (.returned v') w' := ⟨by rw [h], hw⟩
theorem RetB.mk {v v' : Value} {w w' : World} (h : v' = v) (hw : Below w.heap.size w w') : RetB v w (.returned v') w' := ⟨by rw [h], hw⟩

/-- a world that has drawn, and no more -/
def Dr (w w' : World) : Prop := ∃ n, w' = w.drewN n
theorem Dr.refl (w : World) : Dr w w := ⟨0, rfl⟩
theorem Dr.next {w w' : World} (h : Dr w w') (n : Nat) : Dr w (w'.drewN n) := by obtain ⟨m, rfl⟩ := h; exact ⟨_, World.drewN_drewN _ _ _⟩
theorem Dr.trans {a b c : World} (h : Dr a b) (h' : Dr b c) : Dr a c := by obtain ⟨m, rfl⟩ := h'; exact h.next m
theorem Dr.below {w w' : World} (h : Dr w w') : Below w.heap.size w w' := by obtain ⟨n, rfl⟩ := h; exact below_drewN (Below.refl _ _) n

/-- such callees in a region that draws its order -/
theorem quietS {P : Program} {f : FuncId} {args : Array Value} {w : World} {n : Nat} {v : Value} (h : Calls P f args (w.drewN n) (RetS v (w.drewN n))) : Calls P f args (w.drewN n) fun e w'' => e = .returned v ∧ ∃ m, w'' = w.drewN m :=
  Calls.quiet_of_same (h.mono fun _ _ h => ⟨h.1, h.2.symm⟩)
theorem quietD {P : Program} {f : FuncId} {args : Array Value} {w : World} {n : Nat} {v : Value} (h : Calls P f args (w.drewN n) (RetD v (w.drewN n))) : Calls P f args (w.drewN n) fun e w'' => e = .returned v ∧ ∃ m, w'' = w.drewN m :=
  Calls.quiet_of (h.mono fun _ _ h => ⟨h.1, h.2⟩)

theorem int_eq {a b : Int} (h : a = b) : Value.int .i64 a = .int .i64 b := by rw [h]
theorem bool_eq {a b : Bool} (h : a = b) : Value.bool a = .bool b := by rw [h]
theorem ints_eq {a b c d : Int} (h : a = c) (h' : b = d) : Value.tuple #[.int .i64 a, .int .i64 b] = .tuple #[.int .i64 c, .int .i64 d] := by rw [h, h']

end Go.Proofs.Bell

/- From a walk of a law ('it returns true and leaves what was there') to the row's statement: once, for every law. -/
namespace Go.Proofs.YtgdadbmhdljcdaaGreatDoor
set_option linter.unusedVariables false
open Go.ChangeShapes Go.WideShapes Go.ChangeAt Go.RowKit Go.Proofs.Bell

theorem own : ownKnob Tryz.prog.godebug = none := by kernel_rfl
theorem laidOut : laidOutB Tryz.prog = true := by kernel_rfl

theorem below_trodAll {H : Type} {enc : TypeId × Value → H} {P : Program} (hl : laidOutB P = true) {W W' : World} (hb : Below W.heap.size W W') :
    ∀ (ts : List TypeId) (vs : List Value) (ds : List (DataW H)) (ps : List MemPlace), (∀ t ∈ ts, P.readableRec t = true ∧ t < P.types.size) → (∀ x ∈ ps, x.block < W.heap.size) →
    DataW.TrodAll enc P W 0 (fun _ => true) true ts vs ds ps → DataW.TrodAll enc P W' 0 (fun b => decide (b < W.heap.size)) true ts vs ds ps
  | [], [], [], _, _, _, h => h
  | t :: ts, v :: vs, d :: ds, ps, ht, hp, h => by
    obtain ⟨p, q, h1, h2, rfl⟩ := h
    have h3 := ht t (List.mem_cons_self ..)
    exact ⟨p, q, Below.trod hl h3.1 h3.2 h1 hb (fun x hx => hp x (List.mem_append_left _ hx)),
      below_trodAll hl hb ts vs ds q (fun t h => ht t (List.mem_cons_of_mem _ h)) (fun x hx => hp x (List.mem_append_right _ hx)) h2, rfl⟩
  | [], [], _ :: _, _, _, _, h => h.elim
  | [], _ :: _, _, _, _, _, h => h.elim
  | _ :: _, [], _, _, _, _, h => h.elim
  | _ :: _, _ :: _, [], _, _, _, h => h.elim

theorem trodAll_length {H : Type} {enc : TypeId × Value → H} {P : Program} {W : World} : ∀ (ts : List TypeId) (vs : List Value) (ds : List (DataW H)) (ps : List MemPlace),
    DataW.TrodAll enc P W 0 (fun _ => true) true ts vs ds ps → ds.length = ts.length
  | [], [], [], _, _ => rfl
  | _ :: ts, _ :: vs, _ :: ds, _, h => by
    obtain ⟨p, q, _, h2, _⟩ := h
    simp [trodAll_length ts vs ds q h2]
  | [], [], _ :: _, _, h => h.elim
  | [], _ :: _, _, _, h => h.elim
  | _ :: _, [], _, _, h => h.elim
  | _ :: _, _ :: _, [], _, h => h.elim

/-- The arguments as they can be read. -/
def Args (P : Program) (fn : Func) (W : World) (args : Array Value) : Prop :=
  ∃ (H : Type) (enc : TypeId × Value → H) (base : Nat) (ds : List (DataW H)) (p : List MemPlace),
    (∀ (j : Nat) t v, fn.params[j]? = some t → args[j]? = some v → Value.okWide P W .any base t v) ∧
    DataW.TrodAll enc P W 0 (fun _ => true) true fn.params.toList args.toList ds p ∧ (∀ x ∈ p, x.block < W.heap.size)

set_option maxRecDepth 100000 in
theorem law_lifted {f : FuncId} {fn : Func} {s : ChangeSpec} {n : Nat} {tb : TypeId} (hfn : Tryz.prog.funcs[f]? = some fn) (noInit : Tryz.prog.inits.idxOf? f = none)
    (hvars : s.vars = []) (hspec : ∀ (H : Type) (ds : List (DataW H)), ds.length = n → s.fn H ds = { results := [.lit (.bool true)], args := ds, vars := [] })
    (hres : fn.resultTypes = #[tb]) (hb : Tryz.prog.underlying tb = some .bool)
    (hlen : fn.params.size = n)
    (hparams : fn.params.toList.all (fun t => Tryz.prog.readableRec t && decide (t < Tryz.prog.types.size)) = true)
    (walk : ∀ W args, Args Tryz.prog fn W args → Calls Tryz.prog f args W (RetB (.bool true) W))
    (os : Os) (started : os.Started) (H : Type) (enc : TypeId × Value → H)
    (witness : ∃ (w : World) (tape : Tape) (i : Input), w.os = os ∧ (w.forCall tape i).Shaped Tryz.checked.prog ∧ i.vars = [] ∧ Input.okWide Tryz.checked.prog (w.forCall tape i) .any w.heap.size f i ∧
      s.pre6 enc Tryz.checked.prog fn [] false (w.forCall tape i).memory i.args ∧ ({} : Assume).holds Tryz.checked.prog (lone (Frame.enter Tryz.checked.prog f i.args .normal) [] (w.forCall tape i))) :
    ReturnsInHanded {} Tryz.checked os f .any (s.pre6 enc Tryz.prog fn [] false) (s.post enc Tryz.prog fn false true false false) := by
  refine returnsInHanded_of_change (C := Tryz.checked) own started noInit hfn witness ?_
  intro W base args ds gs before hval hW _ _
  have hW' := hW
  obtain ⟨p, q, hA0, hV, rfl, _, _⟩ := hW
  have hA : DataW.TrodAll enc Tryz.prog W 0 (fun _ => true) true fn.params.toList args.toList ds p := hA0
  have hV' : DataW.TrodVars enc Tryz.prog W (fun _ => true) s.vars gs q := hV
  rw [hvars] at hV'
  obtain ⟨rfl, rfl⟩ := trodVars_none hV'
  have hlt : ∀ x ∈ p, x.block < W.heap.size := fun x hx => hW'.lt x (List.mem_append_left _ hx)
  have hds : ds.length = n := by rw [← hlen, ← Array.length_toList]; exact trodAll_length _ _ _ _ hA
  refine (walk W args ⟨H, enc, base, ds, p, hval, hA, hlt⟩).mono fun e W' ⟨he, hbel⟩ => ?_
  subst he
  have e1 : s.fn H (ds ++ []) = { results := [.lit (.bool true)], args := ds, vars := [] } := by rw [List.append_nil]; exact hspec H ds hds
  refine ⟨_, rfl, ds, [], p ++ [], [], p, [], hW', ?_, ?_, ?_, hbel.frame _, fun h => by cases h⟩
  · rw [e1, hres]; exact trodAll_mk1 (shut_bool hb true)
  · rw [e1]
    exact below_trodAll laidOut hbel _ _ _ _ (fun t ht => by
      have := List.all_eq_true.1 hparams t ht
      simpa using this) hlt hA
  · rw [e1, hvars]; rfl

end Go.Proofs.YtgdadbmhdljcdaaGreatDoor

/- Plain integer mathematics of the program: no program in sight. -/
namespace Go.Proofs.Bell

/-- `n` lies from `lo` to `hi`. -/
def inB (n lo hi : Int) : Bool := decide (lo ≤ n ∧ n ≤ hi)
theorem inB_t {n lo hi : Int} (h : inB n lo hi = true) : lo ≤ n ∧ n ≤ hi := of_decide_eq_true h
theorem inB_f {n lo hi : Int} (h : inB n lo hi = false) : ¬ (lo ≤ n ∧ n ≤ hi) := of_decide_eq_false h
theorem inB_mk {n lo hi : Int} (h : lo ≤ n ∧ n ≤ hi) : inB n lo hi = true := decide_eq_true h
theorem inB_no {n lo hi : Int} (h : ¬ (lo ≤ n ∧ n ≤ hi)) : inB n lo hi = false := decide_eq_false h

/-- the nearest quotient, halves away from nought; `b` is positive -/
def rnd (a b : Int) : Int := if a < 0 then -((b - 2 * a) / (2 * b)) else (2 * a + b) / (2 * b)

/-- a product of two bounded numbers -/
theorem mul_le_of {a b A B : Int} (ha : 0 ≤ a) (hb : 0 ≤ b) (h1 : a ≤ A) (h2 : b ≤ B) : 0 ≤ a * b ∧ a * b ≤ A * B :=
  ⟨Int.mul_nonneg ha hb, Int.mul_le_mul h1 h2 hb (by omega)⟩

/-- what nearest computes, from the quotient and the rest -/
theorem rnd_pos (a b : Int) (ha : 0 ≤ a) (hb : 0 < b) : rnd a b = if b - a % b ≤ a % b then a / b + 1 else a / b := by
  unfold rnd
  rw [if_neg (by omega)]
  have h1 := Int.mul_ediv_add_emod a b
  have h2 := Int.emod_nonneg a (by omega : b ≠ 0)
  have h3 := Int.emod_lt_of_pos a hb
  generalize a / b = q at *
  generalize a % b = r at *
  have e : 2 * a + b = (2 * r + b) + (2 * b) * q := by rw [← h1]; rw [Int.mul_add, Int.mul_assoc]; omega
  rw [e, Int.add_mul_ediv_left _ _ (by omega)]
  split
  · have : (2 * r + b) / (2 * b) = 1 := by
      rw [Int.ediv_eq_iff_of_pos (by omega)]; omega
    omega
  · have : (2 * r + b) / (2 * b) = 0 := Int.ediv_eq_zero_of_lt (by omega) (by omega)
    omega

theorem rnd_neg (a b : Int) (ha : a < 0) : rnd a b = - rnd (-a) b := by
  unfold rnd
  rw [if_pos ha, if_neg (by omega)]
  have : b - 2 * a = 2 * -a + b := by omega
  rw [this]

end Go.Proofs.Bell

/- The contracts of the functions that only compute with integers. -/
namespace Go.Proofs.YtgdadbmhdljcdaaGreatDoor
set_option linter.unusedVariables false
open Go.RowKit Go.Proofs.Bell


def absI (n : Int) : Int := if n < 0 then -n else n

set_option maxHeartbeats 400000 in
theorem l00In_c (n lo hi : Int) (w : World) : Calls Tryz.prog 124 #[.int .i64 n, .int .i64 lo, .int .i64 hi] w (RetS (.bool (inB n lo hi)) w) := by
  by_cases h1 : lo ≤ n <;> by_cases h2 : n ≤ hi <;>
  · go_enter Tryz.func124, Tryz.ntmps124
    go_wp2
    go_ret
    exact RetS.mk (bool_eq (by simp [inB, *]))

set_option maxHeartbeats 400000 in
theorem within_c (n lo hi : Int) (w : World) : Calls Tryz.prog 56 #[.int .i64 n, .int .i64 lo, .int .i64 hi] w (RetS (.bool (inB n lo hi)) w) := by
  by_cases h1 : lo ≤ n <;> by_cases h2 : n ≤ hi <;>
  · go_enter Tryz.func56, Tryz.ntmps56
    go_wp2
    go_ret
    exact RetS.mk (bool_eq (by simp [inB, *]))

theorem l00In_is {n lo hi : Int} {v : Bool} (w : World) (h : inB n lo hi = v) : Calls Tryz.prog 124 #[.int .i64 n, .int .i64 lo, .int .i64 hi] w (RetS (.bool v) w) := h ▸ l00In_c n lo hi w
theorem within_is {n lo hi : Int} {v : Bool} (w : World) (h : inB n lo hi = v) : Calls Tryz.prog 56 #[.int .i64 n, .int .i64 lo, .int .i64 hi] w (RetS (.bool v) w) := h ▸ within_c n lo hi w

theorem abs_c (n : Int) (w : World) (_h : -4000000000000000000 ≤ n) (_h' : n ≤ 4000000000000000000) : Calls Tryz.prog 87 #[.int .i64 n] w (RetS (.int .i64 (absI n)) w) := by
  by_cases h1 : n < 0 <;>
  · go_enter Tryz.func87, Tryz.ntmps87
    go_wp2
    go_ret
    exact RetS.mk (int_eq (by unfold absI; split <;> omega))

theorem rnd_bd (a b : Int) (h1 : -4000000000000000000 ≤ a) (h2 : a ≤ 4000000000000000000) (h3 : 1 ≤ b) : -4000000000000000000 ≤ rnd a b ∧ rnd a b ≤ 4000000000000000000 := by
  have key : ∀ a : Int, 0 ≤ a → 0 ≤ rnd a b ∧ rnd a b ≤ a := fun a ha => by
    have e : rnd a b = (2 * a + b) / (2 * b) := by unfold rnd; rw [if_neg (by omega)]
    rw [e]
    refine ⟨Int.ediv_nonneg (by omega) (by omega), ?_⟩
    refine Int.lt_add_one_iff.mp (Int.ediv_lt_of_lt_mul (by omega) ?_)
    have e2 : (a + 1) * (2 * b) = 2 * (a * b) + 2 * b := by rw [Int.add_mul, Int.one_mul, Int.mul_left_comm]
    have : a * 1 ≤ a * b := Int.mul_le_mul_of_nonneg_left h3 ha
    omega
  rcases Int.lt_or_le a 0 with h | h
  · rw [rnd_neg a b h]; have := key (-a) (by omega); omega
  · have := key a h; omega

set_option maxHeartbeats 400000 in
theorem l01Div_c (a b : Int) (w : World) (h1 : -4000000000000000000 ≤ a) (h2 : a ≤ 4000000000000000000) (h3 : 1 ≤ b) (_h4 : b ≤ 1000000000000000000) :
    Calls Tryz.prog 174 #[.int .i64 a, .int .i64 b] w (RetS (.int .i64 (rnd a b)) w) := by
  by_cases h : a < 0
  · have hb := rnd_bd a b h1 h2 h3
    unfold rnd at hb
    rw [if_pos h] at hb
    go_enter Tryz.func174, Tryz.ntmps174
    go_wp2
    go_ret
    exact RetS.mk (int_eq (by unfold rnd; rw [if_pos h]))
  · go_enter Tryz.func174, Tryz.ntmps174
    go_wp2
    go_ret
    exact RetS.mk (int_eq (by unfold rnd; rw [if_neg (by omega)]))

/-- what nearest reckons with -/
theorem near_facts (a b : Int) (h3 : 1 ≤ b) : 0 ≤ absI (a.tmod b) ∧ absI (a.tmod b) < b ∧ -b < a.tmod b ∧ a.tmod b < b ∧ absI b = b ∧
    (0 ≤ a → rnd a b = if b - absI (a.tmod b) ≤ absI (a.tmod b) then a.tdiv b + 1 else a.tdiv b) ∧
    (a < 0 → rnd a b = if b - absI (a.tmod b) ≤ absI (a.tmod b) then a.tdiv b - 1 else a.tdiv b) := by
  have h1 := Int.tmod_lt_of_pos a (by omega : 0 < b)
  have h2 := Int.tmod_lt_of_pos (-a) (by omega : 0 < b)
  rw [Int.neg_tmod] at h2
  have hb : absI b = b := by unfold absI; rw [if_neg (by omega)]
  have hpos : ∀ a : Int, 0 ≤ a → absI (a.tmod b) = a % b ∧ a.tdiv b = a / b := fun a ha => by
    have e := Int.tmod_eq_emod_of_nonneg ha (b := b)
    have := Int.emod_nonneg a (by omega : b ≠ 0)
    exact ⟨by unfold absI; rw [e, if_neg (by omega)], Int.tdiv_eq_ediv_of_nonneg ha⟩
  have hneg : a < 0 → absI (a.tmod b) = (-a) % b ∧ a.tdiv b = -((-a) / b) := fun ha => by
    have e := hpos (-a) (by omega)
    rw [Int.neg_tmod, Int.neg_tdiv] at e
    refine ⟨?_, by omega⟩
    rw [← e.1]; unfold absI; split <;> split <;> omega
  refine ⟨by unfold absI; split <;> omega, by unfold absI; split <;> omega, by omega, h1, hb, fun ha => ?_, fun ha => ?_⟩
  · obtain ⟨e1, e2⟩ := hpos a ha
    rw [rnd_pos a b ha (by omega), e1, e2]
  · obtain ⟨e1, e2⟩ := hneg ha
    rw [rnd_neg a b ha, rnd_pos (-a) b (by omega) (by omega), e1, e2]
    split <;> omega

theorem tdiv_bd (a b : Int) (h1 : -4000000000000000000 ≤ a) (h2 : a ≤ 4000000000000000000) (h3 : 1 ≤ b) : -4000000000000000000 ≤ a.tdiv b ∧ a.tdiv b ≤ 4000000000000000000 := by
  have key : ∀ a : Int, 0 ≤ a → 0 ≤ a.tdiv b ∧ a.tdiv b ≤ a := fun a ha => by
    rw [Int.tdiv_eq_ediv_of_nonneg ha]; exact ⟨Int.ediv_nonneg ha (by omega), Int.ediv_le_self b ha⟩
  rcases Int.lt_or_le a 0 with h | h
  · have := key (-a) (by omega); rw [Int.neg_tdiv] at this; omega
  · have := key a h; omega

set_option maxHeartbeats 400000 in
theorem nearest_c (a b : Int) (w : World) (h1 : -4000000000000000000 ≤ a) (h2 : a ≤ 4000000000000000000) (h3 : 1 ≤ b) (h4 : b ≤ 1000000000000000000) :
    Calls Tryz.prog 70 #[.int .i64 a, .int .i64 b] w (RetD (.int .i64 (rnd a b)) w) := by
  obtain ⟨f1, f2, f3, f4, f5, f6, f7⟩ := near_facts a b h3
  obtain ⟨g1, g2⟩ := tdiv_bd a b h1 h2 h3
  have F5 := Lib.hid f5; clear f5
  have F6 := Lib.hid f6; clear f6
  have F7 := Lib.hid f7; clear f7
  have b1 : absI b ≤ 1000000000000000000 := by rw [F5.out]; omega
  have b2 : 1 ≤ absI b := by rw [F5.out]; omega
  go_enter Tryz.func70, Tryz.ntmps70
  go_wp2_with fail
  go_quiet ((go_at_call 87; exact Calls.quiet_of_same ((abs_c _ _ (by omega) (by omega)).mono fun _ _ h => ⟨h.1, h.2.symm⟩)))
  have hb : decide (b < 0) = false := by simp; omega
  clear f3 f4
  generalize absI (a.tmod b) = r at *
  generalize a.tdiv b = q at *
  by_cases ha : a < 0
  · have ha' : decide (a < 0) = true := by simpa using ha
    go_wp2_with (go_at_call 87; refine (abs_c _ _ (by omega) (by omega)).mono ?_; rintro _ _ ⟨rfl, rfl⟩)
    all_goals
      go_ret
      refine RetD.mk (int_eq ?_) ⟨_, rfl⟩
      rw [F7.out ha]
      have := F5.out
      split <;> first | rfl | omega
  · have ha' : decide (a < 0) = false := by simp; omega
    go_wp2_with (go_at_call 87; refine (abs_c _ _ (by omega) (by omega)).mono ?_; rintro _ _ ⟨rfl, rfl⟩)
    all_goals
      go_ret
      refine RetD.mk (int_eq ?_) ⟨_, rfl⟩
      rw [F6.out (by omega)]
      have := F5.out
      split <;> first | rfl | omega

end Go.Proofs.YtgdadbmhdljcdaaGreatDoor

/- Memory: a world behind another one; slices that can be read; slices of one's own. No function of the program. -/
namespace Go.Proofs.Bell
set_option linter.unusedVariables false
open Go.RowKit

/-- a world behind `w`: what was there reads as before -/
structure Lat (w : World) where
  world : World
  below : Below w.heap.size w world

instance Lat.nonempty (w : World) : Nonempty (Lat w) := ⟨⟨w, Below.refl _ _⟩⟩

/-- a region that draws its order, whose operations only read, and whose callees leave alone what was there -/
theorem wp_region_lat {P : Program} {id : Nat} {Q : Exit → Act → World → Prop} {a : Act} {w : World} {l : List Oper} (hm : P.follows .mixedOrders = true) (hB : Region.lexB .any l.toArray = true)
    (h : wpQuiet P l.toArray (fun w' => ∃ s : Lat w, w' = s.world) (fun a' => ∀ w', (∃ s : Lat w, w' = s.world) → Q .normal a' w') l a) : (Code.region id l.toArray true).wp P Q a w :=
  wp_region_quiet (C := fun w' => ∃ s : Lat w, w' = s.world) hm hB ⟨⟨w.drew, (Below.refl _ _).drew⟩, rfl⟩ (by simpa using h)

theorem Lat.callB {P : Program} {f : FuncId} {args : Array Value} {w : World} {s : Lat w} {v : Value} (h : Calls P f args s.world (RetB v s.world)) :
    Calls P f args s.world fun e w'' => e = .returned v ∧ ∃ s' : Lat w, w'' = s'.world :=
  h.mono fun _ w' h => ⟨h.1, ⟨w', s.below.trans (h.2.mono s.below.size)⟩, rfl⟩
theorem RetD.toB {v : Value} {w : World} {e : Ending} {w' : World} (h : RetD v w e w') : RetB v w e w' := by
  obtain ⟨h1, n, h2⟩ := h
  exact ⟨h1, h2 ▸ below_drewN (Below.refl _ _) n⟩
theorem RetS.toD {v : Value} {w : World} {e : Ending} {w' : World} (h : RetS v w e w') : RetD v w e w' := ⟨h.1, 0, h.2.symm⟩
theorem Lat.callD {P : Program} {f : FuncId} {args : Array Value} {w : World} {s : Lat w} {v : Value} (h : Calls P f args s.world (RetD v s.world)) :
    Calls P f args s.world fun e w'' => e = .returned v ∧ ∃ s' : Lat w, w'' = s'.world := Lat.callB (h.mono fun _ _ h => h.toB)
theorem Lat.callS {P : Program} {f : FuncId} {args : Array Value} {w : World} {s : Lat w} {v : Value} (h : Calls P f args s.world (RetS v s.world)) :
    Calls P f args s.world fun e w'' => e = .returned v ∧ ∃ s' : Lat w, w'' = s'.world := Lat.callD (h.mono fun _ _ h => h.toD)

theorem bcell {W w1 : World} (hb : Below W.heap.size W w1) : (∀ b o, b < W.heap.size → w1.cell? ⟨b, o, none⟩ = W.cell? ⟨b, o, none⟩) ∧ (∀ b o, b < W.heap.size → w1.frozen? ⟨b, o, none⟩ = W.frozen? ⟨b, o, none⟩) :=
  ⟨fun b o h => hb.cell (p := ⟨b, o, none⟩) h, fun b o h => hb.frozen (p := ⟨b, o, none⟩) h⟩

/-- `v` is a slice of `n` elements whose cells, from its head on, are `xs` -/
def Rd (w : World) (v : Value) (n : Nat) (xs : List Value) : Prop :=
  n ≤ maxLen ∧ ((n = 0 ∧ xs = [] ∧ ∃ ao cap, v = .slice ao 0 cap ∧ (ao = none → cap = 0) ∧ cap ≤ maxLen) ∨
   (0 < n ∧ ∃ b off cap, v = .slice (some ⟨b, off, none⟩) n cap ∧ n ≤ cap ∧ cap ≤ maxLen ∧ b < w.heap.size ∧ ∀ j u, xs[j]? = some u → w.cell? ⟨b, off + j, none⟩ = some u))

theorem Rd.later {w w' : World} {v : Value} {n : Nat} {xs : List Value} (h : Rd w v n xs) (hb : Below w.heap.size w w') : Rd w' v n xs := by
  obtain ⟨h0, h⟩ := h
  refine ⟨h0, ?_⟩
  rcases h with h | ⟨h1, b, off, cap, h2, h3, h4, h5, h6⟩
  · exact .inl h
  · exact .inr ⟨h1, b, off, cap, h2, h3, h4, Nat.lt_of_lt_of_le h5 hb.size, fun j u hj => (hb.cell (p := ⟨b, off + j, none⟩) h5).trans (h6 j u hj)⟩

/-- what is owned can be read -/
theorem Rd.of_own {w : World} {base : Nat} {e : TypeId} {size : Nat} {v : Value} {n : Nat} {xs : List Value} (h : w.ownsRow base e size v n xs) : Rd w v n xs := by
  have h0 := h
  obtain ⟨hl, hc⟩ := h
  rcases hc with ⟨rfl, rfl⟩ | ⟨g, cap, cur, rfl, hg, hh, hn, hcap, hsz, htake⟩
  · exact ⟨Nat.zero_le _, .inl ⟨rfl, List.eq_nil_of_length_eq_zero (by simpa using hl), none, 0, rfl, fun _ => rfl, Nat.zero_le _⟩⟩
  · rcases Nat.eq_zero_or_pos n with rfl | hp
    · exact ⟨Nat.zero_le _, .inl ⟨rfl, List.eq_nil_of_length_eq_zero (by simpa using hl), _, cap, rfl, (fun h => by cases h), hcap⟩⟩
    · refine ⟨by omega, .inr ⟨hp, g, 0, cap, rfl, hn, hcap, (Array.getElem?_eq_some_iff.1 hh).1, fun j u hj => ?_⟩⟩
      have hj' := (List.getElem?_eq_some_iff.1 hj).1
      rw [Nat.zero_add, h0.cellAt j (by omega), hj]

/-- the two shapes of a slice that can be read -/
theorem Rd.shape {w : World} {v : Value} {n : Nat} {xs : List Value} (h : Rd w v n xs) :
    n ≤ 9223372036854775807 ∧ ((n = 0 ∧ xs = [] ∧ ∃ ao cap, v = .slice ao 0 cap) ∨
      (0 < n ∧ ∃ b off cap, v = .slice (some ⟨b, off, none⟩) n cap ∧ n ≤ cap ∧ cap ≤ 9223372036854775807 ∧ b < w.heap.size ∧ ∀ w', Below w.heap.size w w' → ∀ j u, xs[j]? = some u → w'.cell? ⟨b, off + j, none⟩ = some u)) := by
  obtain ⟨h0, h⟩ := h
  unfold maxLen at *
  refine ⟨h0, ?_⟩
  rcases h with ⟨h1, h2, ao, cap, h3, _, _⟩ | ⟨h1, b, off, cap, h2, h3, h4, h5, h6⟩
  · exact .inl ⟨h1, h2, ao, cap, h3⟩
  · exact .inr ⟨h1, b, off, cap, h2, h3, h4, h5, fun w' hb j u hj => (hb.cell (p := ⟨b, off + j, none⟩) h5).trans (h6 j u hj)⟩

/-- the cells of pairs, of triples -/
def ints (zs : List Int) : List Value := zs.map (.int .i64)
def pairs (ps : List (Int × Int)) : List Value := ps.flatMap fun p => [.int .i64 p.1, .int .i64 p.2]
def trips (ps : List (Int × Int × Int)) : List Value := ps.flatMap fun p => [.int .i64 p.1, .int .i64 p.2.1, .int .i64 p.2.2]

theorem ints_len (zs : List Int) : (ints zs).length = zs.length := by simp [ints]
theorem pairs_len (ps : List (Int × Int)) : (pairs ps).length = ps.length * 2 := by induction ps with
  | nil => rfl
  | cons p ps ih => have : pairs (p :: ps) = [.int .i64 p.1, .int .i64 p.2] ++ pairs ps := rfl
                    rw [this, List.length_append, ih]; simp; omega
theorem trips_len (ps : List (Int × Int × Int)) : (trips ps).length = ps.length * 3 := by induction ps with
  | nil => rfl
  | cons p ps ih => have : trips (p :: ps) = [.int .i64 p.1, .int .i64 p.2.1, .int .i64 p.2.2] ++ trips ps := rfl
                    rw [this, List.length_append, ih]; simp; omega

theorem intsAt {zs : List Int} {k : Nat} (h : k < zs.length) : (ints zs)[k]? = some (.int .i64 zs[k]) := by simp [ints, h]
theorem pairs_at {ps : List (Int × Int)} : ∀ {k : Nat} (h : k < ps.length), (pairs ps)[k * 2]? = some (.int .i64 ps[k].1) ∧ (pairs ps)[k * 2 + 1]? = some (.int .i64 ps[k].2) := by
  induction ps with
  | nil => intro k h; simp at h
  | cons p ps ih =>
    intro k h
    cases k with
    | zero => simp [pairs]
    | succ k =>
      have := ih (k := k) (by simpa using h)
      have e1 : (k + 1) * 2 = k * 2 + 1 + 1 := by omega
      simpa [pairs, e1] using this
theorem trips_at {ps : List (Int × Int × Int)} : ∀ {k : Nat} (h : k < ps.length), (trips ps)[k * 3]? = some (.int .i64 ps[k].1) ∧ (trips ps)[k * 3 + 1]? = some (.int .i64 ps[k].2.1) ∧ (trips ps)[k * 3 + 2]? = some (.int .i64 ps[k].2.2) := by
  induction ps with
  | nil => intro k h; simp at h
  | cons p ps ih =>
    intro k h
    cases k with
    | zero => simp [trips]
    | succ k =>
      have := ih (k := k) (by simpa using h)
      have e1 : (k + 1) * 3 = k * 3 + 1 + 1 + 1 := by omega
      simpa [trips, e1] using this

/-- an index into a slice whose head is known where it has elements -/
theorem ix {P : Program} {T E : TypeId} {sz n cap b off k : Nat} {ao : Option Addr} (hT : P.underlying T = some (.slice E)) (hz : P.cellsOf E = sz) (hi : (P.info? E).isSome = true)
    (hao : 0 < n → ao = some ⟨b, off, none⟩) (hk : k < n) (i : Int) (hik : i = k) : ∀ w, (Instr.indexAt T (.slice ao n cap) (.int .i64 i)).run P w = .ok (.pointer (some ⟨b, off + k * sz, none⟩)) w := by
  intro w
  obtain ⟨inf, hinf⟩ := Option.isSome_iff_exists.1 hi
  have e1 : P.elem T = E := by simp [Program.elem, hT]
  have e2 : inf.size = sz := by rw [← hz]; simp [Program.cellsOf, hinf]
  rw [hao (by omega), hik, run_indexAt_slice w T ⟨b, off, none⟩ n cap .i64 k (by rw [e1]; exact hT), if_pos (by omega)]
  simp [e1, sizeOf, typeInfo, hinf, e2, Addr.add]

/-- a slice that can be read: its head, its length, its cells in every later world -/
theorem Rd.open {w : World} {v : Value} {n : Nat} {xs : List Value} (h : Rd w v n xs) :
    n ≤ 9223372036854775807 ∧ ∃ ao cap b off, v = .slice ao n cap ∧ (0 < n → ao = some ⟨b, off, none⟩) ∧ ∀ w', Below w.heap.size w w' → ∀ j u, 0 < n → xs[j]? = some u → w'.cell? ⟨b, off + j, none⟩ = some u := by
  obtain ⟨h0, h⟩ := h.shape
  refine ⟨h0, ?_⟩
  rcases h with ⟨h1, h2, ao, cap, h3⟩ | ⟨h1, b, off, cap, h2, h3, h4, h5, h6⟩
  · subst h1; exact ⟨ao, cap, 0, 0, h3, fun h => by omega, fun _ _ _ _ h => by omega⟩
  · exact ⟨_, cap, b, off, h2, fun _ => rfl, fun w' hb j u _ hj => h6 w' hb j u hj⟩

theorem own_later {w w' : World} {base : Nat} {e : TypeId} {size : Nat} {v : Value} {n : Nat} {xs : List Value} (h : w.ownsRow base e size v n xs) (hb : Below w.heap.size w w') : w'.ownsRow base e size v n xs := by
  obtain ⟨hl, hc⟩ := h
  refine ⟨hl, ?_⟩
  rcases hc with hc | ⟨g, cap, cur, hv, hg, hh, r⟩
  · exact .inl hc
  · exact .inr ⟨g, cap, cur, hv, hg, by rw [hb.block g (Array.getElem?_eq_some_iff.1 hh).1]; exact hh, r⟩

/-- after the cells at k*2, k*2+1 have been set, one pair more is there -/
theorem set2_upto {xs ys : List Value} {k : Nat} {u v : Value} (hx : ∀ j, j < k * 2 → xs[j]? = ys[j]?) (hl : k * 2 + 1 < xs.length) (h1 : ys[k * 2]? = some u) (h2 : ys[k * 2 + 1]? = some v) :
    ∀ j, j < (k + 1) * 2 → ((xs.set (k * 2) u).set (k * 2 + 1) v)[j]? = ys[j]? := by
  intro j hj
  rcases Nat.lt_or_ge j (k * 2) with h | h
  · rw [List.getElem?_set_ne (by omega), List.getElem?_set_ne (by omega), hx j h]
  · rcases (show j = k * 2 ∨ j = k * 2 + 1 by omega) with rfl | rfl
    · rw [List.getElem?_set_ne (by omega), List.getElem?_set_self (by omega), h1]
    · rw [List.getElem?_set_self (by simpa using hl), h2]
theorem set3_upto {xs ys : List Value} {k : Nat} {u v z : Value} (hx : ∀ j, j < k * 3 → xs[j]? = ys[j]?) (hl : k * 3 + 2 < xs.length) (h1 : ys[k * 3]? = some u) (h2 : ys[k * 3 + 1]? = some v) (h3 : ys[k * 3 + 2]? = some z) :
    ∀ j, j < (k + 1) * 3 → (((xs.set (k * 3) u).set (k * 3 + 1) v).set (k * 3 + 2) z)[j]? = ys[j]? := by
  intro j hj
  rcases Nat.lt_or_ge j (k * 3) with h | h
  · rw [List.getElem?_set_ne (by omega), List.getElem?_set_ne (by omega), List.getElem?_set_ne (by omega), hx j h]
  · rcases (show j = k * 3 ∨ j = k * 3 + 1 ∨ j = k * 3 + 2 by omega) with rfl | rfl | rfl
    · rw [List.getElem?_set_ne (by omega), List.getElem?_set_ne (by omega), List.getElem?_set_self (by omega), h1]
    · rw [List.getElem?_set_ne (by omega), List.getElem?_set_self (by simp; omega), h2]
    · rw [List.getElem?_set_self (by simpa using hl), h3]
theorem set1_upto {xs ys : List Value} {k : Nat} {u : Value} (hx : ∀ j, j < k → xs[j]? = ys[j]?) (hl : k < xs.length) (h1 : ys[k]? = some u) :
    ∀ j, j < k + 1 → (xs.set k u)[j]? = ys[j]? := by
  intro j hj
  rcases Nat.lt_or_ge j k with h | h
  · rw [List.getElem?_set_ne (by omega), hx j h]
  · obtain rfl : j = k := by omega
    rw [List.getElem?_set_self hl, h1]
theorem upto_all {xs ys : List Value} (hl : xs.length = ys.length) (h : ∀ j, j < ys.length → xs[j]? = ys[j]?) : xs = ys := by
  apply List.ext_getElem?
  intro j
  rcases Nat.lt_or_ge j ys.length with h' | h'
  · exact h j h'
  · rw [List.getElem?_eq_none (by omega), List.getElem?_eq_none h']

/-- a function that has a body is entered -/
theorem enters {P : Program} {f : FuncId} {fn : Func} (hf : P.funcs[f]? = some fn) (hname : (fn.name == "runtime.NumGoroutine") = false) (hb : fn.body.isNone = false) :
    ∀ (args : Array Value) (w : World), (callFunc f args).run P w = .ok (.enter f args) w := by
  intro args w
  have h1 : fn.name ≠ "runtime.NumGoroutine" := by simpa using hname
  obtain ⟨c, hc⟩ : ∃ c, fn.body = some c := by
    cases h : fn.body with
    | none => rw [h] at hb; cases hb
    | some c => exact ⟨c, rfl⟩
  simp [callFunc, hf, h1, hc]

/-- a cell of the call's own, in a later world -/
theorem below_cell {w w' : World} (hb : Below w.heap.size w w') {p : Addr} {v : Value} (h : w.cell? p = some v) : w'.cell? p = some v :=
  (hb.cell (World.block_lt_of_cell? w p h)).trans h
theorem Lat.cell {w : World} (s : Lat w) {p : Addr} {v : Value} (h : w.cell? p = some v) : s.world.cell? p = some v := below_cell s.below h

/-- only blocks of `S` may have changed -/
structure Only (S : Nat → Prop) (w w' : World) : Prop where
  os : w'.os = w.os
  tape : w'.tape = w.tape
  output : w'.output = w.output
  size : w.heap.size ≤ w'.heap.size
  block : ∀ k, k < w.heap.size → ¬ S k → w'.heap[k]? = w.heap[k]?
theorem Only.refl (S : Nat → Prop) (w : World) : Only S w w := ⟨rfl, rfl, rfl, Nat.le_refl _, fun _ _ _ => rfl⟩
theorem Only.trans {S : Nat → Prop} {a b c : World} (h : Only S a b) (k : Only S b c) : Only S a c :=
  ⟨k.os.trans h.os, k.tape.trans h.tape, k.output.trans h.output, Nat.le_trans h.size k.size, fun i hi hs => (k.block i (Nat.lt_of_lt_of_le hi h.size) hs).trans (h.block i hi hs)⟩
theorem Only.mono {S S' : Nat → Prop} {w w' : World} (h : Only S w w') (hs : ∀ k, S k → S' k) : Only S' w w' := ⟨h.os, h.tape, h.output, h.size, fun k hk hn => h.block k hk (fun h => hn (hs k h))⟩
theorem Only.of_below {S : Nat → Prop} {w w' : World} (h : Below w.heap.size w w') : Only S w w' := ⟨h.os, h.tape, h.output, h.size, fun k hk _ => h.block k hk⟩
theorem Only.setCell {S : Nat → Prop} {a w : World} (h : Only S a w) {p : Addr} (hp : S p.block) (u : Value) : Only S a (w.setCell p u) :=
  h.trans ⟨rfl, rfl, rfl, by simp [World.setCell], fun k _ hk => Below.heap_setCell _ _ _ _ (fun e => hk (e ▸ hp))⟩
theorem Only.below {S : Nat → Prop} {B : Nat} {a w w' : World} (h : Below B a w) (k : Only S w w') (hB : B ≤ w.heap.size) (hs : ∀ b, S b → B ≤ b) : Below B a w' :=
  ⟨k.os.trans h.os, k.tape.trans h.tape, k.output.trans h.output, Nat.le_trans h.size k.size, fun i hi => (k.block i (Nat.lt_of_lt_of_le hi hB) (fun e => by have := hs i e; omega)).trans (h.block i hi)⟩
theorem own_only {S : Nat → Prop} {w w' : World} {base : Nat} {e : TypeId} {size : Nat} {v : Value} {n : Nat} {xs : List Value} (h : w.ownsRow base e size v n xs) (ho : Only S w w') (hne : ∀ k, v.ownBlock = some k → ¬ S k) : w'.ownsRow base e size v n xs := by
  obtain ⟨hl, hc⟩ := h
  refine ⟨hl, ?_⟩
  rcases hc with hc | ⟨g, cap, cur, hv, hg, hh, r⟩
  · exact .inl hc
  · exact .inr ⟨g, cap, cur, hv, hg, by rw [ho.block g (Array.getElem?_eq_some_iff.1 hh).1 (hne g (by rw [hv]; rfl))]; exact hh, r⟩
theorem cell_only {S : Nat → Prop} {w w' : World} (ho : Only S w w') {p : Addr} {v : Value} (h : w.cell? p = some v) (hn : ¬ S p.block) : w'.cell? p = some v :=
  (World.cell?_of_block (ho.block p.block (World.block_lt_of_cell? w p h) hn)).trans h
theorem rd_only {S : Nat → Prop} {w w' : World} {v : Value} {n : Nat} {xs : List Value} (h : Rd w v n xs) (ho : Only S w w') (hne : ∀ k, S k → w.heap.size ≤ k) : Rd w' v n xs :=
  h.later (Only.below (Below.refl _ _) ho (Nat.le_refl _) hne)

/-- a row of one's own: its head, its cells, what a store makes of it -/
theorem own_open {w : World} {base : Nat} {e : TypeId} {size : Nat} {v : Value} {n : Nat} {xs : List Value} (h : w.ownsRow base e size v n xs) :
    ∃ ao cap g, v = .slice ao n cap ∧ (0 < n → ao = some ⟨g, 0, none⟩) ∧ (0 < n → v.ownBlock = some g) := by
  rcases h.2 with ⟨rfl, rfl⟩ | ⟨g, cap, cur, rfl, _⟩
  · exact ⟨none, 0, 0, rfl, fun h => by omega, fun h => by omega⟩
  · exact ⟨_, cap, g, rfl, fun _ => rfl, fun _ => rfl⟩
theorem own_cell {w : World} {base : Nat} {e : TypeId} {size : Nat} {ao : Option Addr} {n cap g : Nat} {xs : List Value} (h : w.ownsRow base e size (.slice ao n cap) n xs) (hao : 0 < n → ao = some ⟨g, 0, none⟩) {j : Nat} (hj : j < n * size) :
    (∃ u, w.cell? ⟨g, j, none⟩ = some u) ∧ w.frozen? ⟨g, j, none⟩ = false ∧ w.cell? ⟨g, j, none⟩ = xs[j]? ∧
    ∀ u, (w.setCell ⟨g, j, none⟩ u).ownsRow base e size (.slice ao n cap) n (xs.set j u) := by
  have hn : 0 < n := by rcases Nat.eq_zero_or_pos n with rfl | h'; · simp at hj
                        · exact h'
  have e := hao hn
  subst e
  have hc := h.cellAt j hj
  have hl := h.1
  exact ⟨⟨_, hc.trans (List.getElem?_eq_getElem (by omega))⟩, h.frozenAt j, hc, fun u => (h.stored j u).1⟩

theorem own_base {w : World} {base base' : Nat} {e : TypeId} {size : Nat} {v : Value} {n : Nat} {xs : List Value} (h : w.ownsRow base e size v n xs) (hb : base' ≤ base) : w.ownsRow base' e size v n xs := by
  obtain ⟨hl, hc⟩ := h
  refine ⟨hl, ?_⟩
  rcases hc with hc | ⟨g, cap, cur, hv, hg, r⟩
  · exact .inl hc
  · exact .inr ⟨g, cap, cur, hv, by omega, r⟩
theorem alloc_cell {w : World} {p : Addr} {v : Value} (o : Obj) (h : w.cell? p = some v) : (w.alloc o).cell? p = some v := below_cell ((Below.refl _ _).alloc (Nat.le_refl _) o) h

theorem toList_inj {a b : ByteArray} (h : a.toList = b.toList) : a = b := by
  rw [Lib.toList_data, Lib.toList_data] at h
  exact ByteArray.ext (Array.toList_inj.1 h)
theorem name_ne {a b : ByteArray} (h : ¬ a = b) : (!a.toList == b.toList) = true := by
  cases e : a.toList == b.toList
  · rfl
  · exact absurd (toList_inj (by simpa using e)) h

theorem below_stored {B : Nat} {w w' : World} (h : Below B w w') {g j : Nat} (hg : B ≤ g) (u : Value) : Below B w (w'.setCell ⟨g, j, none⟩ u) := h.setCell hg u

end Go.Proofs.Bell

/- Slices of numbers: one's own; the sum; the law's copy, comparison, marks. -/
namespace Go.Proofs.YtgdadbmhdljcdaaGreatDoor
set_option linter.unusedVariables false
open Go.RowKit Go.Proofs.Bell Go.BigFrame

def OwnI (base : Nat) (w : World) (v : Value) (zs : List Int) : Prop := w.ownsRow base 2 1 v zs.length (ints zs)
def RetOwnI (zs : List Int) (w : World) (e : Ending) (w' : World) : Prop := ∃ v, e = .returned v ∧ OwnI w.heap.size w' v zs ∧ Below w.heap.size w w'
theorem info_int64 : (Tryz.prog.info? 2).map (fun i => (i.zero, i.size, i.bytes)) = some (some (.int .i64 0), 1, 8) := by kernel_rfl
theorem cells_int64 : Tryz.prog.cellsOf 2 = 1 := by kernel_rfl
theorem has_int64 : (Tryz.prog.info? 2).isSome = true := by kernel_rfl

/-- the sums of the heads of a list lie within bounds -/
def Sums (lo hi : Int) (zs : List Int) : Prop := ∀ k, lo ≤ (zs.take k).sum ∧ (zs.take k).sum ≤ hi
theorem sum_bd {lo hi : Int} : ∀ (zs : List Int), (∀ x ∈ zs, lo ≤ x ∧ x ≤ hi) → lo * zs.length ≤ zs.sum ∧ zs.sum ≤ hi * zs.length
  | [], _ => by simp
  | z :: zs, h => by
    have h1 := h z (List.mem_cons_self ..)
    have h2 := sum_bd zs (fun x hx => h x (List.mem_cons_of_mem _ hx))
    simp only [List.sum_cons, List.length_cons, Int.natCast_add, Int.mul_add]
    omega
theorem sums_of {M : Int} {zs : List Int} (n : Nat) (hM : 0 ≤ M) (hl : zs.length ≤ n) (h : ∀ x ∈ zs, 0 ≤ x ∧ x ≤ M) : Sums 0 (M * n) zs := by
  intro k
  have h1 := sum_bd (zs.take k) (fun x hx => h x (List.mem_of_mem_take hx))
  have h2 : M * (zs.take k).length ≤ M * n := Int.mul_le_mul_of_nonneg_left (by rw [List.length_take]; omega) hM
  omega
theorem Sums.wide {lo hi lo' hi' : Int} {zs : List Int} (h : Sums lo hi zs) (h1 : lo' ≤ lo) (h2 : hi ≤ hi') : Sums lo' hi' zs := fun k => by have := h k; omega

set_option maxHeartbeats 800000 in
theorem sumOf_c (v : Value) (zs : List Int) (w : World) (h : Rd w v zs.length (ints zs)) (hs : Sums (-4000000000000000000) 4000000000000000000 zs) :
    Calls Tryz.prog 95 #[v] w (RetS (.int .i64 zs.sum) w) := by
  generalize hn : zs.length = n at h
  have HN := Lib.hid hn; clear hn
  have HSS := Lib.hid hs; clear hs
  obtain ⟨hn, ao, cap, b, off, rfl, hao, hcell⟩ := h.open
  clear h
  go_enter Tryz.func95, Tryz.ntmps95
  go_wp2_with fail
  go_loop [3, 8] (fun s i => ∃ (k : Nat), k ≤ n ∧ i = .int .i64 k ∧ s = .int .i64 (zs.take k).sum) (fun _ i => n - (intOf i).toNat)
  case atStart => exact ⟨0, Nat.zero_le _, rfl, rfl⟩
  case round =>
    obtain ⟨k, hk, rfl, rfl⟩ := hrel
    obtain ⟨s1, s2⟩ := HSS.out k
    by_cases hlt : k < n
    · have hltp : k < zs.length := by rw [HN.out]; exact hlt
      have hix := ix (P := Tryz.prog) (T := 42) (cap := cap) Tryz.underlying42 cells_int64 has_int64 hao hlt k rfl
      rw [Nat.mul_one] at hix
      have hc1 : w.cell? ⟨b, off + k, none⟩ = some (.int .i64 zs[k]) := hcell _ (Below.refl _ _) _ _ (by omega) (intsAt hltp)
      have hs : (zs.take (k + 1)).sum = (zs.take k).sum + zs[k] := by rw [List.take_succ_eq_append_getElem hltp, List.sum_append]; simp
      have hsb := HSS.out (k + 1)
      rw [hs] at hsb
      obtain ⟨s3, s4⟩ := hsb
      have HS := Lib.hid hs; clear hs
      clear hcell
      generalize zs[k] = p at *
      generalize (zs.take k).sum = y at *
      go_wp2
      go_round
      case rel => exact ⟨k + 1, by omega, by go_num, by rw [HS.out]⟩
      case measure => simp [intOf]; omega
    · obtain rfl : k = n := by omega
      have he : zs.take k = zs := List.take_of_length_le (by rw [HN.out]; exact Nat.le_refl _)
      rw [he]
      go_wp2
      go_returns
      exact RetS.mk rfl


theorem take_step {α : Type} {xs ys : List α} {k : Nat} (h : xs.take k = ys.take k) (h1 : k < xs.length) (h2 : k < ys.length) (h3 : xs[k] = ys[k]) : xs.take (k + 1) = ys.take (k + 1) := by
  rw [List.take_succ_eq_append_getElem h1, List.take_succ_eq_append_getElem h2, h, h3]

/-- what a mark leaves: the count, the marked row, all else as it was -/
def Marked (v : Value) (n : Nat) (r : Int) (base : Nat) (E : TypeId) (sz : Nat) (xs : List Value) (w : World) (e : Ending) (w' : World) : Prop :=
  e = .returned (.int .i64 r) ∧ w'.ownsRow base E sz v n xs ∧ Only (fun b => v.ownBlock = some b) w w'

def leftOf (left : Int) (n : Nat) : Int := if left - n < 0 then -1 else left - n
theorem leftOf_neg {left : Int} {n : Nat} (h : left < n) : leftOf left n = -1 := by unfold leftOf; rw [if_pos (by omega)]
theorem leftOf_pos {left : Int} {n : Nat} (h : (n : Int) ≤ left) : leftOf left n = left - n := by unfold leftOf; rw [if_neg (by omega)]

def eqZs (xs ys : List Int) : Bool := decide (xs = ys)
theorem eqZs_refl (xs : List Int) : eqZs xs xs = true := decide_eq_true rfl

end Go.Proofs.YtgdadbmhdljcdaaGreatDoor

