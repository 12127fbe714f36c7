/- Several texts of the proofs in one: Prof2, Prof3. -/
import Derived.Test.YtgdadbmhdljcdaaDoorGA
import Derived.Test.YtgdadbmhdljcdaaDoorGC
import Derived.Test.YtgdadbmhdljcdaaDoorGD
import Derived.Deep.DeepCutAuto
import Derived.Deep.RegionHeld3
import Derived.Lib.SliceRun
/- Profiles copied, tested: the program's and the reference's helpers. -/
namespace Go.Proofs.YtgdadbmhdljcdaaDoor
set_option linter.unusedVariables false
open Go.RowKit Go.Proofs.Bell Go.BigFrame

/-- append of a slice that can be read onto a slice of one's own -/
theorem wappN_R {o : Oper} {a : Act} {K : Act → World → Prop} {Q : Exit → Act → World → Prop} (s x : Operand) (W : World) (base : Nat) (v u : Value) (qs rs : List (Int × Int × Int))
    (ho : o.op = .call { callee := .builtin .append, args := #[s, x], argTypes := #[43, 43] })
    (hs : a.eval s = v) (hx : a.eval x = u) (hown : OwnR base W v qs) (hrd : Rd W u rs.length (trips rs)) (h1 : 1 ≤ rs.length) (hn : qs.length ≤ 1000000) (hm : rs.length ≤ 1000000) (hbase : base ≤ W.heap.size)
    (h : ∀ v' w', OwnR base w' v' (qs ++ rs) → Only (fun b => v.ownBlock = some b) W w' → K (a.put o.dst v') w') : o.wp Tryd.prog a W K Q := by
  obtain ⟨i0, hi, hz0, hz1, hz2⟩ := info_parts info_Ring
  obtain ⟨_, ao, cap, b, off, rfl, hao, hcell⟩ := hrd.open
  obtain rfl : ao = some ⟨b, off, none⟩ := hao (by omega)
  refine wp_append_own W s x 43 ho base 98 i0 _ 3 24 Tryd.underlying43 hi hz0 hz1 hz2 rfl (by decide) v qs.length (trips qs) hs hown ⟨b, off, none⟩ rs.length cap (trips rs) hx (trips_len rs) (fun j u hj => ?_) (fun u hu => ?_) (by unfold maxLen; omega) (by omega) hbase ?_
  · rw [add_norm _ rfl]; exact hcell _ (Below.refl _ _) j u (by omega) hj
  · obtain ⟨p, _, hp⟩ := List.mem_flatMap.1 hu
    simp at hp
    rcases hp with rfl | rfl | rfl <;> rfl
  · intro v' w' ho' hg _
    refine h v' w' ?_ (Only.of_grown hg)
    unfold OwnR
    rw [List.length_append]
    have e : trips (qs ++ rs) = trips qs ++ trips rs := by simp [trips]
    rw [e]; exact ho'
theorem appN_R {ops : Array Oper} {rest : List Oper} {o : Oper} {a : Act} {Q : Exit → Act → World → Prop} (s x : Operand) (W : World) (base : Nat) (v u : Value) (qs rs : List (Int × Int × Int))
    (ho : o.op = .call { callee := .builtin .append, args := #[s, x], argTypes := #[43, 43] }) (hgd : o.guard = none)
    (hs : a.eval s = v) (hx : a.eval x = u) (hown : OwnR base W v qs) (hrd : Rd W u rs.length (trips rs)) (h1 : 1 ≤ rs.length) (hn : qs.length ≤ 1000000) (hm : rs.length ≤ 1000000) (hbase : base ≤ W.heap.size)
    (h : ∀ v' w', OwnR base w' v' (qs ++ rs) → Only (fun b => v.ownBlock = some b) W w' → wpList Tryd.prog ops Q rest (a.put o.dst v') w') : wpList Tryd.prog ops Q (o :: rest) a W :=
  wpList_plain hgd fun _ hK => wappN_R s x W base v u qs rs ho hs hx hown hrd h1 hn hm hbase fun v' w' h2 h3 => hK _ _ (h v' w' h2 h3)
theorem sappN_R {ops : Array Oper} {o : Oper} {a : Act} {K : Act → World → Prop} {Q : Exit → Act → World → Prop} {E : Prop} (s x : Operand) (W : World) (base : Nat) (v u : Value) (qs rs : List (Int × Int × Int))
    (ho : o.op = .call { callee := .builtin .append, args := #[s, x], argTypes := #[43, 43] }) (hgd : o.guard = none)
    (hs : a.eval s = v) (hx : a.eval x = u) (hown : OwnR base W v qs) (hrd : Rd W u rs.length (trips rs)) (h1 : 1 ≤ rs.length) (hn : qs.length ≤ 1000000) (hm : rs.length ≤ 1000000) (hbase : base ≤ W.heap.size)
    (h : ∀ v' w', OwnR base w' v' (qs ++ rs) → Only (fun b => v.ownBlock = some b) W w' → K (a.put o.dst v') w') :
    if Region.wanted o (yielded ops a.tmps) = true then Oper.wp Tryd.prog o a W K Q else E := by
  have hw : Region.wanted o (yielded ops a.tmps) = true := by simp [Region.wanted, hgd]
  rw [if_pos hw]
  exact wappN_R s x W base v u qs rs ho hs hx hown hrd h1 hn hm hbase h

theorem own_empty2 (W : World) (e : TypeId) (size base g : Nat) (hg : W.heap.size = g) (hb : base ≤ g) : (W.alloc (.cells #[] e)).ownsRow base e size (.slice (some ⟨g, 0, none⟩) 0 0) 0 [] := by
  subst hg; exact own_empty W e size base hb
theorem frozen_only {S : Nat → Prop} {w w' : World} (ho : Only S w w') {p : Addr} (hp : p.block < w.heap.size) (hn : ¬ S p.block) : w'.frozen? p = w.frozen? p :=
  World.frozen?_of_block (ho.block p.block hp hn)

end Go.Proofs.YtgdadbmhdljcdaaDoor

/- Profiles copied, tested, renamed. -/
namespace Go.Proofs.YtgdadbmhdljcdaaDoor
set_option linter.unusedVariables false
open Go.RowKit Go.Proofs.Bell Go.BigFrame

theorem RetP2.nil {w w' : World} {c : Value} (h : Below w.heap.size w w') : RetP2 ⟨#[]⟩ [] c w (.returned (.tuple #[.agg #[.string ⟨#[]⟩, .slice none 0 0], c])) w' := ⟨_, rfl, World.ownsRow_nil _ _ _ _, h⟩
theorem alloc_frozen {w : World} {p : Addr} (o : Obj) (h : p.block < w.heap.size) : (w.alloc o).frozen? p = w.frozen? p := ((Below.refl _ _).alloc (Nat.le_refl _) o).frozen h
theorem own_set {w : World} {base : Nat} {e : TypeId} {size : Nat} {v : Value} {n : Nat} {xs : List Value} (h : w.ownsRow base e size v n xs) {a : Addr} (hne : ∀ k, v.ownBlock = some k → a.block ≠ k) (u : Value) : (w.setCell a u).ownsRow base e size v n xs :=
  own_only h ((Only.refl (fun b => b = a.block) w).setCell rfl u) (fun k hk e => hne k hk e.symm)
end Go.Proofs.YtgdadbmhdljcdaaDoor

