/- Numbers as texts: the plain words, and lists of bytes of one's own. -/
import Derived.Test.YtgdadbmhdljcdaaGreatDoorGC
import Derived.Lib.ItoaNum
import Derived.Lib.ItoaMem
import Derived.Lib.ItoaLen
import Derived.Laws.BytesArg
namespace Go.Proofs.YtgdadbmhdljcdaaGreatDoor
set_option linter.unusedVariables false
open Go.RowKit Go.Proofs.Bell Go.BigFrame

def bcells (zs : List Int) : List Value := zs.map (.int .u8)
theorem bcells_len (zs : List Int) : (bcells zs).length = zs.length := by simp [bcells]
theorem bcells_at {zs : List Int} {k : Nat} (h : k < zs.length) : (bcells zs)[k]? = some (.int .u8 (zs.getD k 0)) := by simp [bcells, List.getD, h]
def OwnB (base : Nat) (w : World) (v : Value) (zs : List Int) : Prop := w.ownsRow base 5 1 v zs.length (bcells zs)
theorem info_uint8 : (Tryz.prog.info? 5).map (fun i => (i.zero, i.size, i.bytes)) = some (some (.int .u8 0), 1, 1) := by kernel_rfl
theorem app_B {ops : Array Oper} {rest : List Oper} {o : Oper} {a : Act} {Q : Exit → Act → World → Prop} (s x : Operand) (W : World) (base : Nat) (v : Value) (qs : List Int) (p : Int)
    (ho : o.op = .call { callee := .builtin .append, args := #[s, x], argTypes := #[22, 22] }) (hgd : o.guard = none)
    (hs : a.eval s = v) (hx : a.eval x = .slice (some ⟨W.heap.size, 0, none⟩) 1 1) (hown : OwnB base W v qs) (hn : qs.length ≤ 1000000) (hbase : base ≤ W.heap.size)
    (h : ∀ v' w', OwnB base w' v' (qs ++ [p]) → Only (fun b => v.ownBlock = some b) W w' → wpList Tryz.prog ops Q rest (a.put o.dst v') w') :
    wpList Tryz.prog ops Q (o :: rest) a (W.alloc (.cells #[.int .u8 p] 5)) := by
  obtain ⟨i0, hi, hz0, hz1, hz2⟩ := info_parts info_uint8
  exact app1 s x 22 base 5 i0 _ 1 1 Tryz.underlying22 hi hz0 hz1 hz2 rfl (by decide) (by decide) W v qs.length (bcells qs) _ rfl rfl ho hgd hs hx hown hn hbase
    (fun v' w' h1 h2 => h v' w' (by unfold OwnB; simpa [bcells] using h1) h2)

/-- the digits of a number, the last ahead; none of nought -/
def rdg (u : Nat) : List Int := if u = 0 then [] else (Lib.decDigits u).reverse.map fun b => (b.toNat : Int)
theorem rdg_zero : rdg 0 = [] := rfl
theorem rdg_step {u : Nat} (h : 0 < u) : rdg u = ((48 + u % 10 : Nat) : Int) :: rdg (u / 10) := by
  unfold rdg
  rw [if_neg (by omega), Lib.decDigits]
  by_cases h1 : u < 10
  · rw [dif_pos h1, if_pos (by omega)]
    have : u % 10 = u := by omega
    simp [this]; omega
  · rw [dif_neg h1, if_neg (by omega)]
    simp
    omega
theorem rdg_len {u : Nat} (h : u ≤ 9223372036854775808) : (rdg u).length ≤ 21 := by
  unfold rdg
  split
  · simp
  · rename_i h0
    have h2 : u = 9223372036854775808 ∨ u ≤ 9223372036854775807 := by omega
    rcases h2 with rfl | h2
    · have := Lib.itoa_length_le (-((9223372036854775808 : Nat) : Int)) (by omega) (by omega)
      rw [Lib.itoa_neg _ (by omega)] at this
      simp at this ⊢; omega
    · have := Lib.itoa_length_le ((u : Nat) : Int) (by omega) (by omega)
      rw [Lib.itoa_nonneg] at this
      simpa using this
def decB (n : Int) : ByteArray := ⟨(Lib.itoa n).toArray⟩
def decS (n : Int) : List Int := rdg n.natAbs ++ if n < 0 then [45] else []
theorem strOf_map (l : List UInt8) : strOfNums (l.map fun b => (b.toNat : Int)) = ⟨l.toArray⟩ := by
  unfold strOfNums
  congr 1
  rw [List.map_map]
  congr 1
  conv => rhs; rw [← List.map_id l]
  apply List.map_congr_left
  intro b _
  simp
theorem decS_str {n : Int} (h : n ≠ 0) : strOfNums (decS n).reverse = decB n := by
  unfold decS decB rdg
  rw [if_neg (by omega)]
  by_cases h1 : n < 0
  · rw [if_pos h1, List.reverse_append]
    have e : Lib.itoa n = 45 :: Lib.decDigits n.natAbs := by unfold Lib.itoa; rw [if_pos h1]
    rw [e, ← strOf_map]
    simp [List.map_reverse]
  · rw [if_neg h1, List.append_nil]
    have e : Lib.itoa n = Lib.decDigits n.natAbs := by unfold Lib.itoa; rw [if_neg h1]; congr 1; omega
    rw [e, ← strOf_map]
    simp [List.map_reverse]

end Go.Proofs.YtgdadbmhdljcdaaGreatDoor
