/- Lists as texts: the reference. -/
import Derived.Test.YtgdadbmhdljcdaaDoorTxtC
namespace Go.Proofs.YtgdadbmhdljcdaaDoor
set_option linter.unusedVariables false
open Go.RowKit Go.Proofs.Bell Go.BigFrame

def listT (zs : List Int) : List UInt8 := if zs = [] then [45] else Lib.join (zs.map Lib.itoa) [44]
def outL (zs : List Int) (k : Nat) : List UInt8 := Lib.join ((zs.take k).map Lib.itoa) [44]
theorem outL_zero (zs : List Int) : outL zs 0 = [] := rfl
theorem outL_step {zs : List Int} {k : Nat} (h : k < zs.length) : outL zs (k + 1) = if k = 0 then Lib.itoa zs[k] else outL zs k ++ [44] ++ Lib.itoa zs[k] := by
  unfold outL
  rw [List.take_succ_eq_append_getElem h, List.map_append, List.map_cons, List.map_nil, join_snoc]
  by_cases h0 : k = 0
  · subst h0; simp
  · rw [if_neg h0, if_neg (fun e => by have := congrArg List.length e; rw [List.length_map, List.length_take, List.length_nil] at this; omega)]
theorem outL_end {zs : List Int} (h : 1 ≤ zs.length) : listT zs = outL zs zs.length := by
  unfold listT outL
  rw [List.take_length, if_neg (by rintro rfl; simp at h)]
theorem outL_len {zs : List Int} (h : ∀ p ∈ zs, I64s p) : ∀ k, k ≤ zs.length → (outL zs k).length ≤ 22 * k
  | 0, _ => by simp [outL_zero]
  | k + 1, hk => by
    have ih := outL_len h k (by omega)
    have hp := h zs[k] (List.getElem_mem (by omega))
    have hc := Lib.itoa_length_le zs[k] hp.1 hp.2
    rw [outL_step (by omega)]
    split
    · omega
    · simp; omega
theorem listT_len {zs : List Int} (h : ∀ p ∈ zs, I64s p) : (listT zs).length ≤ 1 + 22 * zs.length := by
  rcases Nat.eq_zero_or_pos zs.length with h0 | h0
  · obtain rfl : zs = [] := List.eq_nil_of_length_eq_zero h0
    simp [listT]
  · have := outL_len h zs.length (Nat.le_refl _)
    rw [← outL_end h0] at this
    omega

set_option maxRecDepth 1000000 in
set_option maxHeartbeats 3200000 in
theorem l01List_c (v : Value) (zs : List Int) (w : World) (h : Rd w v zs.length (ints zs)) (hp : ∀ p ∈ zs, I64s p) (hl : zs.length ≤ 1000) :
    Calls Tryd.prog 114 #[v] w (RetB (.string (str (listT zs))) w) := by
  have hst := fun k (hk : k < zs.length) => outL_step hk
  have hle := fun k (hk : k ≤ zs.length) => outL_len hp k hk
  have hel := fun k (hk : k < zs.length) => hp zs[k] (List.getElem_mem hk)
  have hend : 1 ≤ zs.length → listT zs = outL zs zs.length := fun h => outL_end h
  have hnil : zs.length = 0 → listT zs = [45] := fun h => by
    obtain rfl : zs = [] := List.eq_nil_of_length_eq_zero h
    rfl
  have hzero := outL_zero zs
  obtain ⟨hn, ao, cap, bb, off, rfl, hao, hcell⟩ := h.open
  have hc0 := fun wr (hb : Below w.heap.size w wr) k (hk : k < zs.length) => hcell wr hb k (.int .i64 zs[k]) (by omega) (by simp [ints, hk])
  generalize listT zs = RES at *
  clear h hcell hp
  have HST := Lib.hid hst; clear hst
  have HLE := Lib.hid hle; clear hle
  have HEL := Lib.hid hel; clear hel
  have HEND := Lib.hid hend; clear hend
  have HNIL := Lib.hid hnil; clear hnil
  have HZERO := Lib.hid hzero; clear hzero
  have HC0 := Lib.hid hc0; clear hc0
  rcases Nat.eq_zero_or_pos zs.length with h0 | h0
  · rw [HNIL.out h0, h0]
    go_enter Tryd.func114, Tryd.ntmps114
    go_wp2
    go_returns
    exact RetB.mk rfl (Below.refl _ _)
  · rw [HEND.out h0]
    obtain rfl : ao = some ⟨bb, off, none⟩ := hao h0
    have hne : ((zs.length : Int) == 0) = false := beq_eq_false_iff_ne.2 (by omega)
    go_enter Tryd.func114, Tryd.ntmps114
    go_wp2_with fail
    go_loopw [4, 3] (fun i o wr => ∃ (k : Nat), k ≤ zs.length ∧ i = .int .i64 k ∧ o = .string (str (outL zs k)) ∧ Below w.heap.size w wr) (fun i _ _ => zs.length - (intOf i).toNat)
    case atStart => exact ⟨0, Nat.zero_le _, rfl, by rw [HZERO.out]; rfl, Below.refl _ _⟩
    case round =>
      obtain ⟨k, hk, rfl, rfl, hb⟩ := hrel
      by_cases hlt : k < zs.length
      · have hix := ix (P := Tryd.prog) (T := 22) (n := zs.length) (cap := cap) Tryd.underlying22 cells_int64 has_int64 (ao := some ⟨bb, off, none⟩) (b := bb) (off := off) (fun _ => rfl) (k := k) hlt _ rfl
        have c0 := HC0.out wr hb k hlt
        have hI := HEL.out k hlt
        have hs := HST.out k hlt
        have hlen := HLE.out k hk
        have l0 := Lib.itoa_length_le zs[k] hI.1 hI.2
        have hd := l01Dec_c zs[k] hI.1 hI.2 wr
        generalize zs[k] = z at *
        generalize hT : outL zs (k + 1) = T at *
        have s0 : (decB z).size ≤ 30 := by rw [decB_str, str_size]; omega
        have sO : (str (outL zs k)).size ≤ 100000 := by rw [str_size]; omega
        by_cases hk0 : k = 0
        · have hk0d : decide (0 < k) = false := by simp; omega
          rw [if_pos hk0] at hs
          have hEq : str (outL zs k) ++ decB z = str T := by
            rw [hs, hk0, HZERO.out, decB_str, str_app]; rfl
          have HK0 := Lib.hid hk0; clear hk0
          generalize str (outL zs k) = O at *
          have HD := Lib.hid hd; clear hd
          have z1 : O.size + (decB z).size ≤ 9223372036854775807 := by omega
          have HEQ := Lib.hid hEq; clear hEq
          have HT := Lib.hid hT; clear hT
          clear hs hlen l0
          go_wp2_with fail
          refine HD.out.mono ?_
          rintro _ w2 ⟨rfl, r2⟩
          have b9 := hb.trans (r2.mono hb.size)
          go_wp2
          go_roundw
          case rel => exact ⟨k + 1, by omega, by go_num, by rw [HEQ.out, HT.out], b9⟩
          case measure => simp [intOf]; omega
        · have hk0d : decide (0 < k) = true := by simp; omega
          rw [if_neg hk0] at hs
          have hEq : str (outL zs k) ++ ⟨#[44]⟩ ++ decB z = str T := by
            rw [hs, decB_str, show (⟨#[44]⟩ : ByteArray) = str [44] from rfl, str_app, str_app]
          have HK0 := Lib.hid hk0; clear hk0
          generalize str (outL zs k) = O at *
          have HD := Lib.hid hd; clear hd
          have z4 : O.size ≤ 9223372036854775806 := by omega
          have z6 : (O.size : Int) + 1 ≤ 9223372036854775807 := by omega
          have z7 : (O.size : Int) < 9223372036854775807 := by omega
          have z8 : (O.size : Int) ≤ 9223372036854775806 := by omega
          have hy : (⟨#[44]⟩ : ByteArray).size = 1 := rfl
          have z5 : O.size + (⟨#[44]⟩ : ByteArray).size ≤ 9223372036854775807 := by omega
          have z1 : (O ++ ⟨#[44]⟩).size + (decB z).size ≤ 9223372036854775807 := by rw [ByteArray.size_append]; omega
          have HEQ := Lib.hid hEq; clear hEq
          have HT := Lib.hid hT; clear hT
          clear hs hlen l0 hy
          go_wp2_with fail
          refine HD.out.mono ?_
          rintro _ w2 ⟨rfl, r2⟩
          have b9 := hb.trans (r2.mono hb.size)
          go_wp2
          go_roundw
          case rel => exact ⟨k + 1, by omega, by go_num, by rw [HEQ.out, HT.out], b9⟩
          case measure => simp [intOf]; omega
      · obtain rfl : k = zs.length := by omega
        go_wp2
        go_returns
        exact RetB.mk rfl hb

end Go.Proofs.YtgdadbmhdljcdaaDoor
