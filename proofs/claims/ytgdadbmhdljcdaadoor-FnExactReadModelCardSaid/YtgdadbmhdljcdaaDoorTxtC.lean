/- Cuts as texts: the reference. -/
import Derived.Test.YtgdadbmhdljcdaaDoorGC
import Derived.Test.YtgdadbmhdljcdaaDoorGG
import Derived.Test.YtgdadbmhdljcdaaDoorTH
import Derived.BigQuiet
namespace Go.Proofs.YtgdadbmhdljcdaaDoor
set_option linter.unusedVariables false
open Go.RowKit Go.Proofs.Bell Go.BigFrame

def cutT (p : Int × Int) : List UInt8 := Lib.itoa p.1 ++ [120] ++ Lib.itoa p.2
def cutsT (ps : List (Int × Int)) : List UInt8 := if ps = [] then [45] else Lib.join (ps.map cutT) [44]
def outJ (ps : List (Int × Int)) (k : Nat) : List UInt8 := Lib.join ((ps.take k).map cutT) [44]
theorem outJ_zero (ps : List (Int × Int)) : outJ ps 0 = [] := rfl
theorem outJ_step {ps : List (Int × Int)} {k : Nat} (h : k < ps.length) : outJ ps (k + 1) = if k = 0 then cutT ps[k] else outJ ps k ++ [44] ++ cutT ps[k] := by
  unfold outJ
  rw [List.take_succ_eq_append_getElem h, List.map_append, List.map_cons, List.map_nil, join_snoc]
  by_cases h0 : k = 0
  · subst h0; simp
  · rw [if_neg h0, if_neg (fun e => by have := congrArg List.length e; rw [List.length_map, List.length_take, List.length_nil] at this; omega)]
theorem outJ_end {ps : List (Int × Int)} (h : 1 ≤ ps.length) : cutsT ps = outJ ps ps.length := by
  unfold cutsT outJ
  rw [List.take_length, if_neg (by rintro rfl; simp at h)]
def I64s (n : Int) : Prop := -9223372036854775808 ≤ n ∧ n ≤ 9223372036854775807
theorem cutT_len {p : Int × Int} (h1 : I64s p.1) (h2 : I64s p.2) : 1 ≤ (cutT p).length ∧ (cutT p).length ≤ 43 := by
  have a := Lib.itoa_length_le p.1 h1.1 h1.2
  have b := Lib.itoa_length_le p.2 h2.1 h2.2
  unfold cutT
  simp; omega
theorem outJ_len {ps : List (Int × Int)} (h : ∀ p ∈ ps, I64s p.1 ∧ I64s p.2) : ∀ k, k ≤ ps.length → (outJ ps k).length ≤ 44 * k
  | 0, _ => by simp [outJ_zero]
  | k + 1, hk => by
    have ih := outJ_len h k (by omega)
    have hp := h ps[k] (List.getElem_mem (by omega))
    have hc := cutT_len hp.1 hp.2
    rw [outJ_step (by omega)]
    split
    · omega
    · simp; omega
theorem outJ_pos {ps : List (Int × Int)} (h : ∀ p ∈ ps, I64s p.1 ∧ I64s p.2) {k : Nat} (h1 : 1 ≤ k) (hk : k ≤ ps.length) : outJ ps k ≠ [] := by
  obtain ⟨k, rfl⟩ : ∃ j, k = j + 1 := ⟨k - 1, by omega⟩
  have hp := h ps[k] (List.getElem_mem (by omega))
  have hc := cutT_len hp.1 hp.2
  rw [outJ_step (by omega)]
  intro e
  have := congrArg List.length e
  rw [List.length_nil] at this
  split at this
  · omega
  · simp at this

set_option maxRecDepth 1000000 in
set_option maxHeartbeats 3200000 in
theorem l09Text_c (v : Value) (ps : List (Int × Int)) (w : World) (h : Rd w v ps.length (pairs ps)) (hp : ∀ p ∈ ps, I64s p.1 ∧ I64s p.2) (hl : ps.length ≤ 1000) :
    Calls Tryd.prog 54 #[v] w (RetB (.string (str (cutsT ps))) w) := by
  have hst := fun k (hk : k < ps.length) => outJ_step hk
  have hle := fun k (hk : k ≤ ps.length) => outJ_len hp k hk
  have hpo := fun k h1 (hk : k ≤ ps.length) => outJ_pos hp (k := k) h1 hk
  have hel := fun k (hk : k < ps.length) => hp ps[k] (List.getElem_mem hk)
  have hend : 1 ≤ ps.length → cutsT ps = outJ ps ps.length := fun h => outJ_end h
  have hnil : ps.length = 0 → cutsT ps = [45] := fun h => by
    obtain rfl : ps = [] := List.eq_nil_of_length_eq_zero h
    rfl
  have hzero := outJ_zero ps
  obtain ⟨hn, ao, cap, bb, off, rfl, hao, hcell⟩ := h.open
  have hc0 := fun wr (hb : Below w.heap.size w wr) k (hk : k < ps.length) => hcell wr hb (k * 2) _ (by omega) (pairs_at hk).1
  have hc1 := fun wr (hb : Below w.heap.size w wr) k (hk : k < ps.length) => hcell wr hb (k * 2 + 1) _ (by omega) (pairs_at hk).2
  generalize cutsT ps = RES at *
  clear h hcell
  have HST := Lib.hid hst; clear hst
  have HLE := Lib.hid hle; clear hle
  have HPO := Lib.hid hpo; clear hpo
  have HEL := Lib.hid hel; clear hel
  have HEND := Lib.hid hend; clear hend
  have HNIL := Lib.hid hnil; clear hnil
  have HZERO := Lib.hid hzero; clear hzero
  have HC0 := Lib.hid hc0; clear hc0
  have HC1 := Lib.hid hc1; clear hc1
  clear hp
  go_enter Tryd.func54, Tryd.ntmps54
  go_wp2_with fail
  go_loopw [4, 3] (fun i o wr => ∃ (k : Nat), k ≤ ps.length ∧ i = .int .i64 k ∧ o = .string (str (outJ ps k)) ∧ Below w.heap.size w wr) (fun i _ _ => ps.length - (intOf i).toNat)
  case atStart => exact ⟨0, Nat.zero_le _, rfl, by rw [HZERO.out]; rfl, Below.refl _ _⟩
  case round =>
    obtain ⟨k, hk, rfl, rfl, hb⟩ := hrel
    by_cases hlt : k < ps.length
    · have hix := ix (P := Tryd.prog) (T := 34) (n := ps.length) (cap := cap) Tryd.underlying34 cells_Cut has_Cut hao (k := k) hlt _ rfl
      have c0 := HC0.out wr hb k hlt
      have c1 := HC1.out wr hb k hlt
      have hI := HEL.out k hlt
      have hi0 := hI.1
      have hi1 := hI.2
      have hd : ∀ (s : Lat wr) (x : Int), I64s x → Calls Tryd.prog 91 #[.int .i64 x] s.world (RetB (.string (decB x)) s.world) := fun s x h => l01Dec_c x h.1 h.2 s.world
      have hs := HST.out k hlt
      have hlen := HLE.out k hk
      have l0 := Lib.itoa_length_le (ps[k]).1 hI.1.1 hI.1.2
      have l1 := Lib.itoa_length_le (ps[k]).2 hI.2.1 hI.2.2
      unfold cutT at hs
      generalize (ps[k]).1 = z at *
      generalize (ps[k]).2 = y at *
      generalize hT : outJ ps (k + 1) = T at *
      have hst0 := str_size (Lib.itoa z)
      have hst1 := str_size (Lib.itoa y)
      have hsto := str_size (outJ ps k)
      have hx : (⟨#[120]⟩ : ByteArray).size = 1 := rfl
      have hy : (⟨#[44]⟩ : ByteArray).size = 1 := rfl
      have e1 : ∀ X : ByteArray, (X ++ (str (Lib.itoa z) ++ ⟨#[120]⟩ ++ str (Lib.itoa y))) = X ++ str (Lib.itoa z ++ [120] ++ Lib.itoa y) := fun X => by
        rw [show (⟨#[120]⟩ : ByteArray) = str [120] from rfl, str_app, str_app]
      have e2 : (str (outJ ps k) ++ ⟨#[44]⟩ : ByteArray) = str (outJ ps k ++ [44]) := by
        rw [show (⟨#[44]⟩ : ByteArray) = str [44] from rfl, str_app]
      by_cases hk0 : k = 0
      · have hk0d : decide (0 < k) = false := by simp; omega
        rw [if_pos hk0] at hs
        have hO : str (outJ ps k) = ⟨#[]⟩ := by rw [hk0, HZERO.out]; rfl
        have hEq : (str (outJ ps k) ++ (str (Lib.itoa z) ++ ⟨#[120]⟩ ++ str (Lib.itoa y))) = str T := by
          rw [e1, str_app, hs, hk0, HZERO.out]; rfl
        have HK0 := Lib.hid hk0; clear hk0
        generalize str (outJ ps k) = O at *
        rw [← decB_str, ← decB_str] at hEq
        rw [← decB_str] at hst0 hst1
        have HI0 := Lib.hid hi0; clear hi0
        have HI1 := Lib.hid hi1; clear hi1
        have HD := Lib.hid hd; clear hd
        have z1 : (decB z).size + (⟨#[120]⟩ : ByteArray).size ≤ 9223372036854775807 := by omega
        have z2 : (decB z ++ ⟨#[120]⟩).size + (decB y).size ≤ 9223372036854775807 := by rw [ByteArray.size_append]; omega
        have z3 : O.size + (decB z ++ ⟨#[120]⟩ ++ decB y).size ≤ 9223372036854775807 := by rw [ByteArray.size_append, ByteArray.size_append]; omega
        have f0 : ∀ s : Lat wr, s.world.cell? ⟨bb, off + k * 2, none⟩ = some (.int .i64 z) := fun s => s.cell c0
        have f1 : ∀ s : Lat wr, s.world.cell? ⟨bb, off + k * 2 + 1, none⟩ = some (.int .i64 y) := fun s => s.cell (by rw [Nat.add_assoc]; exact c1)
        have HEQ := Lib.hid hEq; clear hEq
        have HT := Lib.hid hT; clear hT
        clear c0 c1 e1 e2 hx hy hs hst0 hst1 hsto hO
        go_wp2_with fail
        refine wp_region_lat (by kernel_rfl) (by kernel_rfl) ?_
        repeat (go_big_quiet_step (first | (go_at_call 91; exact Lat.callB (HD.out _ _ (by first | exact HI0.out | exact HI1.out)))))
        refine wpQuiet_nil ?_
        rintro _ ⟨s, rfl⟩
        have b9 := hb.trans (s.below.mono hb.size)
        clear f0 f1 z1 z2 z3
        go_wp2
        go_roundw
        case rel => exact ⟨k + 1, by omega, by go_num, by rw [HEQ.out, HT.out], b9⟩
        case measure => simp [intOf]; omega
      · have hk0d : decide (0 < k) = true := by simp; omega
        rw [if_neg hk0] at hs
        have hEq : (str (outJ ps k) ++ ⟨#[44]⟩ ++ (str (Lib.itoa z) ++ ⟨#[120]⟩ ++ str (Lib.itoa y))) = str T := by
          rw [e2, e1, str_app, hs]
        have HK0 := Lib.hid hk0; clear hk0
        generalize str (outJ ps k) = O at *
        rw [← decB_str, ← decB_str] at hEq
        rw [← decB_str] at hst0 hst1
        have HI0 := Lib.hid hi0; clear hi0
        have HI1 := Lib.hid hi1; clear hi1
        have HD := Lib.hid hd; clear hd
        have z1 : (decB z).size + (⟨#[120]⟩ : ByteArray).size ≤ 9223372036854775807 := by omega
        have z2 : (decB z ++ ⟨#[120]⟩).size + (decB y).size ≤ 9223372036854775807 := by rw [ByteArray.size_append]; omega
        have z3 : (O ++ ⟨#[44]⟩).size + (decB z ++ ⟨#[120]⟩ ++ decB y).size ≤ 9223372036854775807 := by rw [ByteArray.size_append, ByteArray.size_append, ByteArray.size_append]; omega
        have z4 : O.size ≤ 9223372036854775806 := by omega
        have z6 : (O.size : Int) + 1 ≤ 9223372036854775807 := by omega
        have z7 : (O.size : Int) < 9223372036854775807 := by omega
        have z8 : (O.size : Int) ≤ 9223372036854775806 := by omega
        have z5 : O.size + (⟨#[44]⟩ : ByteArray).size ≤ 9223372036854775807 := by omega
        have f0 : ∀ s : Lat wr, s.world.cell? ⟨bb, off + k * 2, none⟩ = some (.int .i64 z) := fun s => s.cell c0
        have f1 : ∀ s : Lat wr, s.world.cell? ⟨bb, off + k * 2 + 1, none⟩ = some (.int .i64 y) := fun s => s.cell (by rw [Nat.add_assoc]; exact c1)
        have HEQ := Lib.hid hEq; clear hEq
        have HT := Lib.hid hT; clear hT
        clear c0 c1 e1 e2 hx hy hs hst0 hst1 hsto
        go_wp2_with fail
        refine wp_region_lat (by kernel_rfl) (by kernel_rfl) ?_
        repeat (go_big_quiet_step (first | (go_at_call 91; exact Lat.callB (HD.out _ _ (by first | exact HI0.out | exact HI1.out)))))
        refine wpQuiet_nil ?_
        rintro _ ⟨s, rfl⟩
        have b9 := hb.trans (s.below.mono hb.size)
        clear f0 f1 z1 z2 z3 z4 z5 z6 z7 z8
        go_wp2
        go_roundw
        case rel => exact ⟨k + 1, by omega, by go_num, by rw [HEQ.out, HT.out], b9⟩
        case measure => simp [intOf]; omega
    · obtain rfl : k = ps.length := by omega
      rcases Nat.eq_zero_or_pos ps.length with h0 | h0
      · have he := HNIL.out h0
        have e0 : outJ ps ps.length = [] := by rw [h0]; exact HZERO.out
        rw [e0, show str [] = ⟨#[]⟩ from rfl]
        clear e0
        have H0 := Lib.hid h0; clear h0
        have HE := Lib.hid he; clear he
        go_wp2
        go_returns
        exact RetB.mk (by rw [HE.out]; rfl) hb
      · have he := HEND.out h0
        have hne : (str (outJ ps ps.length)).toList.isEmpty = false := by
          have := HPO.out ps.length h0 (Nat.le_refl _)
          have hne : str (outJ ps ps.length) ≠ ⟨#[]⟩ := fun e => this (List.eq_nil_of_length_eq_zero (by have := congrArg ByteArray.size e; rw [str_size] at this; exact this))
          simpa using name_ne hne
        have he2 : str (outJ ps ps.length) = str RES := congrArg str he.symm
        generalize str (outJ ps ps.length) = O at *
        have HE := Lib.hid he2; clear he2
        clear he
        go_wp2
        go_returns
        exact RetB.mk (congrArg Value.string HE.out) hb

end Go.Proofs.YtgdadbmhdljcdaaDoor
