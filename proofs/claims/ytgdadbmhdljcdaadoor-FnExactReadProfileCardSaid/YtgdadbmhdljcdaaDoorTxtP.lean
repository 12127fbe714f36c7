/- Profiles as texts: the reference. -/
import Derived.Test.YtgdadbmhdljcdaaDoorGD
import Derived.Test.YtgdadbmhdljcdaaDoorTxtC
import Derived.BigQuiet
namespace Go.Proofs.YtgdadbmhdljcdaaDoor
set_option linter.unusedVariables false
open Go.RowKit Go.Proofs.Bell Go.BigFrame

def ringW (p : Int × Int × Int) : List UInt8 := Lib.itoa p.1 ++ [47] ++ Lib.itoa p.2.1 ++ [47] ++ Lib.itoa p.2.2
def outP (nm : ByteArray) (ps : List (Int × Int × Int)) (k : Nat) : List UInt8 := Lib.join (nm.data.toList :: (ps.take k).map ringW) [32]
theorem str_toList (b : ByteArray) : str b.data.toList = b := by simp [str]
theorem outP_zero (nm : ByteArray) (ps : List (Int × Int × Int)) : outP nm ps 0 = nm.data.toList := by simp [outP, Lib.join_one]
theorem outP_step {nm : ByteArray} {ps : List (Int × Int × Int)} {k : Nat} (h : k < ps.length) : outP nm ps (k + 1) = outP nm ps k ++ [32] ++ ringW ps[k] := by
  unfold outP
  rw [List.take_succ_eq_append_getElem h, List.map_append, List.map_cons, List.map_nil, ← List.cons_append, join_snoc, if_neg (by simp)]
def I64t (p : Int × Int × Int) : Prop := I64s p.1 ∧ I64s p.2.1 ∧ I64s p.2.2
theorem outP_len {nm : ByteArray} {ps : List (Int × Int × Int)} (hn : nm.size ≤ 10) (h : ∀ p ∈ ps, I64t p) : ∀ k, k ≤ ps.length → (outP nm ps k).length ≤ 10 + 70 * k
  | 0, _ => by rw [outP_zero]; simpa using hn
  | k + 1, hk => by
    have ih := outP_len hn h k (by omega)
    have hp := h ps[k] (List.getElem_mem (by omega))
    have a := Lib.itoa_length_le ps[k].1 hp.1.1 hp.1.2
    have b := Lib.itoa_length_le ps[k].2.1 hp.2.1.1 hp.2.1.2
    have c := Lib.itoa_length_le ps[k].2.2 hp.2.2.1 hp.2.2.2
    rw [outP_step (by omega)]
    simp [ringW]; omega
def profTI (nm : ByteArray) (ps : List (Int × Int × Int)) : ByteArray := if profB nm ps then str (outP nm ps ps.length) else ⟨#[]⟩
theorem profB_I {nm : ByteArray} {ps : List (Int × Int × Int)} (h : profB nm ps = true) : (∀ p ∈ ps, I64t p) ∧ ps.length ≤ 32 ∧ nm.size ≤ 10 := by
  obtain ⟨_, h2, h3, _⟩ := profB_t h
  refine ⟨fun p hp => ?_, h2, ?_⟩
  · have := ringT_t (List.all_eq_true.1 h3 p hp)
    unfold I64t I64s
    omega
  · simp only [profB, nameB, Bool.and_eq_true, decide_eq_true_eq] at h
    omega

set_option maxRecDepth 1000000 in
set_option maxHeartbeats 3200000 in
theorem l05Text_c (g : Nat) (nm : ByteArray) (sv : Value) (ps : List (Int × Int × Int)) (w : World) (hnm : nm.size ≤ 10) (c0 : w.cell? ⟨g, 0, none⟩ = some (.string nm)) (c1 : w.cell? ⟨g, 1, none⟩ = some sv) (h : Rd w sv ps.length (trips ps))
    (hp : ∀ p ∈ ps, I64t p) (hl : ps.length ≤ 32) :
    Calls Tryd.prog 62 #[.pointer (some ⟨g, 0, none⟩)] w (RetB (.string (str (outP nm ps ps.length))) w) := by
  have hst := fun k (hk : k < ps.length) => outP_step (nm := nm) hk
  have hle := fun k (hk : k ≤ ps.length) => outP_len hnm hp k hk
  have hel := fun k (hk : k < ps.length) => hp ps[k] (List.getElem_mem hk)
  have hzero : str (outP nm ps 0) = nm := by rw [outP_zero, str_toList]
  obtain ⟨hn, ao, cap, bb, off, rfl, hao, hcell⟩ := h.open
  have hc0 := fun wr (hb : Below w.heap.size w wr) k (hk : k < ps.length) => hcell wr hb (k * 3) _ (by omega) (trips_at hk).1
  have hc1 := fun wr (hb : Below w.heap.size w wr) k (hk : k < ps.length) => hcell wr hb (k * 3 + 1) _ (by omega) (trips_at hk).2.1
  have hc2 := fun wr (hb : Below w.heap.size w wr) k (hk : k < ps.length) => hcell wr hb (k * 3 + 2) _ (by omega) (trips_at hk).2.2
  clear h hcell hp
  have HST := Lib.hid hst; clear hst
  have HLE := Lib.hid hle; clear hle
  have HEL := Lib.hid hel; clear hel
  have HZERO := Lib.hid hzero; clear hzero
  have HC0 := Lib.hid hc0; clear hc0
  have HC1 := Lib.hid hc1; clear hc1
  have HC2 := Lib.hid hc2; clear hc2
  go_enter Tryd.func62, Tryd.ntmps62
  go_wp2_with fail
  go_loopw [4, 3] (fun i o wr => ∃ (k : Nat), k ≤ ps.length ∧ i = .int .i64 k ∧ o = .string (str (outP nm ps k)) ∧ Below w.heap.size w wr) (fun i _ _ => ps.length - (intOf i).toNat)
  case atStart => exact ⟨0, Nat.zero_le _, rfl, by rw [HZERO.out], Below.refl _ _⟩
  case round =>
    obtain ⟨k, hk, rfl, rfl, hb⟩ := hrel
    have b1 := below_cell hb c1
    by_cases hlt : k < ps.length
    · have hix := ix (P := Tryd.prog) (T := 43) (n := ps.length) (cap := cap) Tryd.underlying43 cells_Ring has_Ring hao (k := k) hlt _ rfl
      have d0 := HC0.out wr hb k hlt
      have d1 := HC1.out wr hb k hlt
      have d2 := HC2.out wr hb k hlt
      have hI := HEL.out k hlt
      have hi0 := hI.1
      have hi1 := hI.2.1
      have hi2 := hI.2.2
      have hd : ∀ (s : Lat wr) (x : Int), I64s x → Calls Tryd.prog 91 #[.int .i64 x] s.world (RetB (.string (decB x)) s.world) := fun s x h => l01Dec_c x h.1 h.2 s.world
      have hs := HST.out k hlt
      have hlen := HLE.out k hk
      have l0 := Lib.itoa_length_le (ps[k]).1 hi0.1 hi0.2
      have l1 := Lib.itoa_length_le (ps[k]).2.1 hi1.1 hi1.2
      have l2 := Lib.itoa_length_le (ps[k]).2.2 hi2.1 hi2.2
      unfold ringW at hs
      generalize (ps[k]).1 = x at *
      generalize (ps[k]).2.1 = y at *
      generalize (ps[k]).2.2 = z at *
      generalize hT : outP nm ps (k + 1) = T at *
      have s0 : (decB x).size ≤ 30 := by rw [decB_str, str_size]; omega
      have s1 : (decB y).size ≤ 30 := by rw [decB_str, str_size]; omega
      have s2 : (decB z).size ≤ 30 := by rw [decB_str, str_size]; omega
      have sO : (str (outP nm ps k)).size ≤ 10000 := by rw [str_size]; omega
      have hEq : (str (outP nm ps k) ++ (⟨#[32]⟩ ++ decB x ++ ⟨#[47]⟩ ++ decB y ++ ⟨#[47]⟩ ++ decB z)) = str T := by
        rw [decB_str, decB_str, decB_str, show (⟨#[32]⟩ : ByteArray) = str [32] from rfl, show (⟨#[47]⟩ : ByteArray) = str [47] from rfl]
        simp only [str_app]
        rw [hs]
        simp only [List.append_assoc]
      generalize str (outP nm ps k) = O at *
      have HI0 := Lib.hid hi0; clear hi0
      have HI1 := Lib.hid hi1; clear hi1
      have HI2 := Lib.hid hi2; clear hi2
      have HD := Lib.hid hd; clear hd
      have f0 : ∀ s : Lat wr, s.world.cell? ⟨bb, off + k * 3, none⟩ = some (.int .i64 x) := fun s => s.cell d0
      have f1 : ∀ s : Lat wr, s.world.cell? ⟨bb, off + k * 3 + 1, none⟩ = some (.int .i64 y) := fun s => s.cell (by rw [Nat.add_assoc]; exact d1)
      have f2 : ∀ s : Lat wr, s.world.cell? ⟨bb, off + k * 3 + 2, none⟩ = some (.int .i64 z) := fun s => s.cell (by rw [Nat.add_assoc]; exact d2)
      have f3 : ∀ s : Lat wr, s.world.cell? ⟨g, 1, none⟩ = some (.slice ao ps.length cap) := fun s => s.cell b1
      have HEQ := Lib.hid hEq; clear hEq
      have HT := Lib.hid hT; clear hT
      clear d0 d1 d2 hs hI l0 l1 l2 hlen
      go_wp2_with fail
      refine wp_region_lat (by kernel_rfl) (by kernel_rfl) ?_
      repeat (go_big_quiet_step (first | (go_at_call 91; exact Lat.callB (HD.out _ _ (by first | exact HI0.out | exact HI1.out | exact HI2.out)))))
      refine wpQuiet_nil ?_
      rintro _ ⟨s, rfl⟩
      have b9 := hb.trans (s.below.mono hb.size)
      clear f0 f1 f2 f3 s0 s1 s2 sO
      go_wp2
      go_roundw
      case rel => exact ⟨k + 1, by omega, by go_num, by rw [HEQ.out, HT.out], b9⟩
      case measure => simp [intOf]; omega
    · obtain rfl : k = ps.length := by omega
      go_wp2
      go_returns
      exact RetB.mk rfl hb

end Go.Proofs.YtgdadbmhdljcdaaDoor
