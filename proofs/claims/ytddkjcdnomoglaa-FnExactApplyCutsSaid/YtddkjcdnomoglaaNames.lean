/- Names: both functions. -/
import Derived.Test.YtddkjcdnomoglaaZones
import Derived.Test.YtddkjcdnomoglaaCuts2
import Derived.Test.YtddkjcdnomoglaaStore
import Derived.Laws.IdiomStrings
namespace Go.Proofs.Ytddkjcdnomoglaa
set_option linter.unusedVariables false
open Go.RowKit Go.Proofs.Bell Go.BigFrame

def smallB (b : Int) : Bool := inB b 97 122
def digitB (b : Int) : Bool := inB b 48 57
def byteAt (s : ByteArray) (k : Nat) : Int := ((s.data.toList.getD k 0).toNat : Int)
def nameAt (s : ByteArray) (k : Nat) : Bool := smallB (byteAt s k) || (!(k == 0) && digitB (byteAt s k))
def nameB (s : ByteArray) : Bool := decide (1 ≤ s.size) && decide (s.size ≤ 10) && (List.range s.size).all (nameAt s)

theorem l01Small_c (b : Int) (w : World) (h0 : 0 ≤ b) (h1 : b ≤ 255) : Calls Try.prog 156 #[.int .u8 b] w (RetS (.bool (smallB b)) w) := by
  by_cases h : 97 ≤ b <;> by_cases h' : b ≤ 122 <;>
  · go_enter Try.func156, Try.ntmps156
    go_wp2
    go_returns
    exact RetS.mk (bool_eq (by simp [smallB, inB]; omega))

theorem l01Digit_c (b : Int) (w : World) (h0 : 0 ≤ b) (h1 : b ≤ 255) : Calls Try.prog 157 #[.int .u8 b] w (RetS (.bool (digitB b)) w) := by
  by_cases h : 48 ≤ b <;> by_cases h' : b ≤ 57 <;>
  · go_enter Try.func157, Try.ntmps157
    go_wp2
    go_returns
    exact RetS.mk (bool_eq (by simp [digitB, inB]; omega))

theorem byteAt_bd (s : ByteArray) (k : Nat) : 0 ≤ byteAt s k ∧ byteAt s k ≤ 255 := by
  unfold byteAt
  have := (s.data.toList.getD k 0).toNat_lt
  omega

theorem byteAt_eq {s : ByteArray} {k : Nat} (h : k < s.size) : ((s[k]'h).toNat : Int) = byteAt s k := by
  obtain ⟨⟨l⟩⟩ := s
  have hl : k < l.length := h
  have e : (ByteArray.mk ⟨l⟩)[k]'h = l.getD k 0 := by
    simp only [List.getD, List.getElem?_eq_getElem hl, Option.getD_some]
    rfl
  unfold byteAt
  rw [e]

theorem ixs {s : ByteArray} {k : Nat} (h : k < s.size) (i : Int) (hi : i = k) (w : World) : (Instr.index 9 (.string s) (.int .i64 i)).run Try.prog w = .ok (.int .u8 (byteAt s k)) w := by
  subst hi
  rw [run_index_string w 9 s .i64 _ Try.underlying9, dif_pos ⟨by omega, by omega⟩]
  simp only [Int.toNat_natCast]
  rw [byteAt_eq h]

set_option maxHeartbeats 800000 in
theorem l01Name_c (s : ByteArray) (w : World) (hs : s.size ≤ maxLen) : Calls Try.prog 127 #[.string s] w (RetS (.bool (nameB s)) w) := by
  unfold maxLen at hs
  by_cases h0 : s = ⟨#[]⟩
  · subst h0
    go_enter Try.func127, Try.ntmps127
    go_wp2
    go_returns
    exact RetS.mk (bool_eq (by decide))
  · have hne : s.toList.isEmpty = false := by
      have := name_ne h0
      simpa using this
    have hpos : 0 < s.size := by
      rcases Nat.eq_zero_or_pos s.size with e | e
      · exfalso; apply h0
        obtain ⟨d⟩ := s
        have : d.size = 0 := e
        rw [Array.eq_empty_of_size_eq_zero this]
      · exact e
    clear h0
    by_cases h10 : s.size ≤ 10
    · have hi0 := ixs (s := s) (k := 0) hpos 0 rfl
      have hb := byteAt_bd s 0
      have hn0 : nameAt s 0 = smallB (byteAt s 0) := by simp [nameAt]
      have hf : nameAt s 0 = false → nameB s = false := fun h => by unfold nameB; rw [range_false hpos h]; simp
      have HN0 := Lib.hid hn0; clear hn0
      have HF := Lib.hid hf; clear hf
      have hgo : ∀ k, k < s.size → nameAt s k = false → nameB s = false := fun k hk h => by unfold nameB; rw [range_false hk h]; simp
      have HGO := Lib.hid hgo; clear hgo
      have hok : (List.range s.size).all (nameAt s) = true → nameB s = true := fun h => by unfold nameB; rw [h]; simp; omega
      have HOK := Lib.hid hok; clear hok
      cases t0 : smallB (byteAt s 0)
      · go_enter Try.func127, Try.ntmps127
        go_wp2_with (go_at_call 156; refine (l01Small_c _ _ hb.1 hb.2).mono ?_; rintro _ _ ⟨rfl, rfl⟩; rw [t0])
        go_returns
        exact RetS.mk (bool_eq (HF.out (HN0.out.trans t0)).symm)
      · go_enter Try.func127, Try.ntmps127
        go_wp2_with (first | (go_at_call 156; refine (l01Small_c _ _ hb.1 hb.2).mono ?_; rintro _ _ ⟨rfl, rfl⟩; rw [t0]))
        go_loop [3] (fun i => ∃ (k : Nat), k ≤ s.size ∧ i = .int .i64 k ∧ (List.range k).all (nameAt s) = true) (fun i => s.size - (intOf i).toNat)
        case atStart => exact ⟨0, Nat.zero_le _, rfl, rfl⟩
        case round =>
          obtain ⟨k, hk, rfl, hx⟩ := hrel
          have HX := Lib.hid hx; clear hx
          by_cases hlt : k < s.size
          · have hix := ixs (s := s) (k := k) hlt k rfl
            have hbk := byteAt_bd s k
            have hp : nameAt s k = true → (List.range (k + 1)).all (nameAt s) = true := fun h => range_step HX.out h
            have HP := Lib.hid hp; clear hp
            have hq : nameAt s k = false → nameB s = false := HGO.out k hlt
            have HQ := Lib.hid hq; clear hq
            have hr : smallB (byteAt s k) = true → nameAt s k = true := fun h => by simp [nameAt, h]
            have hr2 : smallB (byteAt s k) = false → nameAt s k = digitB (byteAt s k) := fun h => by
              rcases Nat.eq_zero_or_pos k with rfl | hk
              · rw [h] at t0; cases t0
              · have : (k == 0) = false := by simp; omega
                simp [nameAt, h, this]
            have HR := Lib.hid hr; clear hr
            have HR2 := Lib.hid hr2; clear hr2
            have T0 := Lib.hid t0; clear t0
            clear hb hi0
            generalize byteAt s k = z at *
            cases t1 : smallB z
            · have hn2 := HR2.out t1
              cases t2 : digitB z
              · have HN2 := Lib.hid hn2; clear hn2
                go_wp2_with (first | (go_at_call 156; refine (l01Small_c _ _ hbk.1 hbk.2).mono ?_; rintro _ _ ⟨rfl, rfl⟩; rw [t1]) | (go_at_call 157; refine (l01Digit_c _ _ hbk.1 hbk.2).mono ?_; rintro _ _ ⟨rfl, rfl⟩; rw [t2]))
                go_returns
                exact RetS.mk (bool_eq (HQ.out (HN2.out.trans t2)).symm)
              · have HN2 := Lib.hid hn2; clear hn2
                go_wp2_with (first | (go_at_call 156; refine (l01Small_c _ _ hbk.1 hbk.2).mono ?_; rintro _ _ ⟨rfl, rfl⟩; rw [t1]) | (go_at_call 157; refine (l01Digit_c _ _ hbk.1 hbk.2).mono ?_; rintro _ _ ⟨rfl, rfl⟩; rw [t2]))
                go_round
                case rel => exact ⟨k + 1, by omega, by go_num, HP.out (HN2.out.trans t2)⟩
                case measure => simp [intOf]; omega
            · go_wp2_with (first | (go_at_call 156; refine (l01Small_c _ _ hbk.1 hbk.2).mono ?_; rintro _ _ ⟨rfl, rfl⟩; rw [t1]) | (go_at_call 157; refine (l01Digit_c _ _ hbk.1 hbk.2).mono ?_; rintro _ _ ⟨rfl, rfl⟩; rw [t2]))
              go_round
              case rel => exact ⟨k + 1, by omega, by go_num, HP.out (HR.out t1)⟩
              case measure => simp [intOf]; omega
          · obtain rfl : k = s.size := by omega
            go_wp2
            go_returns
            exact RetS.mk (bool_eq (HOK.out HX.out).symm)
    · have hf : nameB s = false := by unfold nameB; simp; omega
      have HF := Lib.hid hf; clear hf
      go_enter Try.func127, Try.ntmps127
      go_wp2
      go_returns
      exact RetS.mk (bool_eq HF.out.symm)

theorem conv_bytes (s : ByteArray) (w : World) : ∃ (cap : Nat) (w1 : World), (convert 9 165 (.string s)).run Try.prog w = .ok (.slice (some ⟨w.heap.size, 0, none⟩) s.size cap) w1 ∧ Below w.heap.size w w1 ∧
    ∀ k, k < s.size → w1.cell? ⟨w.heap.size, k, none⟩ = some (.int .u8 (byteAt s k)) := by
  refine ⟨_, _, run_bytes_of_string w 9 165 5 s Try.underlying9 Try.underlying165 Try.underlying5, ?_, ?_⟩
  · exact ((Below.refl _ _).drew).alloc (by simp) _
  · intro k hk
    have h1 := World.cell?_alloc_mark w.drew (bytesRow s (grownCap w s.size 0 5)) 5 ((bytesRow s (grownCap w s.size 0 5)).size, (bytesRow s (grownCap w s.size 0 5)).size + 1) k
    have h2 : w.drew.heap.size = w.heap.size := rfl
    rw [h2] at h1
    rw [h1, bytesRow_at s _ k hk]
    have := byteAt_eq hk
    rw [← this]
    rfl

theorem cells_u8 : Try.prog.cellsOf 5 = 1 := by kernel_rfl
theorem has_u8 : (Try.prog.info? 5).isSome = true := by kernel_rfl

theorem nameAt_eq (s : ByteArray) (k : Nat) : nameAt s k = (decide (97 ≤ byteAt s k) && decide (byteAt s k ≤ 122) || !(decide (k = 0)) && (decide (48 ≤ byteAt s k) && decide (byteAt s k ≤ 57))) := by
  have h : (k == 0) = decide (k = 0) := by by_cases h : k = 0 <;> simp [h]
  simp only [nameAt, smallB, digitB, inB, h, Bool.decide_and]

set_option maxHeartbeats 1600000 in
set_option maxRecDepth 1000000 in
theorem IsName_c (s : ByteArray) (w : World) (hs : s.size ≤ maxLen) : Calls Try.prog 131 #[.string s] w (RetB (.bool (nameB s)) w) := by
  unfold maxLen at hs
  by_cases h0 : 1 ≤ s.size
  · by_cases h10 : s.size ≤ 10
    · have hgo : ∀ k, k < s.size → nameAt s k = false → nameB s = false := fun k hk h => by unfold nameB; rw [range_false hk h]; simp
      have HGO := Lib.hid hgo; clear hgo
      have hok : (List.range s.size).all (nameAt s) = true → nameB s = true := fun h => by unfold nameB; rw [h]; simp; omega
      have HOK := Lib.hid hok; clear hok
      obtain ⟨cap, w1, hconv, b1, hc⟩ := conv_bytes s w
      have B1 := Lib.hid b1; clear b1
      have HC := Lib.hid hc; clear hc
      go_enter Try.func131, Try.ntmps131
      go_wp2_with fail
      go_loop [18] (fun i => ∃ (k : Nat), k ≤ s.size ∧ i = .int .i64 k ∧ (List.range k).all (nameAt s) = true) (fun i => s.size - (intOf i).toNat)
      case atStart => exact ⟨0, Nat.zero_le _, rfl, rfl⟩
      case round =>
        obtain ⟨k, hk, rfl, hx⟩ := hrel
        have HX := Lib.hid hx; clear hx
        by_cases hlt : k < s.size
        · have hix := ix (P := Try.prog) (T := 165) (cap := cap) (n := s.size) (b := w.heap.size) (off := 0) (ao := some ⟨w.heap.size, 0, none⟩) Try.underlying165 cells_u8 has_u8 (fun _ => rfl) hlt k rfl
          rw [Nat.mul_one, Nat.zero_add] at hix
          have hck := HC.out k hlt
          have hbk := byteAt_bd s k
          have hp : nameAt s k = true → (List.range (k + 1)).all (nameAt s) = true := fun h => range_step HX.out h
          have HP := Lib.hid hp; clear hp
          have hq : nameAt s k = false → nameB s = false := HGO.out k hlt
          have HQ := Lib.hid hq; clear hq
          have hn := nameAt_eq s k
          generalize byteAt s k = z at *
          clear hconv
          cases hkd : decide (k = 0)
          · have hk1 : ((k : Int) == 0) = false := by have := of_decide_eq_false hkd; simp; omega
            rw [hkd] at hn
            have HN := Lib.hid hn; clear hn
            by_cases a1 : 97 ≤ z <;> by_cases a2 : z ≤ 122 <;> by_cases a3 : 48 ≤ z <;> by_cases a4 : z ≤ 57 <;> first
            | (exfalso; omega)
            | (have hv : nameAt s k = true := (by rw [HN.out]; simp [a1, a2, a3, a4]; done)
               have HV := Lib.hid hv; clear hv
               go_wp2
               go_round
               case rel => exact ⟨k + 1, by omega, by go_num, HP.out HV.out⟩
               case measure => simp [intOf]; omega)
            | (have hv : nameAt s k = false := (by rw [HN.out]; simp [a1, a2, a3, a4]; done)
               have HV := Lib.hid hv; clear hv
               go_wp2
               go_returns
               exact RetB.mk (bool_eq (HQ.out HV.out).symm) B1.out)
          · have hk1 : ((k : Int) == 0) = true := by have := of_decide_eq_true hkd; simp [this]
            rw [hkd] at hn
            have HN := Lib.hid hn; clear hn
            by_cases a1 : 97 ≤ z <;> by_cases a2 : z ≤ 122 <;> by_cases a3 : 48 ≤ z <;> by_cases a4 : z ≤ 57 <;> first
            | (exfalso; omega)
            | (have hv : nameAt s k = true := (by rw [HN.out]; simp [a1, a2, a3, a4]; done)
               have HV := Lib.hid hv; clear hv
               go_wp2
               go_round
               case rel => exact ⟨k + 1, by omega, by go_num, HP.out HV.out⟩
               case measure => simp [intOf]; omega)
            | (have hv : nameAt s k = false := (by rw [HN.out]; simp [a1, a2, a3, a4]; done)
               have HV := Lib.hid hv; clear hv
               go_wp2
               go_returns
               exact RetB.mk (bool_eq (HQ.out HV.out).symm) B1.out)
        · obtain rfl : k = s.size := by omega
          go_wp2
          go_returns
          exact RetB.mk (bool_eq (HOK.out HX.out).symm) B1.out
    · have hf : nameB s = false := by unfold nameB; simp; omega
      have HF := Lib.hid hf; clear hf
      go_enter Try.func131, Try.ntmps131
      go_wp2
      go_returns
      exact RetB.mk (bool_eq HF.out.symm) (Below.refl _ _)
  · have hf : nameB s = false := by unfold nameB; simp; omega
    have HF := Lib.hid hf; clear hf
    go_enter Try.func131, Try.ntmps131
    go_wp2
    go_returns
    exact RetB.mk (bool_eq HF.out.symm) (Below.refl _ _)

end Go.Proofs.Ytddkjcdnomoglaa
