/- A text divided at a byte: the library's Split, and its Cut. -/
import Derived.Test.YtgdadbmhdljcdaaGreatDoorTxtX
import Derived.Test.YtgdadbmhdljcdaaGreatDoorWO
import Derived.Lib.SplitLaws
import Derived.Lib.IndexBytes
import Derived.Lib.IndexMore
namespace Go.Proofs.YtgdadbmhdljcdaaGreatDoor
set_option linter.unusedVariables false
open Go.RowKit Go.Proofs.Bell Go.BigFrame

theorem str_toList' (b : ByteArray) : str b.data.toList = b := by simp [str]
theorem first_at (c : UInt8) : ∀ l : List UInt8, (∀ x ∈ l, x ≠ c) ∨ ∃ a b, l = a ++ c :: b ∧ ∀ x ∈ a, x ≠ c
  | [] => .inl (fun _ h => by cases h)
  | x :: r => by
    by_cases e : x = c
    · exact .inr ⟨[], r, by rw [e]; rfl, fun _ h => by cases h⟩
    · rcases first_at c r with h | ⟨a, b, rfl, h⟩
      · exact .inl (fun y hy => (List.mem_cons.1 hy).elim (fun h1 => h1 ▸ e) (h y))
      · exact .inr ⟨x :: a, b, rfl, fun y hy => (List.mem_cons.1 hy).elim (fun h1 => h1 ▸ e) (h y)⟩
theorem index_no (c : UInt8) : ∀ {a : List UInt8}, (∀ x ∈ a, x ≠ c) → Lib.index a [c] = -1 := fun {a} h => by
  rw [Lib.index_one]
  induction a with
  | nil => rfl
  | cons x r ih =>
    unfold Lib.indexByte
    rw [if_neg (by simpa using h x (List.mem_cons_self ..)), ih (fun y hy => h y (List.mem_cons_of_mem _ hy))]
    rfl
theorem index_at (c : UInt8) : ∀ {a b : List UInt8}, (∀ x ∈ a, x ≠ c) → Lib.index (a ++ c :: b) [c] = a.length := fun {a b} h => by
  rw [Lib.index_one]
  induction a with
  | nil => simp [Lib.indexByte]
  | cons x r ih =>
    have e := ih (fun y hy => h y (List.mem_cons_of_mem _ hy))
    rw [List.cons_append]
    unfold Lib.indexByte
    rw [if_neg (by simpa using h x (List.mem_cons_self ..)), e, if_neg (by first | (simp; done) | (simp; omega))]
    simp
theorem splitK_one (c : UInt8) : ∀ (k : Nat) (l : List UInt8), l.count c ≤ k → Lib.splitK [c] 0 k l = spl c l
  | 0, l, h => by
    have h0 : l.count c = 0 := by omega
    rw [List.count_eq_zero] at h0
    rw [spl_none (fun x hx e => h0 (by rw [← e]; exact hx))]
    rfl
  | k + 1, l, h => by
    rcases first_at c l with hn | ⟨a, b, rfl, hn⟩
    · rw [Lib.splitK, index_no c hn, spl_none hn]; rfl
    · have hb : b.count c ≤ k := by
        rw [List.count_append, List.count_cons_self] at h
        omega
      rw [Lib.splitK, index_at c hn, if_neg (by first | (simp; done) | (simp; omega)), spl_app hn]
      have e1 : (a ++ c :: b).take ((a.length : Int).toNat + 0) = a := by simp
      have e2 : (a ++ c :: b).drop ((a.length : Int).toNat + [c].length) = b := by simp
      rw [e1, e2, splitK_one c k b hb]
theorem own_manyW (w : World) (ps : List ByteArray) (base : Nat) (hb : base ≤ w.heap.size) (h1 : 1 ≤ ps.length) (h2 : ps.length ≤ maxLen) : OwnW base (w.alloc (.cells (ps.map Value.string).toArray 9)) (.slice (some ⟨w.heap.size, 0, none⟩) ps.length ps.length) ps :=
  ⟨by simp [scells], .inr ⟨w.heap.size, ps.length, _, rfl, hb, heap_alloc_new w _, Nat.le_refl _, h2, by simp, by simp [scells, List.take_of_length_le]⟩⟩
theorem spl_len_pos (c : UInt8) (l : List UInt8) : 1 ≤ (spl c l).length := by
  cases h : spl c l with
  | nil => exact absurd h (spl_ne c l)
  | cons _ _ => simp
theorem spl_len_le (c : UInt8) : ∀ l : List UInt8, (spl c l).length ≤ l.length + 1
  | [] => by simp [spl]
  | x :: r => by
    have ih := spl_len_le c r
    unfold spl
    split
    · simp; omega
    · split
      · simp
      · rename_i h t e; rw [e] at ih; simp at ih ⊢; omega
theorem Split_c (s : ByteArray) (c : UInt8) (m : Int) (w : World) (hs : s.size ≤ 2000000) (hm : w.cell? ⟨0, 0, none⟩ = some (.int .i64 m)) :
    Calls Tryz.prog 43 #[.string s, .string ⟨#[c]⟩] w (fun e w' => ∃ v, e = .returned v ∧ OwnW w.heap.size w' v ((spl c (byteL s)).map str) ∧ Below w.heap.size w w') := by
  have h := Tryz.strings_Split s ⟨#[c]⟩ m w (by omega) hm (Nat.le_refl 1)
  have hp : Lib.splitB ⟨#[c]⟩ 0 (Lib.countB s ⟨#[c]⟩) s = (spl c (byteL s)).map str := by
    have hk : (byteL s).count c ≤ Lib.countB s ⟨#[c]⟩ := Nat.le_of_eq (Lib.count_one c (byteL s)).symm
    have hd := Lib.splitB_data ⟨#[c]⟩ 0 (Lib.countB s ⟨#[c]⟩) s
    rw [show (⟨#[c]⟩ : ByteArray).data.toList = [c] from rfl, show s.data.toList = byteL s from rfl, splitK_one c _ _ hk] at hd
    rw [← hd, List.map_map]
    conv => lhs; rw [← List.map_id (Lib.splitB ⟨#[c]⟩ 0 (Lib.countB s ⟨#[c]⟩) s)]
    apply List.map_congr_left
    intro x _
    exact (str_toList' x).symm
  have hl := Lib.splitB_all ⟨#[c]⟩ (Nat.le_refl 1) 0 (Lib.countB s ⟨#[c]⟩) s rfl
  rw [← hl, hp] at h
  refine h.mono fun e w' ⟨h1, h2⟩ => ⟨_, h1, ?_, ?_⟩
  · rw [h2]
    exact own_manyW w _ _ (Nat.le_refl _) (by rw [List.length_map]; exact spl_len_pos c _) (by rw [List.length_map]; have := spl_len_le c (byteL s); have := byteL_len s; unfold maxLen; omega)
  · rw [h2]
    go_grown

end Go.Proofs.YtgdadbmhdljcdaaGreatDoor
