/- A ring is divided: the plain words; three lists joined. -/
import Derived.Test.YtjlenafdpoknhaaCat2
import Derived.Test.YtjlenafdpoknhaaGD
import Derived.Test.YtjlenafdpoknhaaInsS
namespace Go.Proofs.Ytjlenafdpoknhaa
set_option linter.unusedVariables false
open Go.RowKit Go.Proofs.Bell Go.BigFrame

theorem Concat3_c (vb : Nat) (a0 a1 a2 : Addr) (c0 c1 c2 : Nat) (l0 l1 l2 : List (Int × Int × Int)) (w : World)
    (h0 : w.cell? ⟨vb, 0, none⟩ = some (.slice (some a0) l0.length c0)) (h1 : w.cell? ⟨vb, 1, none⟩ = some (.slice (some a1) l1.length c1)) (h2 : w.cell? ⟨vb, 2, none⟩ = some (.slice (some a2) l2.length c2))
    (r0 : ∀ w', Below w.heap.size w w' → ∀ t u, (trips l0)[t]? = some u → w'.cell? (a0.add t) = some u) (r1 : ∀ w', Below w.heap.size w w' → ∀ t u, (trips l1)[t]? = some u → w'.cell? (a1.add t) = some u) (r2 : ∀ w', Below w.heap.size w w' → ∀ t u, (trips l2)[t]? = some u → w'.cell? (a2.add t) = some u)
    (hl : l0.length + l1.length + l2.length ≤ 1000) (hp : 1 ≤ l0.length + l1.length + l2.length) :
    Calls Try.prog 36 #[.slice (some ⟨vb, 0, none⟩) 3 3] w (RetOwnR (l0 ++ l1 ++ l2) w) := by
  have h := ConcatR_c vb 3 (fun j => if j = 0 then a0 else if j = 1 then a1 else a2) (fun j => if j = 0 then c0 else if j = 1 then c1 else c2) (fun j => if j = 0 then l0 else if j = 1 then l1 else l2) w
    (fun j hj => by match j, hj with
      | 0, _ => simpa using h0
      | 1, _ => simpa using h1
      | 2, _ => simpa using h2)
    (by omega) (by omega)
    (fun j hj => by match j, hj with
      | 0, _ => simpa using r0
      | 1, _ => simpa using r1
      | 2, _ => simpa using r2)
    (fun k hk => by match k, hk with
      | 0, _ => simp [sumN]
      | 1, _ => simp [sumN]; omega
      | 2, _ => simp [sumN]; omega
      | 3, _ => simp [sumN]; omega)
    (by simp [sumN]; omega)
  have e : catK (fun j => if j = 0 then l0 else if j = 1 then l1 else l2) 3 = l0 ++ l1 ++ l2 := by simp [catK]
  rw [e] at h
  exact h

def spl (ps : List (Int × Int × Int)) (k : Nat) (o : Int) : List (Int × Int × Int) := ps.take k ++ [((rg ps k).1, (rg ps k).2.1, o), ((rg ps k).1, (rg ps k).2.1, (rg ps k).2.2 - o)] ++ ps.drop (k + 1)
def splI (nm : ByteArray) (ps : List (Int × Int × Int)) (h : Int) : ByteArray × List (Int × Int × Int) × Int :=
  if askI nm ps h = 0 then (if ps.length = 32 then (⟨#[]⟩, [], 5) else (if h - heightI (ps.take (atK ps h)) < 10 ∨ (rg ps (atK ps h)).2.2 - (h - heightI (ps.take (atK ps h))) < 10 then (⟨#[]⟩, [], 6) else (nm, spl ps (atK ps h) (h - heightI (ps.take (atK ps h))), 0))) else (⟨#[]⟩, [], askI nm ps h)
theorem spl_len {ps : List (Int × Int × Int)} {k : Nat} (h : k < ps.length) (o : Int) : (spl ps k o).length = ps.length + 1 := by
  simp [spl]; omega
theorem splI_len (nm : ByteArray) (ps : List (Int × Int × Int)) (h : Int) : (splI nm ps h).2.1.length ≤ 33 := by
  unfold splI
  split
  · rename_i h0
    obtain ⟨hal, hl1, hl2, h1, h2⟩ := askI_zero h0
    split
    · simp
    · split
      · simp
      · have := spl_len (atK_lt hl1 h2) (h - heightI (ps.take (atK ps h)))
        show (spl ps (atK ps h) (h - heightI (ps.take (atK ps h)))).length ≤ 33
        omega
  · simp
/-- the reference's way: the lower part put in, the upper one shortened -/
theorem spl_put {ps : List (Int × Int × Int)} {k : Nat} (h : k < ps.length) (o : Int) :
    (insL ps k ((rg ps k).1, (rg ps k).2.1, o)).set (k + 1) ((rg ps k).1, (rg ps k).2.1, (rg ps k).2.2 - o) = spl ps k o := by
  have hd : ps.drop k = rg ps k :: ps.drop (k + 1) := by rw [rg_eq h]; exact List.drop_eq_getElem_cons h
  have hl : (ps.take k).length = k := by rw [List.length_take]; omega
  unfold insL spl
  rw [Int.toNat_natCast, hd, List.set_append_right _ _ (by omega), hl, show k + 1 - k = 1 by omega]
  simp
theorem ins_at {ps : List (Int × Int × Int)} {k : Nat} (h : k < ps.length) (r : Int × Int × Int) : rg (insL ps k r) (k + 1) = rg ps k := by
  have hd : ps.drop k = rg ps k :: ps.drop (k + 1) := by rw [rg_eq h]; exact List.drop_eq_getElem_cons h
  have hl : (ps.take k).length = k := by rw [List.length_take]; omega
  unfold insL
  rw [Int.toNat_natCast, hd]
  unfold rg
  rw [List.getD_eq_getElem?_getD, List.getElem?_append_right (by omega), hl, show k + 1 - k = 1 by omega]
  simp [rg]
theorem trips_put2 : ∀ (qs : List (Int × Int × Int)) (k : Nat) (z : Int), k < qs.length → (trips qs).set (k * 3 + 2) (.int .i64 z) = trips (qs.set k ((rg qs k).1, (rg qs k).2.1, z))
  | [], _, _, h => by simp at h
  | a :: qs, 0, z, _ => by simp [trips_cons, rg]
  | a :: qs, k + 1, z, h => by
    rw [show (k + 1) * 3 + 2 = (k * 3 + 2) + 1 + 1 + 1 by omega, trips_cons, List.set_cons_succ, List.set_cons_succ, List.set_cons_succ, trips_put2 qs k z (by simpa using h), List.set_cons_succ, trips_cons]
    simp [rg]

end Go.Proofs.Ytjlenafdpoknhaa
