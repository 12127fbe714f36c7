/- Several texts of the proofs in one: MarkM, MarkM2. -/
import Derived.Test.YtgdadbmhdljcdaaGreatDoorGB
import Derived.Test.YtgdadbmhdljcdaaGreatDoorVE
/- The laws' marks on models. -/
namespace Go.Proofs.YtgdadbmhdljcdaaGreatDoor
set_option linter.unusedVariables false
open Go.RowKit Go.Proofs.Bell Go.BigFrame

theorem lensK_step (ws : List (List Int)) (k : Nat) : lensK ws (k + 1) = lensK ws k + (ws.getD k []).length := rfl

def SSBlk (us : List Value) (n : Nat) (b : Nat) : Prop := ∃ k, k < n ∧ (us.getD k nv).ownBlock = some b

theorem OwnSS.keep {lo hi : Nat} {S : Nat → Prop} {w w' : World} {v : Value} {us : List Value} {ws : List (List Int)} (h : OwnSS lo hi w v us ws) (ho : Only S w w') (h1 : ∀ b, v.ownBlock = some b → ¬ S b) (h2 : ∀ k, k < ws.length → ∀ b, (us.getD k nv).ownBlock = some b → ¬ S b) : OwnSS lo hi w' v us ws :=
  ⟨h.len, own_only h.row ho h1, h.rowh, fun k hk => own_only (h.own k hk) ho (h2 k hk), h.top, h.dis, h.cd⟩

end Go.Proofs.YtgdadbmhdljcdaaGreatDoor

/- The laws' marks on models that are results: the marks are kept, and found again. -/
namespace Go.Proofs.YtgdadbmhdljcdaaGreatDoor
set_option linter.unusedVariables false
open Go.RowKit Go.Proofs.Bell Go.BigFrame

def mkSS (k0 : Int) (ws : List (List Int)) : List (List Int) := (List.range ws.length).map fun j => mk1 (k0 + (lensK ws j : Int)) (ws.getD j []).length
theorem mkSS_len (k0 : Int) (ws : List (List Int)) : (mkSS k0 ws).length = ws.length := by simp [mkSS]
theorem mkSS_get (k0 : Int) (ws : List (List Int)) {j : Nat} (h : j < ws.length) : (mkSS k0 ws).getD j [] = mk1 (k0 + (lensK ws j : Int)) (ws.getD j []).length := by
  simp [mkSS, List.getD, h]
def rowK (ws : List (List Int)) (k0 : Int) (k j : Nat) : List Int := if j < k then mk1 (k0 + (lensK ws j : Int)) (ws.getD j []).length else ws.getD j []
theorem rowK_zero (ws : List (List Int)) (k0 : Int) (j : Nat) : rowK ws k0 0 j = ws.getD j [] := by simp [rowK]
theorem rowK_same (ws : List (List Int)) (k0 : Int) (k : Nat) : rowK ws k0 k k = ws.getD k [] := by simp [rowK]
theorem rowK_new (ws : List (List Int)) (k0 : Int) (k : Nat) : rowK ws k0 (k + 1) k = mk1 (k0 + (lensK ws k : Int)) (ws.getD k []).length := by simp [rowK]
theorem rowK_other (ws : List (List Int)) (k0 : Int) {k j : Nat} (h : j ≠ k) : rowK ws k0 (k + 1) j = rowK ws k0 k j := by
  unfold rowK
  by_cases h1 : j < k
  · rw [if_pos h1, if_pos (by omega)]
  · rw [if_neg h1, if_neg (by omega)]

def SSMarked (lo hi : Nat) (v : Value) (us : List Value) (ws : List (List Int)) (k0 : Int) (w : World) (e : Ending) (w' : World) : Prop :=
  e = .returned (.int .i64 (k0 + (lensK ws ws.length : Int))) ∧ OwnSS lo hi w' v us (mkSS k0 ws) ∧ Only (SSBlk us ws.length) w w'

theorem OwnSS.keepM {lo hi : Nat} {S : Nat → Prop} {w w' : World} {v : Value} {us : List Value} {k0 : Int} {ws : List (List Int)} (h : OwnSS lo hi w v us (mkSS k0 ws)) (ho : Only S w w') (h1 : ∀ b, v.ownBlock = some b → ¬ S b) (h2 : ∀ k, k < ws.length → ∀ b, (us.getD k nv).ownBlock = some b → ¬ S b) : OwnSS lo hi w' v us (mkSS k0 ws) :=
  h.keep ho h1 (fun k hk => h2 k (by rwa [mkSS_len] at hk))

def ModelMarked (lo hi : Nat) (zv wv bv : Value) (us : List Value) (nz : Nat) (ws : List (List Int)) (nb : Nat) (k0 : Int) (w : World) (e : Ending) (w' : World) : Prop :=
  e = .returned (.int .i64 (k0 + (nz : Int) + (lensK ws ws.length : Int) + (nb : Int))) ∧ OwnM lo hi w' zv wv bv us (mk1 k0 nz) (mkSS (k0 + (nz : Int)) ws) (mk1 (k0 + (nz : Int) + (lensK ws ws.length : Int)) nb) ∧ Only (fun b => lo ≤ b ∧ b < hi) w w'

end Go.Proofs.YtgdadbmhdljcdaaGreatDoor

