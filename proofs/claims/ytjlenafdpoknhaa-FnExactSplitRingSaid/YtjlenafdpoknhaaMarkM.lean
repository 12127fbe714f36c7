/- The laws' marks on models. -/
import Derived.Test.YtjlenafdpoknhaaGB
import Derived.Test.YtjlenafdpoknhaaSS2
namespace Go.Proofs.Ytjlenafdpoknhaa
set_option linter.unusedVariables false
open Go.RowKit Go.Proofs.Bell Go.BigFrame

theorem lensK_step (ws : List (List Int)) (k : Nat) : lensK ws (k + 1) = lensK ws k + (ws.getD k []).length := rfl

def SSBlk (us : List Value) (n : Nat) (b : Nat) : Prop := ∃ k, k < n ∧ (us.getD k nv).ownBlock = some b

theorem OwnSS.keep {lo hi : Nat} {S : Nat → Prop} {w w' : World} {v : Value} {us : List Value} {ws : List (List Int)} (h : OwnSS lo hi w v us ws) (ho : Only S w w') (h1 : ∀ b, v.ownBlock = some b → ¬ S b) (h2 : ∀ k, k < ws.length → ∀ b, (us.getD k nv).ownBlock = some b → ¬ S b) : OwnSS lo hi w' v us ws :=
  ⟨h.len, own_only h.row ho h1, h.rowh, fun k hk => own_only (h.own k hk) ho (h2 k hk), h.top, h.dis, h.cd⟩

end Go.Proofs.Ytjlenafdpoknhaa
