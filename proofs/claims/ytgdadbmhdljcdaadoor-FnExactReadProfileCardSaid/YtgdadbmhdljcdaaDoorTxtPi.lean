/- A profile read from a text: the reference's outer function. -/
import Derived.Test.YtgdadbmhdljcdaaDoorTxtPl
namespace Go.Proofs.YtgdadbmhdljcdaaDoor
set_option linter.unusedVariables false
open Go.RowKit Go.Proofs.Bell Go.BigFrame

set_option maxRecDepth 1000000 in
set_option maxHeartbeats 1600000 in
theorem specReadProfile_c (s : ByteArray) (w : World) (hs : s.size ≤ 2000000) :
    Calls Tryd.prog 36 #[.string s] w (RetP2 (prN (readP (byteL s))) (prL (readP (byteL s))) (.bool (readP (byteL s)).isSome) w) := by
  have h := fun w' => l05Read_c s w' hs
  generalize prN (readP (byteL s)) = NM at *
  generalize prL (readP (byteL s)) = QS at *
  generalize (readP (byteL s)).isSome = OK at *
  have H := Lib.hid h; clear h
  go_enter Tryd.func36, Tryd.ntmps36
  go_wp2_with fail
  have bx0 := BoxE.new w 45 [.string ⟨#[]⟩, .slice none 0 0]
  have b1 : Below w.heap.size w (w.alloc (.cells #[.string ⟨#[]⟩, .slice none 0 0] 45)) := by go_grown
  have bx0' : BoxE (w.alloc (.cells #[.string ⟨#[]⟩, .slice none 0 0] 45)) w.heap.size 45 [.string ⟨#[]⟩, .slice none 0 0] := bx0
  clear bx0
  obtain ⟨g0, hg⟩ : ∃ g, g = w.heap.size := ⟨_, rfl⟩
  rw [← hg] at bx0'
  rw [← hg]
  have hg0 : w.heap.size ≤ g0 := Nat.le_of_eq hg.symm
  clear hg
  generalize w.alloc (.cells #[.string ⟨#[]⟩, .slice none 0 0] 45) = w0 at *
  refine (H.out _).mono ?_
  rintro _ w1 ⟨v, rfl, o1, bp⟩
  have bx1 := bx0'.later bp
  have b2 := b1.trans (bp.mono b1.size)
  obtain ⟨av, pv, hv⟩ := own_shape o1
  subst hv
  have o2 := own_base o1 b1.size
  have hfin : ∀ w', Only (· = g0) w1 w' → OwnR w.heap.size w' (.slice av QS.length pv) QS ∧ Below w.heap.size w w' := fun w' q =>
    ⟨own_only o2 q (fun b e h => own_box o2 bx1 (by decide) b e h), Only.below b2 q b2.size (fun b e => by rw [e]; exact hg0)⟩
  have hth := bx1.v.there
  have HFIN := Lib.hid hfin; clear hfin
  have HTH := Lib.hid hth; clear hth
  clear o1 o2 bx1 bx0' bp b1 b2
  go_wp2_with (refine wpList_store_held rfl 45 (.tmp 2) (.tmp 6) rfl g0 0 #[.string NM, .slice av QS.length pv] rfl rfl HTH.out (by kernel_rfl) (by kernel_rfl) ?_; intro w5 q5 r5 o5 f5; have e0 : w5.cell? ⟨g0, 0, none⟩ = some (.string NM) := r5 0 _ rfl; have e1 : w5.cell? ⟨g0, 1, none⟩ = some (.slice av QS.length pv) := r5 1 _ rfl; have Q5 := Lib.hid q5; clear q5; clear r5 o5 f5)
  refine bodyPost_ret (v := .tuple #[.agg #[.string NM, .slice av QS.length pv], .bool OK]) (by simp [results, Tryd.results36, go_sem, e0, e1]) rfl ?_
  exact ⟨_, rfl, (HFIN.out _ Q5.out).1, (HFIN.out _ Q5.out).2⟩

end Go.Proofs.YtgdadbmhdljcdaaDoor
