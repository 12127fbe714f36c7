/- Several texts of the proofs in one: TxtMd, TxtMc, TxtMi. -/
import Derived.Test.YtgdadbmhdljcdaaGreatDoorTD
import Derived.Test.YtgdadbmhdljcdaaGreatDoorTE
import Derived.Test.YtgdadbmhdljcdaaGreatDoorTxtMp
import Derived.Test.YtgdadbmhdljcdaaGreatDoorTxtRa
import Derived.Test.YtgdadbmhdljcdaaGreatDoorVG
import Derived.Test.YtgdadbmhdljcdaaGreatDoorWM
import Derived.Test.YtgdadbmhdljcdaaGreatDoorWO
import Derived.Deep.RegionHeld3
/- A model of one's own that is put together part by part. -/
namespace Go.Proofs.YtgdadbmhdljcdaaGreatDoor
set_option linter.unusedVariables false
open Go.RowKit Go.Proofs.Bell Go.BigFrame

theorem ty_SI : (42 : TypeId) ≠ 9 := by decide
theorem OwnM.box {lo hi : Nat} {w w' : World} {zv wv bv : Value} {us : List Value} {zs : List Int} {ws : List (List Int)} {bs : List Int} {g : Nat} {cs : List Value} (h : OwnM lo hi w zv wv bv us zs ws bs) (hb : BoxE w g 45 cs) (q : Only (· = g) w w') : OwnM lo hi w' zv wv bv us zs ws bs :=
  ⟨own_only h.z q (fun b e hS => own_box h.z hb (by decide) b e hS), h.zh,
   ⟨h.s.len, own_only h.s.row q (fun b e hS => own_box h.s.row hb (by decide) b e hS), h.s.rowh, fun k hk => own_only (h.s.own k hk) q (fun b e hS => own_box (h.s.own k hk) hb (by decide) b e hS), h.s.top, h.s.dis, h.s.cd⟩,
   own_only h.b q (fun b e hS => own_box h.b hb (by decide) b e hS), h.bh, h.zb, h.zc, h.zu, h.bu, h.bc⟩
theorem OwnM.newZ {lo hi : Nat} {w w' : World} {zv wv bv u : Value} {us : List Value} {zs row : List Int} {ws : List (List Int)} {bs : List Int} (h : OwnM lo hi w zv wv bv us zs ws bs) (hh : hi ≤ w.heap.size) (hl : lo ≤ w.heap.size) (hb : Below w.heap.size w w') (hu : OwnI w.heap.size w' u row) :
    OwnM lo w'.heap.size w' u wv bv us row ws bs := by
  have h2 := (h.later hb).wide (Nat.le_refl lo) (show hi ≤ w'.heap.size from Nat.le_trans hh hb.size)
  have l := fun b e => own_lo hu b e
  exact ⟨own_base hu hl, own_lt hu, h2.s, h2.b, h2.bh, fun b e e2 => by have := l b e; have := h.bh b e2; omega, fun b e e2 => by have := l b e; have := h.s.rowh b e2; omega,
    fun k hk b e e2 => by have := l b e2; have := h.s.top k hk b e; omega, h2.bu, h2.bc⟩
theorem OwnM.newB {lo hi : Nat} {w w' : World} {zv wv bv u : Value} {us : List Value} {zs row : List Int} {ws : List (List Int)} {bs : List Int} (h : OwnM lo hi w zv wv bv us zs ws bs) (hh : hi ≤ w.heap.size) (hl : lo ≤ w.heap.size) (hb : Below w.heap.size w w') (hu : OwnI w.heap.size w' u row) :
    OwnM lo w'.heap.size w' zv wv u us zs ws row := by
  have h2 := (h.later hb).wide (Nat.le_refl lo) (show hi ≤ w'.heap.size from Nat.le_trans hh hb.size)
  have l := fun b e => own_lo hu b e
  exact ⟨h2.z, h2.zh, h2.s, own_base hu hl, own_lt hu, fun b e e2 => by have := l b e2; have := h.zh b e; omega, h2.zc, h2.zu,
    fun k hk b e e2 => by have := l b e2; have := h.s.top k hk b e; omega, fun b e e2 => by have := l b e; have := h.s.rowh b e2; omega⟩
theorem OwnM.newS {lo hi : Nat} {wi w' : World} {zv wv bv u v' : Value} {us : List Value} {zs row : List Int} {ws : List (List Int)} {bs : List Int} (h : OwnM lo hi wi zv wv bv us zs ws bs) (hh : hi ≤ wi.heap.size) (hl : lo ≤ hi) (hu : OwnI hi wi u row)
    (ho : w'.ownsRow lo 42 1 v' (ws.length + 1) (us ++ [u])) (hq : Only (fun b => wv.ownBlock = some b) wi w') (hat : ∀ b, v'.ownBlock = some b → wv.ownBlock = some b ∨ wi.heap.size ≤ b) :
    OwnM lo w'.heap.size w' zv v' bv (us ++ [u]) zs (ws ++ [row]) bs := by
  have hsz := hq.size
  have hs := h.s.snoc (row := row) hh hl hu ho hq hat
  have hlen := h.s.len
  have hgu : ∀ k, k < (ws ++ [row]).length → ((us ++ [u]).getD k nv = us.getD k nv ∧ k < ws.length) ∨ (us ++ [u]).getD k nv = u := fun k hk => by
    simp only [List.length_append, List.length_cons, List.length_nil] at hk
    rcases Nat.lt_or_ge k ws.length with h1 | h1
    · exact .inl ⟨by simp [List.getD, List.getElem?_append_left (show k < us.length by omega)], h1⟩
    · obtain rfl : k = ws.length := by omega
      exact .inr (by rw [← hlen]; simp [List.getD])
  have lu := fun b e => own_lo hu b e
  refine ⟨own_only h.z hq (fun b e hS => h.zc b e hS), fun b e => by have := h.zh b e; omega, hs, own_only h.b hq (fun b e hS => h.bc b e hS), fun b e => by have := h.bh b e; omega, h.zb, fun b e e2 => ?_, fun k hk b e e2 => ?_, fun k hk b e e2 => ?_, fun b e e2 => ?_⟩
  · rcases hat b e2 with e3 | e3
    · exact h.zc b e e3
    · have := h.zh b e; omega
  · rcases hgu k hk with ⟨e3, hk2⟩ | e3
    · rw [e3] at e; exact h.zu k hk2 b e e2
    · rw [e3] at e; have := lu b e; have := h.zh b e2; omega
  · rcases hgu k hk with ⟨e3, hk2⟩ | e3
    · rw [e3] at e; exact h.bu k hk2 b e e2
    · rw [e3] at e; have := lu b e; have := h.bh b e2; omega
  · rcases hat b e2 with e3 | e3
    · exact h.bc b e e3
    · have := h.bh b e; omega
theorem OwnM.nils (lo hi : Nat) (w : World) : OwnM lo hi w nv nv nv [] [] [] [] :=
  ⟨World.ownsRow_nil _ _ _ _, fun b e => (by cases e), ⟨rfl, World.ownsRow_nil _ _ _ _, fun b h => (by cases h), fun k hk => absurd hk (by simp), fun k hk => absurd hk (by simp), fun j k _ hk => absurd hk (by simp), fun k hk => absurd hk (by simp)⟩, World.ownsRow_nil _ _ _ _, fun b e => (by cases e), fun b e => (by cases e), fun b e => (by cases e), fun k hk => absurd hk (by simp), fun k hk => absurd hk (by simp), fun b e => (by cases e)⟩
theorem OwnM.row_apart {lo hi b1 : Nat} {w : World} {zv wv bv v1 : Value} {us : List Value} {zs : List Int} {ws : List (List Int)} {bs : List Int} {ss : List ByteArray} (h : OwnM lo hi w zv wv bv us zs ws bs) (ho : OwnW b1 w v1 ss) : ∀ k, wv.ownBlock = some k → ¬ v1.ownBlock = some k :=
  own_apart h.s.row ho (by decide)
def mdZ (r : Option MdR) : List Int := (r.getD ([], [], [])).1
def mdW (r : Option MdR) : List (List Int) := (r.getD ([], [], [])).2.1
def mdB (r : Option MdR) : List Int := (r.getD ([], [], [])).2.2
theorem readLs_snoc (f : List UInt8 → Option (List Int)) : ∀ (ls : List (List UInt8)) (l : List UInt8), readLs f (ls ++ [l]) = (readLs f ls).bind fun qs => (f l).map fun p => qs ++ [p]
  | [], l => by
    rw [List.nil_append, readLs, readLs]
    cases f l <;> rfl
  | x :: r, l => by
    rw [List.cons_append, readLs, readLs, readLs_snoc f r l]
    cases f x <;> cases readLs f r <;> cases f l <;> rfl
theorem readLs_no {f : List UInt8 → Option (List Int)} : ∀ {ls : List (List UInt8)} {l : List UInt8}, l ∈ ls → f l = none → readLs f ls = none
  | x :: r, l, h, hn => by
    rw [readLs]
    rcases List.mem_cons.1 h with e | h
    · rw [← e, hn]
    · rw [readLs_no h hn]; cases f x <;> rfl
theorem readLs_len {f : List UInt8 → Option (List Int)} : ∀ {ls : List (List UInt8)} {ps : List (List Int)}, readLs f ls = some ps → ps.length = ls.length
  | [], ps, h => by obtain rfl := Option.some.inj h; rfl
  | l :: r, ps, h => by
    unfold readLs at h
    split at h
    · rename_i p qs h1 h2
      obtain rfl := Option.some.inj h
      rw [List.length_cons, List.length_cons, readLs_len h2]
    · cases h
theorem toM_0 (p : List Int) : toM [p] = (p, [], []) := rfl
theorem toM_mid {ls : List (List Int)} {k : Nat} (h : ls.length = k) (h1 : 1 ≤ k) (h2 : k ≤ 5) (p : List Int) : toM (ls ++ [p]) = ((toM ls).1, (toM ls).2.1 ++ [p], (toM ls).2.2) := by
  subst h
  unfold toM
  have e1 : (ls ++ [p]).getD 0 [] = ls.getD 0 [] := by rw [List.getD, List.getD, List.getElem?_append_left (show 0 < ls.length by omega)]
  have e2 : (ls ++ [p]).getD 6 [] = [] := by rw [List.getD, List.getElem?_eq_none (by simp; omega)]; rfl
  have e3 : ls.getD 6 [] = [] := by rw [List.getD, List.getElem?_eq_none (by omega)]; rfl
  have e4 : ((ls ++ [p]).drop 1).take 5 = (ls.drop 1).take 5 ++ [p] := by
    rw [List.drop_append_of_le_length (by omega), List.take_of_length_le (by simp; omega), List.take_of_length_le (by simp; omega)]
  rw [e1, e2, e3, e4]
theorem toM_6 {ls : List (List Int)} (h : ls.length = 6) (p : List Int) : toM (ls ++ [p]) = ((toM ls).1, (toM ls).2.1, p) := by
  match ls, h with
  | [a, b, c, d, e, f], _ => rfl
theorem toM_wlen {ls : List (List Int)} {k : Nat} (h : ls.length = k) (h2 : k ≤ 6) : (toM ls).2.1.length = k - 1 := by
  unfold toM
  simp only [List.length_take, List.length_drop]
  omega
theorem app_SSL {ops : Array Oper} {rest : List Oper} {o : Oper} {a : Act} {Q : Exit → Act → World → Prop} (s x : Operand) (W : World) (base : Nat) (v : Value) (n : Nat) (us : List Value) (ao : Option Addr) (m cap : Nat)
    (ho : o.op = .call { callee := .builtin .append, args := #[s, x], argTypes := #[43, 43] }) (hgd : o.guard = none)
    (hs : a.eval s = v) (hx : a.eval x = .slice (some ⟨W.heap.size, 0, none⟩) 1 1) (hown : W.ownsRow base 42 1 v n us) (hn : n ≤ 3000000) (hbase : base ≤ W.heap.size)
    (h : ∀ v' w', w'.ownsRow base 42 1 v' (n + 1) (us ++ [.slice ao m cap]) → Only (fun b => v.ownBlock = some b) W w' → (∀ b, v'.ownBlock = some b → v.ownBlock = some b ∨ W.heap.size ≤ b) → wpList Tryz.prog ops Q rest (a.put o.dst v') w') :
    wpList Tryz.prog ops Q (o :: rest) a (W.alloc (.cells #[.slice ao m cap] 42)) := by
  obtain ⟨i0, hi, hz0, hz1, hz2⟩ := info_parts info_SS
  refine wpList_append_own_at _ hgd s x 43 ho base 42 i0 _ 1 24 Tryz.underlying43 hi hz0 hz1 hz2 rfl (by decide) v n us hs (hown.alloc _) ⟨W.heap.size, 0, none⟩ 1 1 [.slice ao m cap] hx rfl (World.news_of_block (heap_alloc_new W _)) (fun u hu => by simp at hu; subst hu; rfl) (by unfold maxLen; omega) (by omega) (by simp; omega) ?_
  intro v' w' ho' hg _ hat
  refine h v' w' ho' ((Only.of_below ((Below.refl _ _).alloc (Nat.le_refl _) _)).trans (Only.of_grown hg)) (fun b hb => ?_)
  rcases hat with e | e
  · left; rw [← e]; exact hb
  · right; rw [e] at hb; simp at hb; omega

end Go.Proofs.YtgdadbmhdljcdaaGreatDoor

/- Five of seven lists cloned: a model of one's own. -/
namespace Go.Proofs.YtgdadbmhdljcdaaGreatDoor
set_option linter.unusedVariables false
open Go.RowKit Go.Proofs.Bell Go.BigFrame

def five (us : List Value) : List Value := (us.drop 1).take 5
theorem OwnM.ofSS {lo hi : Nat} {w w' : World} {v cv : Value} {us : List Value} {ws : List (List Int)} (h : OwnSS lo hi w v us ws) (h7 : ws.length = 7) (hh : hi ≤ w.heap.size) (hl : lo ≤ w.heap.size) (hb : Below w.heap.size w w')
    (hc : w'.ownsRow w.heap.size 42 1 cv 5 (five us)) : OwnM lo w'.heap.size w' (us.getD 0 nv) cv (us.getD 6 nv) (five us) (toM ws).1 (toM ws).2.1 (toM ws).2.2 := by
  have h2 := (h.later hb).wide (Nat.le_refl lo) (show hi ≤ w'.heap.size from Nat.le_trans hh hb.size)
  have hl7 : us.length = 7 := h.len.trans h7
  have lc := fun b e => own_lo hc b e
  have hw5 : (toM ws).2.1.length = 5 := by unfold toM; simp [h7]
  have g1 : ∀ k, k < 5 → (five us).getD k nv = us.getD (k + 1) nv := fun k hk => by
    unfold five
    simp only [List.getD]
    rw [List.getElem?_take_of_lt hk, List.getElem?_drop, Nat.add_comm]
  have g2 : ∀ k, k < 5 → (toM ws).2.1.getD k [] = ws.getD (k + 1) [] := fun k hk => by
    unfold toM
    simp only [List.getD]
    rw [List.getElem?_take_of_lt hk, List.getElem?_drop, Nat.add_comm]
  refine ⟨h2.own 0 (by omega), h2.top 0 (by omega), ⟨by rw [hw5]; unfold five; simp [hl7], by rw [hw5]; exact own_base hc hl, own_lt hc, fun k hk => ?_, fun k hk b e => ?_, fun j k hj hk b e e2 => ?_, fun k hk b e e2 => ?_⟩, h2.own 6 (by omega), h2.top 6 (by omega), fun b e e2 => h2.dis 0 6 (by omega) (by omega) b e2 e, fun b e e2 => ?_, fun k hk b e e2 => ?_, fun k hk b e e2 => ?_, fun b e e2 => ?_⟩
  · rw [hw5] at hk; rw [g1 k hk, g2 k hk]; exact h2.own (k + 1) (by omega)
  · rw [hw5] at hk; rw [g1 k hk] at e; exact h2.top (k + 1) (by omega) b e
  · rw [hw5] at hk; rw [g1 k hk] at e; rw [g1 j (by omega)] at e2; exact h2.dis (j + 1) (k + 1) (by omega) (by omega) b e e2
  · rw [hw5] at hk; rw [g1 k hk] at e; have := h.top (k + 1) (by omega) b e; have := lc b e2; omega
  · have := h.top 0 (by omega) b e; have := lc b e2; omega
  · rw [hw5] at hk; rw [g1 k hk] at e; exact h2.dis 0 (k + 1) (by omega) (by omega) b e e2
  · rw [hw5] at hk; rw [g1 k hk] at e; exact h2.dis (k + 1) 6 (by omega) (by omega) b e2 e
  · have := h.top 6 (by omega) b e; have := lc b e2; omega
/-- slices.Clone of the five in the middle -/
theorem Clone5_c (g cap : Nat) (us : List Value) (w : World) (h7 : us.length = 7) (hc : ∀ j u, us[j]? = some u → w.cell? ⟨g, j, none⟩ = some u) (h1 : ∀ u ∈ us, u.oneCell' = true) :
    Calls Tryz.prog 78 #[.slice (some ⟨g, 1, none⟩) 5 cap] w (fun e w' => ∃ v, e = .returned v ∧ w'.ownsRow w.heap.size 42 1 v 5 (five us) ∧ Below w.heap.size w w') := by
  obtain ⟨i0, hi, hz0, hz1, hz2⟩ := info_parts info_SS
  refine (Tryz.slices_Clone i0 _ 1 24 hi hz0 hz1 hz2 rfl (by decide) (fun w => by simp [Go.sizeOf, typeInfo, hi, hz1]) g 1 5 cap (five us) w (by unfold five; simp [h7]) (by decide) (by decide) (fun j u hj => ?_) (fun u hu => ?_)).mono fun e w' ⟨v, h1, h2, _, h4⟩ => ⟨v, h1, h2, h4⟩
  · have hj5 : j < 5 := by have := (List.getElem?_eq_some_iff.1 hj).1; unfold five at this; simp at this; omega
    unfold five at hj
    rw [List.getElem?_take_of_lt hj5, List.getElem?_drop] at hj
    exact hc (1 + j) u hj
  · unfold five at hu
    exact h1 u (List.mem_of_mem_drop (List.mem_of_mem_take hu))
def CutMd (w : World) (g0 : Nat) (u0 u6 : Value) (us : List Value) (ls : List (List Int)) (s9 : Value) (wx : World) : Prop :=
  ∃ (G : Nat) (cv : Option Addr) (cc : Nat), s9 = .pointer (some ⟨G, 0, none⟩) ∧ BoxE wx G 45 [u0, .slice cv 5 cc, u6] ∧ OwnM w.heap.size wx.heap.size wx u0 (.slice cv 5 cc) u6 us (toM ls).1 (toM ls).2.1 (toM ls).2.2 ∧
    BoxE wx g0 45 [.slice none 0 0, .slice none 0 0, .slice none 0 0] ∧ Below w.heap.size w wx
theorem CutMd.late {w wa : World} {g0 : Nat} {u0 u6 : Value} {us : List Value} {ls : List (List Int)} {cv : Option Addr} {cc : Nat} (hm : OwnM w.heap.size wa.heap.size wa u0 (.slice cv 5 cc) u6 us (toM ls).1 (toM ls).2.1 (toM ls).2.2)
    (bx : BoxE wa g0 45 [.slice none 0 0, .slice none 0 0, .slice none 0 0]) (hb : Below w.heap.size w wa) : CutMd w g0 u0 u6 us ls (.pointer (some ⟨wa.heap.size, 0, none⟩)) (wa.alloc (.cells #[u0, .slice cv 5 cc, u6] 45)) := by
  have h1 : Below wa.heap.size wa (wa.alloc (.cells #[u0, .slice cv 5 cc, u6] 45)) := (Below.refl _ _).alloc (Nat.le_refl _) _
  exact ⟨_, cv, cc, rfl, BoxE.new wa 45 [u0, .slice cv 5 cc, u6], (hm.later h1).wide (Nat.le_refl _) h1.size, bx.later h1, hb.trans (h1.mono hb.size)⟩
theorem CutMd.early {w wa : World} {g0 G : Nat} {u0 u6 : Value} {us : List Value} {ls : List (List Int)} {cv : Option Addr} {cc : Nat} (hm : OwnM w.heap.size wa.heap.size wa u0 (.slice cv 5 cc) u6 us (toM ls).1 (toM ls).2.1 (toM ls).2.2)
    (bx : BoxE wa g0 45 [.slice none 0 0, .slice none 0 0, .slice none 0 0]) (hb : Below w.heap.size w wa) (hG : w.heap.size ≤ G) (hg : g0 ≠ G) (by1 : BoxE wa G 45 [.slice none 0 0, .slice none 0 0, .slice none 0 0]) :
    CutMd w g0 u0 u6 us ls (.pointer (some ⟨G, 0, none⟩)) (((wa.setCell ⟨G, 0, none⟩ u0).setCell ⟨G, 1, none⟩ (.slice cv 5 cc)).setCell ⟨G, 2, none⟩ u6) := by
  have q : Only (· = G) wa (((wa.setCell ⟨G, 0, none⟩ u0).setCell ⟨G, 1, none⟩ (.slice cv 5 cc)).setCell ⟨G, 2, none⟩ u6) := (((Only.refl (· = G) wa).setCell (p := ⟨G, 0, none⟩) rfl _).setCell (p := ⟨G, 1, none⟩) rfl _).setCell (p := ⟨G, 2, none⟩) rfl _
  exact ⟨G, cv, cc, rfl, ((by1.set 0 u0).set 1 _).set 2 u6, (hm.box by1 q).wide (Nat.le_refl _) (by simp), bx.only q hg, Only.below hb q hb.size (fun b e => by rw [e]; exact hG)⟩

end Go.Proofs.YtgdadbmhdljcdaaGreatDoor

/- A model read from a text: the program. -/
namespace Go.Proofs.YtgdadbmhdljcdaaGreatDoor
set_option linter.unusedVariables false
open Go.RowKit Go.Proofs.Bell Go.BigFrame

theorem reslice_16 {g c : Nat} (h2 : 7 ≤ c) (h3 : (c : Int) ≤ 9223372036854775807) : ∀ w, (Instr.slice 43 (.slice (some ⟨g, 0, none⟩) 7 c) (some (.int .i64 1)) (some (.int .i64 6)) none).run Tryz.prog w = .ok (.slice (some ⟨g, 1, none⟩) 5 (c - 1)) w := by
  intro w
  have i2 : (6 : Int) ≤ (c : Int) := by omega
  have hc : ¬ (c = 1) := by omega
  have hc2 : ¬ (c - 1 = 0) := by omega
  simp [Instr.slice, run_underlying Tryz.underlying43, go_sem, i2, hc, hc2]
theorem OwnSS.shape {lo hi : Nat} {w : World} {v : Value} {us : List Value} {ws : List (List Int)} (h : OwnSS lo hi w v us ws) : ∀ u ∈ us, u.oneCell' = true := fun u hu => by
  obtain ⟨j, hj, rfl⟩ := List.getElem_of_mem hu
  have hl := h.len
  obtain ⟨a, p, e⟩ := own_shape (h.own j (by omega))
  rw [List.getD, List.getElem?_eq_getElem hj, Option.getD_some] at e
  rw [e]; rfl

set_option maxRecDepth 1000000 in
set_option maxHeartbeats 6400000 in
theorem implReadModel_c (s : ByteArray) (w : World) (hs : s.size ≤ 2000000) (hrt : RTab w) :
    Calls Tryz.prog 27 #[.string s] w (RetM2 (mdZ (readM (byteL s))) (mdW (readM (byteL s))) (mdB (readM (byteL s))) (.bool (readM (byteL s)).isSome) w) := by
  have hbl := byteL_len s
  have hsp := fun w' (hb : Below w.heap.size w w') => SplitR_c s 47 w' hs (hrt.later hb)
  rw [readM_I]
  have hN7 : (spl 47 (byteL s)).length ≠ 7 → readMI (byteL s) = none := fun h => by unfold readMI; rw [if_neg h]
  have hRd : (spl 47 (byteL s)).length = 7 → readMI (byteL s) = if modelB (toM ((spl 47 (byteL s)).map fun x => (readL x).getD [])).1 (toM ((spl 47 (byteL s)).map fun x => (readL x).getD [])).2.1 (toM ((spl 47 (byteL s)).map fun x => (readL x).getD [])).2.2 = true ∧ modT (toM ((spl 47 (byteL s)).map fun x => (readL x).getD [])).1 (toM ((spl 47 (byteL s)).map fun x => (readL x).getD [])).2.1 (toM ((spl 47 (byteL s)).map fun x => (readL x).getD [])).2.2 = byteL s then some (toM ((spl 47 (byteL s)).map fun x => (readL x).getD [])) else none := fun h7 => by unfold readMI; rw [if_pos h7]
  have hPl : (spl 47 (byteL s)).length ≤ 2000001 := by have := spl_len_le' 47 (byteL s); omega
  have hPm : ∀ p ∈ spl 47 (byteL s), p.length ≤ 2000000 := fun p hp => by have := spl_mem_len hp; omega
  have hts : ∀ l, str l = s ↔ l = byteL s := fun l => ⟨fun e => by rw [← e, byteL_str], fun e => by rw [e, str_byteL]⟩
  generalize readMI (byteL s) = RES at *
  generalize spl 47 (byteL s) = P at *
  have hsp2 := fun (k : Nat) (h : k < P.length) w' (hb : Below w.heap.size w w') => implReadList_c (str P[k]) w' (by rw [str_size]; exact hPm _ (List.getElem_mem h)) (hrt.later hb)
  simp only [byteL_str] at hsp2
  have hst : ∀ k (h : k < P.length), (P.take k).map (fun x => (readL x).getD []) ++ [(readL P[k]).getD []] = (P.take (k + 1)).map (fun x => (readL x).getD []) := fun k h => take_map_snoc _ h
  have hlen : ∀ k, k ≤ P.length → ((P.take k).map (fun x => (readL x).getD [])).length = k := fun k h => by simp; omega
  have htake : P.take P.length = P := List.take_length
  have hsc := fun k (h : k < P.length) => scells_str (ls := P) h
  have hSl : (P.map str).length = P.length := List.length_map ..
  have hvm := fun (zv wv bv : Value) (zs : List Int) (ws : List (List Int)) (bs : List Int) w' hz hw hb => implValidModel_c zv wv bv zs ws bs w' hz hw hb
  have hmt := fun (zv wv bv : Value) (zs : List Int) (ws : List (List Int)) (bs : List Int) w' hz hw hb (hx : Below w.heap.size w w') => implModelText_c zv wv bv zs ws bs w' hz hw hb (hrt.later hx).1
  clear hbl
  have HSP := Lib.hid hsp; clear hsp
  have HN7 := Lib.hid hN7; clear hN7
  have HR := Lib.hid hRd; clear hRd
  have HPM := Lib.hid hPm; clear hPm
  have HSP2 := Lib.hid hsp2; clear hsp2
  have HST := Lib.hid hst; clear hst
  have HLEN := Lib.hid hlen; clear hlen
  have HTK := Lib.hid htake; clear htake
  have HSC := Lib.hid hsc; clear hsc
  have HSL := Lib.hid hSl; clear hSl
  have HVM := Lib.hid hvm; clear hvm
  have HMT := Lib.hid hmt; clear hmt
  have HTS := Lib.hid hts; clear hts
  go_enter Tryz.func27, Tryz.ntmps27
  go_wp2_with fail
  have bx0' : BoxE (w.alloc (.cells #[nv, nv, nv] 45)) w.heap.size 45 [nv, nv, nv] := BoxE.new w 45 [nv, nv, nv]
  have b1 : Below w.heap.size w (w.alloc (.cells #[nv, nv, nv] 45)) := by go_grown
  unfold nv at bx0' b1
  obtain ⟨g0, hg⟩ : ∃ g, g = w.heap.size := ⟨_, rfl⟩
  rw [← hg] at bx0'
  rw [← hg]
  have hg0 : w.heap.size ≤ g0 := Nat.le_of_eq hg.symm
  clear hg
  generalize w.alloc (.cells #[.slice none 0 0, .slice none 0 0, .slice none 0 0] 45) = w0 at *
  refine (HSP.out _ b1).mono ?_
  rintro _ w1 ⟨vp, rfl, op, bp⟩
  have bx1 := bx0'.later bp
  have b2 := b1.trans (bp.mono b1.size)
  obtain ⟨ap, cp, gp, rfl, hap, _⟩ := own_open op
  rw [HSL.out]
  rw [HSL.out] at hap
  have op' : ∃ bs, OwnW bs w1 (.slice ap P.length cp) (P.map str) := ⟨_, by have := op; rw [HSL.out] at this; exact this⟩
  have OP := Lib.hid op'; clear op'
  have HAP := Lib.hid hap; clear hap
  have BX1 := Lib.hid bx1; clear bx1
  clear op bx0' bp b1
  go_wp2_with fail
  go_loopw [13, 4] (fun i v wr => ∃ (k : Nat) (us : List Value), k ≤ P.length ∧ i = .int .i64 k ∧ OwnSS w.heap.size wr.heap.size wr v us ((P.take k).map fun x => (readL x).getD []) ∧ (∃ bs, OwnW bs wr (.slice ap P.length cp) (P.map str)) ∧ BoxE wr g0 45 [.slice none 0 0, .slice none 0 0, .slice none 0 0] ∧ Below w.heap.size w wr) (fun i _ _ => P.length - (intOf i).toNat)
  case atStart => exact ⟨0, [], Nat.zero_le _, rfl, (OwnSS.empty w.heap.size w1), OP.out, BX1.out, b2⟩
  case round =>
    obtain ⟨k, us, hk, rfl, ho, ⟨bs, op⟩, bx, hb⟩ := hrel
    have hql := HLEN.out k hk
    clear OP BX1
    by_cases hlt : k < P.length
    · have hapk : ap = some ⟨gp, 0, none⟩ := HAP.out (by omega)
      subst hapk
      have hix := ix (P := Tryz.prog) (T := 80) (sz := 1) (n := P.length) (cap := cp) Tryz.underlying80 (by kernel_rfl) (by kernel_rfl) (ao := some ⟨gp, 0, none⟩) (b := gp) (off := 0) (fun _ => rfl) (k := k) hlt _ rfl
      rw [Nat.mul_one, Nat.zero_add] at hix
      have hc := (World.ownsRow.cellAt (by rw [← HSL.out] at op; exact op) k (by rw [HSL.out]; omega)).trans (HSC.out k hlt)
      have hs2 := HSP2.out k hlt wr hb
      have hst := HST.out k hlt
      have hb0 := hb.size
      generalize hqs : ((P.take k).map fun x => (readL x).getD []) = qs at *
      generalize hqs2 : ((P.take (k + 1)).map fun x => (readL x).getD []) = qs2 at *
      generalize (readL P[k]).getD [] = row at *
      generalize (readL P[k]).isSome = rok at *
      generalize str P[k] = SK at *
      have HO := Lib.hid ho; clear ho
      have OP2 := Lib.hid op; clear op
      have BX := Lib.hid bx; clear bx
      have HST2 := Lib.hid hst; clear hst
      have HS2 := Lib.hid hs2; clear hs2
      have HQS := Lib.hid hqs; clear hqs
      have HQS2 := Lib.hid hqs2; clear hqs2
      have HQL := Lib.hid hql; clear hql
      clear HAP
      go_wp2_with fail
      refine HS2.out.mono ?_
      rintro _ w2 ⟨vl, rfl, ol, b2⟩
      have b3 := hb.trans (b2.mono hb0)
      have o2 := HO.out.later b2
      have bx2 := BX.out.later b2
      have op2 := own_later OP2.out b2
      obtain ⟨al, pl, hvl⟩ := own_shape ol
      subst hvl
      obtain ⟨aw, pw, hvw⟩ := own_shape o2.row
      subst hvw
      have z3 := b3.size
      have hap := own_apart o2.row op2 (by decide)
      have n0 := own_box o2.row bx2 (by decide)
      have hfin : ∀ v' w', w'.ownsRow w.heap.size 42 1 v' (qs.length + 1) (us ++ [.slice al row.length pl]) → Only (fun b => (Value.slice aw qs.length pw).ownBlock = some b) w2 w' → (∀ b, v'.ownBlock = some b → (Value.slice aw qs.length pw).ownBlock = some b ∨ w2.heap.size ≤ b) →
          OwnSS w.heap.size w'.heap.size w' v' (us ++ [.slice al row.length pl]) qs2 ∧ (∃ bs, OwnW bs w' (.slice (some ⟨gp, 0, none⟩) P.length cp) (P.map str)) ∧ BoxE w' g0 45 [.slice none 0 0, .slice none 0 0, .slice none 0 0] ∧ Below w.heap.size w w' := fun v' w' o q hat => by
        have hm4 := o2.snoc (row := row) b2.size hb0 ol o q hat
        rw [HST2.out] at hm4
        exact ⟨hm4, ⟨_, own_only op2 q (fun b e h => hap b h e)⟩, bx2.only q (fun e => n0 _ e rfl), Only.below b3 q z3 (fun b e => own_lo o2.row b e)⟩
      have o4 := o2.row
      have O4 := Lib.hid o4; clear o4
      have HFIN := Lib.hid hfin; clear hfin
      clear ol hc hix b2 o2 bx2 op2 hap n0 b3
      go_wp2_with (at_builtin; refine app_SSL (.tmp 22) (.tmp 24) _ _ _ _ _ _ _ _ (by rfl) (by rfl) (by rfl) (by rfl) O4.out (by have := HQL.out; omega) z3 ?_; intro v2 w9 o9 q9 h9)
      have hf := HFIN.out v2 w9 o9 q9 h9
      have HF := Lib.hid hf; clear hf
      clear o9 q9 h9
      go_roundw
      case rel => exact ⟨k + 1, _, by omega, by go_num, by rw [HQS2.out]; exact HF.out.1, HF.out.2.1, HF.out.2.2.1, HF.out.2.2.2⟩
      case measure => simp [intOf]; omega
    · obtain rfl : k = P.length := by omega
      rw [HTK.out] at ho hql
      clear op
      obtain ⟨av, pv, hv⟩ := own_shape ho.row
      subst hv
      by_cases h7 : P.length = 7
      · have hr := HR.out h7
        have hq7 : (P.map fun x => (readL x).getD []).length = 7 := by rw [hql]; exact h7
        generalize (P.map fun x => (readL x).getD []) = LS at *
        rw [hq7, h7]
        have H7 := Lib.hid h7; clear h7
        have hu7 : us.length = 7 := ho.len.trans hq7
        obtain ⟨gl, cl, hv2, hgl1, hgl2⟩ := World.ownsRow.form ho.row (by omega)
        injection hv2 with e1 e2 e3
        subst e1
        subst e3
        have hcap : 7 ≤ pv ∧ pv ≤ maxLen := by
          obtain ⟨_, h⟩ := ho.row
          rcases h with ⟨h, _⟩ | ⟨g', cap, cur, hv, _, _, hn, hm, _⟩
          · cases h
          · injection hv with e1 e2 e3; subst e3; omega
        have hce : ∀ j u, us[j]? = some u → wr.cell? ⟨gl, j, none⟩ = some u := fun j u hj => by
          have hj7 := (List.getElem?_eq_some_iff.1 hj).1
          rw [World.ownsRow.cellAt ho.row j (by omega)]; exact hj
        have p0 := hce 0 _ (getDv (us := us) (k := 0) (by omega))
        have p6 := hce 6 _ (getDv (us := us) (k := 6) (by omega))
        have ix0 := ix (P := Tryz.prog) (T := 43) (sz := 1) (n := 7) (cap := pv) Tryz.underlying43 (by kernel_rfl) (by kernel_rfl) (ao := some ⟨gl, 0, none⟩) (b := gl) (off := 0) (fun _ => rfl) (k := 0) (by decide) 0 rfl
        have ix6 := ix (P := Tryz.prog) (T := 43) (sz := 1) (n := 7) (cap := pv) Tryz.underlying43 (by kernel_rfl) (by kernel_rfl) (ao := some ⟨gl, 0, none⟩) (b := gl) (off := 0) (fun _ => rfl) (k := 6) (by decide) 6 rfl
        have i2 : (6 : Int) ≤ (pv : Int) := by omega
        have i3 : ¬ (pv = 1) := by omega
        have i4 : ¬ (pv - 1 = 0) := by omega
        have hsl := reslice_16 (g := gl) (c := pv) hcap.1 (by have := hcap.2; unfold maxLen at this; omega)
        have hcl := fun w' (hx : Below wr.heap.size wr w') => Clone5_c gl (pv - 1) us w' hu7 (fun j u hj => below_cell hx (hce j u hj)) ho.shape
        have hu0 : ∃ a n c, us.getD 0 nv = .slice a n c := by obtain ⟨a, p, e⟩ := own_shape (ho.own 0 (by omega)); exact ⟨_, _, _, e⟩
        have hu6 : ∃ a n c, us.getD 6 nv = .slice a n c := by obtain ⟨a, p, e⟩ := own_shape (ho.own 6 (by omega)); exact ⟨_, _, _, e⟩
        obtain ⟨A0, N0, C0, hu0⟩ := hu0
        obtain ⟨A6, N6, C6, hu6⟩ := hu6
        rw [hu0] at p0
        rw [hu6] at p6
        have hmk : ∀ w' cv, Below wr.heap.size wr w' → w'.ownsRow wr.heap.size 42 1 cv 5 (five us) → OwnM w.heap.size w'.heap.size w' (.slice A0 N0 C0) cv (.slice A6 N6 C6) (five us) (toM LS).1 (toM LS).2.1 (toM LS).2.2 := fun w' cv hx hc => by
          have := OwnM.ofSS ho hq7 (Nat.le_refl _) hb.size hx hc
          rwa [hu0, hu6] at this
        have HCL := Lib.hid hcl; clear hcl
        have HMK := Lib.hid hmk; clear hmk
        have HR1 := Lib.hid hr; clear hr
        have HO := Lib.hid ho; clear ho
        have BX := Lib.hid bx; clear bx
        have HB := Lib.hid hb; clear hb
        clear hce hu0 hu6 hcap hql HAP HTK HLEN HST HSP HSP2 HN7 HR
        have hglt : gl < wr.heap.size := hgl2
        have hbd : Below wr.heap.size wr wr.drew := (Below.refl _ _).drew
        have hbd2 : Below wr.heap.size wr (wr.alloc (.cells #[.slice none 0 0, .slice none 0 0, .slice none 0 0] 45)).drew := ((Below.refl _ _).alloc (Nat.le_refl _) _).drew
        have hBN : BoxE (wr.alloc (.cells #[.slice none 0 0, .slice none 0 0, .slice none 0 0] 45)) wr.heap.size 45 [.slice none 0 0, .slice none 0 0, .slice none 0 0] := BoxE.new wr 45 [.slice none 0 0, .slice none 0 0, .slice none 0 0]
        have BN := Lib.hid hBN; clear hBN
        have hneg : gl ≠ wr.heap.size := by omega
        have hbz := HB.out.size
        have hg0l := BX.out.v.lt
        go_upto_region 10 with fail
        go_cut [9] from 31 to 40 (fun s9 wx => CutMd w g0 (.slice A0 N0 C0) (.slice A6 N6 C6) (five us) LS s9 wx)
        case first =>
          go_region_held3 (fun w' => w'.cell? ⟨gl, 0, none⟩ = some (.slice A0 N0 C0) ∧ w'.cell? ⟨gl, 6, none⟩ = some (.slice A6 N6 C6)) (first | with_reducible exact ⟨p0, p6⟩ | with_reducible exact ⟨alloc_cell _ p0, alloc_cell _ p6⟩ | with_reducible exact ⟨three_keep p0 hneg, three_keep p6 hneg⟩ | exact ⟨below_cell (by go_grown) p0, below_cell (by go_grown) p6⟩) ((first | (go_at_call 78; (with_reducible refine (HCL.out wr.drew hbd).mono ?_); rintro _ wa ⟨cv, rfl, oc, qa⟩; obtain ⟨cv, cc, rfl⟩ := own_shape oc; have sa : Below wr.heap.size wr wa := hbd.trans qa; have p0 := below_cell sa p0; have p6 := below_cell sa p6; have oc2 : wa.ownsRow wr.heap.size 42 1 (.slice cv 5 cc) 5 (five us) := oc; have OC := Lib.hid oc2; clear oc2; have SA := Lib.hid sa; clear sa; clear oc qa) | (go_at_call 78; (with_reducible refine (HCL.out (wr.alloc (.cells #[.slice none 0 0, .slice none 0 0, .slice none 0 0] 45)).drew hbd2).mono ?_); rintro _ wa ⟨cv, rfl, oc, qa⟩; obtain ⟨cv, cc, rfl⟩ := own_shape oc; have hBX := BN.out.later ((Below.refl _ (wr.alloc (.cells #[.slice none 0 0, .slice none 0 0, .slice none 0 0] 45))).drew.trans qa); have bc0 := hBX.v.c 0 _ rfl; have bc1 := hBX.v.c 1 _ rfl; have bc2 := hBX.v.c 2 _ rfl; have bf := hBX.v.f; have sa : Below wr.heap.size wr wa := hbd2.trans (qa.mono hbd2.size); have p0 := below_cell sa p0; have p6 := below_cell sa p6; have oc2 : wa.ownsRow wr.heap.size 42 1 (.slice cv 5 cc) 5 (five us) := own_base oc hbd2.size; have OC := Lib.hid oc2; clear oc2; have SA := Lib.hid sa; clear sa; have HBX := Lib.hid hBX; clear hBX; clear oc qa)))
          all_goals (go_wp2_with fail; go_meet; first | exact CutMd.late (HMK.out wa _ SA.out OC.out) (BX.out.later SA.out) (HB.out.trans (SA.out.mono hbz)) | exact CutMd.early (HMK.out wa _ SA.out OC.out) (BX.out.later SA.out) (HB.out.trans (SA.out.mono hbz)) hbz (by omega) HBX.out)
        case rest =>
          obtain ⟨G, cv, cc, rfl, by1, hm, bx, hb⟩ := hcut
          generalize wc = w2 at *
          clear p0 p6 ix0 ix6 hsl hbd hbd2 BN HO BX HB HCL HMK hbz hg0l
          have y0 := by1.v.c 0 _ rfl
          have y1 := by1.v.c 1 _ rfl
          have y2 := by1.v.c 2 _ rfl
          generalize toM LS = M at *
          obtain ⟨ZS, WS, BS⟩ := M
          dsimp only at hm
          have hr := HR1.out
          dsimp only at hr
          have hv := HVM.out _ _ _ ZS WS BS w2 (Rd.of_own hm.z) hm.s.rd (Rd.of_own hm.b)
          have hmt := fun w' (hx : Below w2.heap.size w2 w') => HMT.out _ _ _ ZS WS BS w' (Rd.of_own (hm.later hx).z) (hm.later hx).s.rd (Rd.of_own (hm.later hx).b) (hb.trans (hx.mono hb.size))
          have htst : ∀ t, ((modTI ZS WS BS).toList == s.toList) = t → modelB ZS WS BS = true → decide (modT ZS WS BS = byteL s) = t := fun t h1 h2 => by
            rw [toL_eq] at h1
            unfold modTI at h1
            rw [if_pos h2] at h1
            rw [← h1]
            exact decide_eq_decide.2 (HTS.out _).symm
          have hfin : ∀ w3 w', Below w2.heap.size w2 w3 → Only (· = g0) w3 w' → OwnM w.heap.size w'.heap.size w' (.slice A0 N0 C0) (.slice cv 5 cc) (.slice A6 N6 C6) (five us) ZS WS BS ∧ Below w.heap.size w w' := fun w3 w' b3 q => by
            have m2 := hm.later b3
            have bx2 := bx.later b3
            exact ⟨(m2.box bx2 q).wide (Nat.le_refl _) (Nat.le_trans b3.size q.size), Only.below (hb.trans (b3.mono hb.size)) q (Nat.le_trans hb.size b3.size) (fun b e => by rw [e]; exact hg0)⟩
          have hth : ∀ w3, Below w2.heap.size w2 w3 → w3.there g0 0 3 ∧ w3.cell? ⟨G, 0, none⟩ = some (.slice A0 N0 C0) ∧ w3.cell? ⟨G, 1, none⟩ = some (.slice cv 5 cc) ∧ w3.cell? ⟨G, 2, none⟩ = some (.slice A6 N6 C6) :=
            fun w3 d => ⟨(bx.later d).v.there, (by1.later d).v.c 0 _ rfl, (by1.later d).v.c 1 _ rfl, (by1.later d).v.c 2 _ rfl⟩
          have HFIN := Lib.hid hfin; clear hfin
          have HTH := Lib.hid hth; clear hth
          have HMT2 := Lib.hid hmt; clear hmt
          clear hm bx by1 hb HR1
          cases t0 : modelB ZS WS BS
          · rw [t0] at hv hr
            rw [if_neg (by rintro ⟨h, _⟩; cases h)] at hr
            have HV := Lib.hid hv; clear hv
            have HR2 := Lib.hid hr; clear hr
            clear t0 htst
            go_wp2_with fail
            refine HV.out.mono ?_
            rintro _ w3 ⟨rfl, d2⟩
            obtain ⟨ht, c0, c1, c2⟩ := HTH.out w3 d2
            have hf := HFIN.out w3
            have D2 := Lib.hid d2; clear d2
            have HF := Lib.hid hf; clear hf
            have HT := Lib.hid ht; clear ht
            go_wp2_with (refine wpList_store_held rfl 45 (.tmp 2) (.tmp 50) rfl g0 0 #[.slice none 0 0, .slice none 0 0, .slice none 0 0] rfl rfl HT.out (by kernel_rfl) (by kernel_rfl) ?_; intro w5 q5 r5 o5 f5; have e0 : w5.cell? ⟨g0, 0, none⟩ = some (.slice none 0 0) := r5 0 _ rfl; have e1 : w5.cell? ⟨g0, 1, none⟩ = some (.slice none 0 0) := r5 1 _ rfl; have e2 : w5.cell? ⟨g0, 2, none⟩ = some (.slice none 0 0) := r5 2 _ rfl; have Q5 := Lib.hid q5; clear q5; clear r5 o5 f5)
            refine bodyPost_ret (v := .tuple #[.agg #[.slice none 0 0, .slice none 0 0, .slice none 0 0], .bool false]) (by simp [results, Tryz.results27, go_sem, e0, e1, e2]) rfl ?_
            rw [HR2.out]
            exact RetM2.nil (HF.out _ D2.out Q5.out).2
          · rw [t0] at hv hr
            cases t1 : ((modTI ZS WS BS).toList == s.toList)
            · have := htst _ t1 t0
              rw [if_neg (by rintro ⟨_, h⟩; rw [decide_eq_true h] at this; cases this)] at hr
              have HV := Lib.hid hv; clear hv
              have HR2 := Lib.hid hr; clear hr
              clear htst t0 this
              generalize modTI ZS WS BS = TI at *
              go_wp2_with fail
              refine HV.out.mono ?_
              rintro _ w3 ⟨rfl, d2⟩
              obtain ⟨ht, c0, c1, c2⟩ := HTH.out w3 d2
              go_wp2_with fail
              refine (HMT2.out w3 d2).mono ?_
              rintro _ w4 ⟨rfl, d3⟩
              have d4 := d2.trans (d3.mono d2.size)
              obtain ⟨ht3, c03, c13, c23⟩ := HTH.out w4 d4
              have hf := HFIN.out w4
              have D4 := Lib.hid d4; clear d4
              have HF := Lib.hid hf; clear hf
              have HT := Lib.hid ht3; clear ht3
              clear ht
              go_wp2_with (refine wpList_store_held rfl 45 (.tmp 2) (.tmp 50) rfl g0 0 #[.slice none 0 0, .slice none 0 0, .slice none 0 0] rfl rfl HT.out (by kernel_rfl) (by kernel_rfl) ?_; intro w5 q5 r5 o5 f5; have e0 : w5.cell? ⟨g0, 0, none⟩ = some (.slice none 0 0) := r5 0 _ rfl; have e1 : w5.cell? ⟨g0, 1, none⟩ = some (.slice none 0 0) := r5 1 _ rfl; have e2 : w5.cell? ⟨g0, 2, none⟩ = some (.slice none 0 0) := r5 2 _ rfl; have Q5 := Lib.hid q5; clear q5; clear r5 o5 f5)
              refine bodyPost_ret (v := .tuple #[.agg #[.slice none 0 0, .slice none 0 0, .slice none 0 0], .bool false]) (by simp [results, Tryz.results27, go_sem, e0, e1, e2]) rfl ?_
              rw [HR2.out]
              exact RetM2.nil (HF.out _ D4.out Q5.out).2
            · have := htst _ t1 t0
              rw [if_pos ⟨rfl, of_decide_eq_true this⟩] at hr
              have HV := Lib.hid hv; clear hv
              have HR2 := Lib.hid hr; clear hr
              clear htst t0 this
              generalize modTI ZS WS BS = TI at *
              go_wp2_with fail
              refine HV.out.mono ?_
              rintro _ w3 ⟨rfl, d2⟩
              obtain ⟨ht, c0, c1, c2⟩ := HTH.out w3 d2
              go_wp2_with fail
              refine (HMT2.out w3 d2).mono ?_
              rintro _ w4 ⟨rfl, d3⟩
              have d4 := d2.trans (d3.mono d2.size)
              obtain ⟨ht3, c03, c13, c23⟩ := HTH.out w4 d4
              have hf := HFIN.out w4
              have D4 := Lib.hid d4; clear d4
              have HF := Lib.hid hf; clear hf
              have HT := Lib.hid ht3; clear ht3
              clear ht
              go_wp2_with (refine wpList_store_held rfl 45 (.tmp 2) (.tmp 51) rfl g0 0 #[.slice A0 N0 C0, .slice cv 5 cc, .slice A6 N6 C6] rfl rfl HT.out (by kernel_rfl) (by kernel_rfl) ?_; intro w5 q5 r5 o5 f5; have e0 : w5.cell? ⟨g0, 0, none⟩ = some (.slice A0 N0 C0) := r5 0 _ rfl; have e1 : w5.cell? ⟨g0, 1, none⟩ = some (.slice cv 5 cc) := r5 1 _ rfl; have e2 : w5.cell? ⟨g0, 2, none⟩ = some (.slice A6 N6 C6) := r5 2 _ rfl; have Q5 := Lib.hid q5; clear q5; clear r5 o5 f5)
              refine bodyPost_ret (v := .tuple #[.agg #[.slice A0 N0 C0, .slice cv 5 cc, .slice A6 N6 C6], .bool true]) (by simp [results, Tryz.results27, go_sem, e0, e1, e2]) rfl ?_
              rw [HR2.out]
              exact ⟨_, _, _, five us, rfl, (HF.out _ D4.out Q5.out).1, (HF.out _ D4.out Q5.out).2⟩
      · have hn := HN7.out h7
        have hne : ((P.length : Int) == 7) = false := beq_eq_false_iff_ne.2 (by omega)
        have hth := bx.v.there
        have hfin : ∀ w', Only (· = g0) wr w' → Below w.heap.size w w' := fun w' q => Only.below hb q hb.size (fun b e => by rw [e]; exact hg0)
        rw [hql]
        have HN := Lib.hid hn; clear hn
        have HTH := Lib.hid hth; clear hth
        have HFIN := Lib.hid hfin; clear hfin
        clear bx ho hql h7
        go_wp2_with (refine wpList_store_held rfl 45 (.tmp 2) (.tmp 30) rfl g0 0 #[.slice none 0 0, .slice none 0 0, .slice none 0 0] rfl rfl HTH.out (by kernel_rfl) (by kernel_rfl) ?_; intro w5 q5 r5 o5 f5; have e0 : w5.cell? ⟨g0, 0, none⟩ = some (.slice none 0 0) := r5 0 _ rfl; have e1 : w5.cell? ⟨g0, 1, none⟩ = some (.slice none 0 0) := r5 1 _ rfl; have e2 : w5.cell? ⟨g0, 2, none⟩ = some (.slice none 0 0) := r5 2 _ rfl; have Q5 := Lib.hid q5; clear q5; clear r5 o5 f5)
        refine bodyPost_ret (v := .tuple #[.agg #[.slice none 0 0, .slice none 0 0, .slice none 0 0], .bool false]) (by simp [results, Tryz.results27, go_sem, e0, e1, e2]) rfl ?_
        rw [HN.out]
        exact RetM2.nil (HFIN.out _ Q5.out)

end Go.Proofs.YtgdadbmhdljcdaaGreatDoor

