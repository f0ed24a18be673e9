/- A part of the proof: contracts and laws. -/
import Derived.Below
import Derived.Deep.Draws
import Derived.Deep.AppendLies
import Derived.Maps.AppendAt
import Derived.OwnWalk
import Derived.Laws.BytesArg
import Derived.Laws.MakeOwn
import Derived.Laws.OwnMore
import Derived.Deep.OwnRows
import Derived.Tactics
import Derived.Lib.ConvBytes
import Derived.Laws.Slices
import Derived.WalkKit
import Derived.KernelRfl
import Derived.RowKit3
import Derived.Deep.LoopGhost
import Derived.Deep.QuietTactic
import Derived.BigQuiet
import Derived.WideLaws
import Derived.Deep.DeepCutAuto
import Derived.Deep.CutBlock
import Derived.Deep.RegionHeld3
import Derived.Laws.Rows
import Derived.Lib.AppendStr
import Derived.ArgAppend
import Derived.Laws.IdiomCopy
import Derived.OrdersHeld
import Derived.Laws.BitsLemmas
import Derived.RowKit
import Derived.Laws.StructEq
import Derived.IntWalk
import Derived.Maps.Own
import Derived.Maps.OwnOps
import Derived.Laws.EntriesVeiled
import Derived.ChangeKeysEq
import Derived.StillTailTactics
import Derived.Test.YthnilelmhpmanaaDoorProg
import Derived.Test.YthnilelmhpmanaaDoorCxq1
import Derived.Test.YthnilelmhpmanaaDoorCxq2
import Derived.Test.YthnilelmhpmanaaDoorCxq3
import Derived.Test.YthnilelmhpmanaaDoorCxq4
import Derived.Test.YthnilelmhpmanaaDoorCxq5
import Derived.Test.YthnilelmhpmanaaDoorCxq6
import Derived.Test.YthnilelmhpmanaaDoorCxq7
import Derived.Test.YthnilelmhpmanaaDoorCxq8
import Derived.Test.YthnilelmhpmanaaDoorCxq9
import Derived.Test.YthnilelmhpmanaaDoorCxq10
import Derived.Test.YthnilelmhpmanaaDoorCxq12
import Derived.Test.YthnilelmhpmanaaDoorCxq13
import Derived.Test.YthnilelmhpmanaaDoorCxq18
import Derived.Test.YthnilelmhpmanaaDoorCxq20
section
namespace Go.Proofs.YthnilelmhpmanaaDoor.PHeardFits
open Go.RowKit Go.Proofs.YthnilelmhpmanaaDoorW.PrintWords Go.Proofs.YthnilelmhpmanaaDoorW.PrintLast Go.Proofs.YthnilelmhpmanaaDoorW.PrintMore
set_option linter.unusedVariables false
set_option linter.unusedSimpArgs false
theorem ev_map {α β : Type} {g : Nat → Option α} {f : Nat → Option β} {a : α} {b : β} (h : Ev g a) (e : ∀ k, g k = some a → f k = some b) : Ev f b := by
  obtain ⟨K, h⟩ := h
  exact ⟨K, fun k hk => e k (h k hk)⟩
theorem mx_ge {a b c : Int} (h : c ≤ a ∨ c ≤ b) : c ≤ mx a b := by unfold mx; split <;> omega
theorem lcs_ge : ∀ (a b z : List Int), z.Sublist a → z.Sublist b → (z.length : Int) ≤ lcsP a b
  | [], b, z, ha, hb => by
    have := List.sublist_nil.1 ha
    subst this
    exact (lcsP_bd [] b).1
  | x :: a, [], z, ha, hb => by
    have := List.sublist_nil.1 hb
    subst this
    exact (lcsP_bd _ _).1
  | x :: a, y :: b, z, ha, hb => by
    rw [lcsP_cons]
    rcases List.sublist_cons_iff.1 ha with h1 | ⟨z1, rfl, h1⟩
    · have := lcs_ge a (y :: b) z h1 hb
      split <;> exact mx_ge (by first | exact .inl (mx_ge (.inl this)) | exact .inl this)
    · rcases List.sublist_cons_iff.1 hb with h2 | ⟨z2, h3, h2⟩
      · have := lcs_ge (x :: a) b (x :: z1) ha h2
        split <;> exact mx_ge (by first | exact .inl (mx_ge (.inr this)) | exact .inr this)
      · simp only [List.cons.injEq] at h3
        obtain ⟨rfl, rfl⟩ := h3
        have := lcs_ge a b z1 h1 h2
        rw [if_pos rfl]
        exact mx_ge (.inr (by simp only [List.length_cons]; omega))
termination_by a b => a.length + b.length
theorem lcs_ex : ∀ (a b : List Int), ∃ z : List Int, z.Sublist a ∧ z.Sublist b ∧ (z.length : Int) = lcsP a b
  | [], b => ⟨[], List.nil_sublist _, List.nil_sublist _, rfl⟩
  | x :: a, [] => ⟨[], List.nil_sublist _, List.nil_sublist _, by rw [lcsP_nil2]; rfl⟩
  | x :: a, y :: b => by
    obtain ⟨z1, p1, q1, r1⟩ := lcs_ex a (y :: b)
    obtain ⟨z2, p2, q2, r2⟩ := lcs_ex (x :: a) b
    obtain ⟨z3, p3, q3, r3⟩ := lcs_ex a b
    have hm : ∃ z : List Int, z.Sublist (x :: a) ∧ z.Sublist (y :: b) ∧ (z.length : Int) = mx (lcsP a (y :: b)) (lcsP (x :: a) b) := by
      unfold mx
      split
      · exact ⟨z2, p2, q2.cons _, r2⟩
      · exact ⟨z1, p1.cons _, q1, r1⟩
    rw [lcsP_cons]
    split
    · rename_i hxy
      subst hxy
      obtain ⟨z4, p4, q4, r4⟩ := hm
      generalize mx (lcsP a (x :: b)) (lcsP (x :: a) b) = m at r4 ⊢
      unfold mx
      split
      · exact ⟨x :: z3, p3.cons_cons x, q3.cons_cons x, by simp only [List.length_cons]; omega⟩
      · exact ⟨z4, p4, q4, r4⟩
    · exact hm
termination_by a b => a.length + b.length
theorem lcs_comm (a b : List Int) : lcsP a b = lcsP b a := by
  obtain ⟨z, p, q, r⟩ := lcs_ex a b
  obtain ⟨z2, p2, q2, r2⟩ := lcs_ex b a
  have h1 := lcs_ge b a z q p
  have h2 := lcs_ge a b z2 q2 p2
  omega
theorem lcs_sub {a t : List Int} (h : t.Sublist a) : lcsP a t = t.length := by
  have h1 := lcs_ge a t t h (List.Sublist.refl t)
  have h2 := (lcsP_bd t a).2
  rw [lcs_comm] at h2
  omega
theorem lcs_self (a : List Int) : lcsP a a = a.length := lcs_sub (List.Sublist.refl a)
def idxL (q : Nat → Bool) : Nat → Nat → List Int
  | 0, _ => []
  | c + 1, p => if q p = true then (p : Int) :: idxL q c (p + 1) else idxL q c (p + 1)
theorem mem_idxL (q : Nat → Bool) : ∀ (c p : Nat) (j : Int), j ∈ idxL q c p ↔ ∃ n : Nat, j = n ∧ p ≤ n ∧ n < p + c ∧ q n = true
  | 0, p, j => by simp [idxL]; omega
  | c + 1, p, j => by
    unfold idxL
    split
    · rename_i h
      rw [List.mem_cons, mem_idxL q c (p + 1) j]
      constructor
      · rintro (rfl | ⟨n, h1, h2, h3, h4⟩)
        · exact ⟨p, rfl, by omega, by omega, h⟩
        · exact ⟨n, h1, by omega, by omega, h4⟩
      · rintro ⟨n, h1, h2, h3, h4⟩
        by_cases hn : n = p
        · subst hn; exact .inl h1
        · exact .inr ⟨n, h1, by omega, by omega, h4⟩
    · rename_i h
      rw [mem_idxL q c (p + 1) j]
      constructor
      · rintro ⟨n, h1, h2, h3, h4⟩
        exact ⟨n, h1, by omega, by omega, h4⟩
      · rintro ⟨n, h1, h2, h3, h4⟩
        refine ⟨n, h1, ?_, by omega, h4⟩
        by_cases hn : n = p
        · subst hn; exact absurd h4 h
        · omega
theorem mem_idx (q : Nat → Bool) (c n : Nat) : (n : Int) ∈ idxL q c 0 ↔ n < c ∧ q n = true := by
  rw [mem_idxL]
  constructor
  · rintro ⟨m, h1, h2, h3, h4⟩
    obtain rfl : n = m := by omega
    exact ⟨by omega, h4⟩
  · rintro ⟨h1, h2⟩
    exact ⟨n, rfl, by omega, by omega, h2⟩
theorem grows_idxL (q : Nat → Bool) (below : Int) : ∀ (c p : Nat) (last : Int), last < p → (p : Int) + c ≤ below → growsB last below (idxL q c p) = true
  | 0, p, last, h, h2 => by simp [idxL, growsB]
  | c + 1, p, last, h, h2 => by
    unfold idxL
    split
    · unfold growsB
      rw [grows_idxL q below c (p + 1) p (by omega) (by omega)]
      simp; omega
    · exact grows_idxL q below c (p + 1) last (by omega) (by omega)
theorem grows_idx (q : Nat → Bool) (c : Nat) : growsB (-1) c (idxL q c 0) = true := grows_idxL q c c 0 (-1) (by omega) (by omega)
theorem idxL_len (q : Nat → Bool) : ∀ (c p : Nat), (idxL q c p).length ≤ c
  | 0, _ => by simp [idxL]
  | c + 1, p => by
    have := idxL_len q c (p + 1)
    unfold idxL
    split <;> simp <;> omega
theorem bookOk_ps {g : Int} {fs : List S85} {ps : List S62} (h : bookOk g fs ps = true) : 1 ≤ ps.length ∧ ps.length ≤ 6 ∧ bookB g fs = true := by
  unfold bookOk at h
  simp only [Bool.and_eq_true, liesB, decide_eq_true_eq] at h
  exact ⟨by omega, by omega, h.1.1⟩
theorem bookOk_piece {g : Int} {fs : List S85} {ps : List S62} (h : bookOk g fs ps = true) (i : Nat) (hi : i < ps.length) : 1 ≤ (ptones ps i).length ∧ (ptones ps i).length ≤ 24 ∧ (∀ t ∈ ptones ps i, 0 ≤ t ∧ t ≤ 6) ∧ 0 ≤ (rd_T62 ps i).f0 ∧ (rd_T62 ps i).f0 ≤ (fs.length : Int) - 1 := by
  unfold bookOk at h
  simp only [Bool.and_eq_true] at h
  have := List.all_eq_true.1 h.2 _ (rd_T62_mem ps i hi)
  unfold pieceOk areT at this
  simp only [Bool.and_eq_true, liesB, decide_eq_true_eq, Bool.not_eq_true', List.any_eq_false] at this
  obtain ⟨⟨h1, h2⟩, ⟨h3, h4⟩, h5⟩ := this
  refine ⟨by unfold ptones; omega, by unfold ptones; omega, fun t ht => ?_, h1, h2⟩
  have h6 := h5 t ht
  simp only [badTone, liesB, Bool.not_eq_true, Bool.not_eq_false', Bool.and_eq_true, decide_eq_true_eq] at h6
  exact h6
theorem common_f {l0 l1 : List Int} (h0 : l0.length ≤ 1000) (h1 : l1.length ≤ 1000) : heard_common.f l0 l1 = some (lcsP l0 l1) := by
  unfold heard_common.f; rw [if_pos h0, if_pos h1]
theorem common_ev {g : Int} {fs : List S85} {ps : List S62} (hff : FitForms fs) (hok : bookOk g fs ps = true) (i j : Nat) (hi : i < ps.length) (hj : j < ps.length) : Ev (fun k => heard_Common.f k g fs ps i j) (lcsP (ptones ps i) (ptones ps j), 0) := by
  obtain ⟨h1, h2, h3⟩ := bookOk_ps hok
  have hc := hcheck_ev g fs ps hff (by omega)
  rw [if_pos hok] at hc
  refine ev_map hc (fun k hk => ?_)
  have e2 : wrap64 ((ps.length : Int) - 1) = (ps.length : Int) - 1 := w64 (by omega) (by omega)
  have p1 := bookOk_piece hok i hi
  have p2 := bookOk_piece hok j hj
  unfold heard_Common.f
  rw [hk, Option.bind_some, if_pos rfl, e2, lies_eq, lies_eq]
  have l1 : liesB (i : Int) 0 ((ps.length : Int) - 1) = true := by simp [liesB]; omega
  have l2 : liesB (j : Int) 0 ((ps.length : Int) - 1) = true := by simp [liesB]; omega
  rw [l1, l2]
  simp only [Option.bind_some, if_true]
  rw [if_pos (by omega), if_pos (by omega), if_pos (by omega), if_pos (by omega)]
  have := common_f (l0 := ptones ps i) (l1 := ptones ps j) (by omega) (by omega)
  unfold ptones at this ⊢
  rw [this]; rfl
/-- Are tones a piece, but for no more strokes than so many? -/
def wholeQ (ps : List S62) (tones : List Int) (lost : Int) (p : Nat) : Bool := (lcsP (ptones ps p) tones == (tones.length : Int)) && decide (((ptones ps p).length : Int) - tones.length ≤ lost)
theorem piecesWhole_eq (ps : List S62) (tones : List Int) (lost : Int) (ht : tones.length ≤ 1000) (hp : ∀ p, p < ps.length → (ptones ps p).length ≤ 1000) : ∀ (c p : Nat), p + c ≤ ps.length → piecesWhole ps tones lost c p = some (idxL (wholeQ ps tones lost) c p)
  | 0, p, h => rfl
  | c + 1, p, h => by
    unfold piecesWhole wholeB
    rw [common_f (hp p (by omega)) ht, Option.bind_some, Option.bind_some, piecesWhole_eq ps tones lost ht hp c (p + 1) (by omega), Option.bind_some]
    rw [show idxL (wholeQ ps tones lost) (c + 1) p = if wholeQ ps tones lost p = true then (p : Int) :: idxL (wholeQ ps tones lost) c (p + 1) else idxL (wholeQ ps tones lost) c (p + 1) from rfl]
    rw [show ((lcsP (ptones ps p) tones == (tones.length : Int)) && decide (((ptones ps p).length : Int) - tones.length ≤ lost)) = wholeQ ps tones lost p from rfl]
theorem whole_ev {g : Int} {fs : List S85} {ps : List S62} (hff : FitForms fs) (hok : bookOk g fs ps = true) (tones : List Int) (lost : Int) (ht : areT tones 0 = true) (hl : 0 ≤ lost ∧ lost ≤ 6) : Ev (fun k => heard_Whole.f k g fs ps tones lost) (idxL (wholeQ ps tones lost) ps.length 0, 0) := by
  obtain ⟨h1, h2, h3⟩ := bookOk_ps hok
  have hc := hcheck_ev g fs ps hff (by omega)
  rw [if_pos hok] at hc
  refine ev_map hc (fun k hk => ?_)
  have ht2 := ht
  unfold areT at ht2
  simp only [Bool.and_eq_true, liesB, decide_eq_true_eq] at ht2
  unfold heard_Whole.f
  rw [hk, Option.bind_some, if_pos rfl, areT_eq, ht, Option.bind_some, if_pos rfl, if_pos (by simp [liesB]; omega), if_pos (by omega), piecesWhole_eq ps tones lost (by omega) (fun p hp => by have := bookOk_piece hok p hp; omega) ps.length 0 (by omega)]
  rfl
theorem sound_l1 (g : Int) (fs : List S85) (ps : List S62) (i : Int) (x : List Int) (hx : ∀ t ∈ x, 0 ≤ t ∧ t ≤ 6) (hl : x.length ≤ 1000) (r : Bool) (hr : Ev (fun k => saronlaw09_sound.l0 k true (wrap64 (i + 1)) g fs ps) r) : ∀ (d q : Nat), q + d = x.length → Ev (fun k => saronlaw09_sound.l1 k true i x q g fs ps) r
  | 0, q, h => by
    refine Ev.step (fun k => ?_) hr
    simp only [saronlaw09_sound.l1]; rw [if_pos (by trivial), if_neg (by omega)]
  | d + 1, q, h => by
    have hq : q < x.length := by omega
    have e1 : wrap64 ((q : Int) + 1) = ((q + 1 : Nat) : Int) := by rw [w64 (by omega) (by omega)]; omega
    have hm : rd x q ∈ x := by
      have : rd x q ∈ x.drop q := by rw [rd_cons x q hq]; exact List.mem_cons_self
      exact List.mem_of_mem_drop this
    refine Ev.step (f := fun k => saronlaw09_sound.l1 k true i x ((q + 1 : Nat) : Int) g fs ps) (fun k => ?_) (sound_l1 g fs ps i x hx hl r hr d (q + 1) (by omega))
    simp only [saronlaw09_sound.l1]
    rw [if_pos (by trivial), if_pos (by omega), if_pos (by omega), sits_eq, e1, show liesB (rd x q) 0 6 = true from by have := hx _ hm; simp [liesB]; omega, Option.bind_some]
theorem sound_l0 {g : Int} {fs : List S85} {ps : List S62} (hok : bookOk g fs ps = true) (hf : fs.length ≤ 9223372036854775807) : ∀ (d i : Nat), i + d = ps.length → Ev (fun k => saronlaw09_sound.l0 k true i g fs ps) true
  | 0, i, h => by
    refine Ev.step (f := fun k => saronlaw09_sound.j2 k true i false g fs ps) (fun k => ?_) ?_
    · simp only [saronlaw09_sound.l0]; rw [if_pos (by trivial), show decide ((i : Int) < (ps.length : Int)) = false from by simp; omega]
    · refine Ev.step (f := fun _ => some true) (fun k => ?_) (Ev.now _)
      simp only [saronlaw09_sound.j2]; rw [if_neg (by simp)]
  | d + 1, i, h => by
    have hi : i < ps.length := by omega
    obtain ⟨p1, p2, p3, p4, p5⟩ := bookOk_piece hok i hi
    have e2 : wrap64 ((fs.length : Int) - 1) = (fs.length : Int) - 1 := w64 (by omega) (by omega)
    have e1 : wrap64 ((i : Int) + 1) = ((i + 1 : Nat) : Int) := by have := bookOk_ps hok; rw [w64 (by omega) (by omega)]; omega
    refine Ev.step (f := fun k => saronlaw09_sound.j2 k true i true g fs ps) (fun k => ?_) ?_
    · simp only [saronlaw09_sound.l0]; rw [if_pos (by trivial), show decide ((i : Int) < (ps.length : Int)) = true from by simp; omega]
    · refine Ev.step (f := fun k => saronlaw09_sound.j3 k true i (ptones ps i) g fs ps) (fun k => ?_) ?_
      · simp only [saronlaw09_sound.j2]
        rw [if_pos (by trivial), if_pos (by omega), if_pos (by omega), sits_eq, sits_eq, e2, show liesB ((rd_T62 ps i).f1.length : Int) 1 24 = true from by unfold ptones at p1 p2; simp [liesB]; omega, show liesB (rd_T62 ps i).f0 0 ((fs.length : Int) - 1) = true from by simp [liesB]; omega]
        rfl
      · refine Ev.step (f := fun k => saronlaw09_sound.l1 k true i (ptones ps i) ((0 : Nat) : Int) g fs ps) (fun k => rfl) ?_
        exact sound_l1 g fs ps i _ p3 (by omega) true (by rw [e1]; exact sound_l0 hok hf d (i + 1) (by omega)) (ptones ps i).length 0 (by omega)
theorem sound_no (g : Int) (fs : List S85) (ps : List S62) : Ev (fun k => saronlaw09_sound.j0 k false g fs ps) false := by
  refine Ev.step (f := fun k => saronlaw09_sound.l0 k false 0 g fs ps) (fun k => rfl) ?_
  refine Ev.step (f := fun k => saronlaw09_sound.j2 k false 0 false g fs ps) (fun k => ?_) ?_
  · simp only [saronlaw09_sound.l0]; rw [if_neg (by simp)]
  · refine Ev.step (f := fun _ => some false) (fun k => ?_) (Ev.now _)
    simp only [saronlaw09_sound.j2]; rw [if_neg (by simp)]
theorem sound_ev (g : Int) (fs : List S85) (ps : List S62) (hff : FitForms fs) (hl : ps.length ≤ 9223372036854775807) : Ev (fun k => saronlaw09_sound.f k g fs ps) (bookOk g fs ps) := by
  have hc := hcheck_ev g fs ps hff hl
  refine Ev.bind (f := fun k t555 => if t555 = 0 then ((cycle_Check.f k g fs).bind fun t556 => (if t556 = 0 then ((saronref00_Sits.f (ps.length : Int) 1 6).bind fun t557 => (saronlaw09_sound.j0 k t557 g fs ps)) else (saronlaw09_sound.j0 k false g fs ps))) else (saronlaw09_sound.j0 k false g fs ps)) hc ?_
  cases hok : bookOk g fs ps with
  | false =>
    refine Ev.congr (f := fun k => saronlaw09_sound.j0 k false g fs ps) (fun k => by simp) ?_
    exact sound_no g fs ps
  | true =>
    obtain ⟨h1, h2, h3⟩ := bookOk_ps hok
    have hcc := check_ev g fs hff
    rw [if_pos h3] at hcc
    refine Ev.congr (f := fun k => (cycle_Check.f k g fs).bind fun t556 => (if t556 = 0 then ((saronref00_Sits.f (ps.length : Int) 1 6).bind fun t557 => (saronlaw09_sound.j0 k t557 g fs ps)) else (saronlaw09_sound.j0 k false g fs ps))) (fun k => by simp) ?_
    refine Ev.bind (f := fun k t556 => if t556 = 0 then ((saronref00_Sits.f (ps.length : Int) 1 6).bind fun t557 => (saronlaw09_sound.j0 k t557 g fs ps)) else (saronlaw09_sound.j0 k false g fs ps)) hcc ?_
    refine Ev.congr (f := fun k => saronlaw09_sound.j0 k true g fs ps) (fun k => by rw [if_pos rfl, sits_eq, show liesB (ps.length : Int) 1 6 = true from by simp [liesB]; omega]; rfl) ?_
    refine Ev.step (f := fun k => saronlaw09_sound.l0 k true ((0 : Nat) : Int) g fs ps) (fun k => rfl) ?_
    exact sound_l0 hok hff.1 ps.length 0 (by omega)
def nthP (l : List Int) (n : Int) : Int := if (l.length : Int) = 0 then 0 else rd l (turnP n l.length)
theorem nth_eq (l : List Int) (n : Int) (hl : l.length ≤ 9223372036854775807) : saronref00_Nth.f l n = some (nthP l n) := by
  unfold saronref00_Nth.f nthP
  by_cases h : (l.length : Int) = 0
  · rw [if_pos h, if_pos h]
  · have hb := turnP_bd n (l.length : Int) (by omega)
    rw [if_neg h, if_neg h, turn_eq _ _ (by omega), Option.bind_some, if_pos hb.1, if_pos hb.2]
def someP (bits : List Int) (lost : Int) : List Int → Nat → Int → List Int
  | [], _, _ => []
  | x :: r, s, gone => if gone < lost ∧ turnP (nthP bits s) 3 = 0 then someP bits lost r (s + 1) (gone + 1) else x :: someP bits lost r (s + 1) gone
theorem someP_sub (bits : List Int) (lost : Int) : ∀ (l : List Int) (s : Nat) (gone : Int), (someP bits lost l s gone).Sublist l
  | [], _, _ => List.Sublist.refl _
  | x :: r, s, gone => by
    unfold someP
    split
    · exact (someP_sub bits lost r (s + 1) (gone + 1)).cons _
    · exact (someP_sub bits lost r (s + 1) gone).cons_cons _
theorem someP_len (bits : List Int) (lost : Int) : ∀ (l : List Int) (s : Nat) (gone : Int), gone ≤ lost → (l.length : Int) - (someP bits lost l s gone).length ≤ lost - gone
  | [], _, _, h => by simp [someP]; omega
  | x :: r, s, gone, h => by
    unfold someP
    split
    · rename_i h1
      have := someP_len bits lost r (s + 1) (gone + 1) (by omega)
      simp only [List.length_cons]; omega
    · have := someP_len bits lost r (s + 1) gone h
      simp only [List.length_cons]; omega
theorem some_l0 (l : List Int) (lost : Int) (bits : List Int) (hl : l.length ≤ 1000) (hb : bits.length ≤ 9223372036854775807) (h6 : lost ≤ 1000) : ∀ (d i : Nat) (gone : Int) (acc : List Int), i + d = l.length → 0 ≤ gone → gone ≤ 1000 → acc.length ≤ i → Ev (fun k => saronlaw09_some.l0 k l lost bits acc gone i) (acc ++ someP bits lost (l.drop i) i gone)
  | 0, i, gone, acc, h, h0, h1, h2 => by
    refine Ev.step (f := fun _ => some acc) (fun k => ?_) ?_
    · simp only [saronlaw09_some.l0]; rw [if_neg (by omega)]
    · rw [List.drop_eq_nil_of_le (by omega)]; simpa [someP] using Ev.now _
  | d + 1, i, gone, acc, h, h0, h1, h2 => by
    have hi : i < l.length := by omega
    have e1 : wrap64 ((i : Int) + 1) = ((i + 1 : Nat) : Int) := by rw [w64 (by omega) (by omega)]; omega
    rw [rd_cons l i hi]
    unfold someP
    by_cases hg : gone < lost
    · by_cases ht : turnP (nthP bits i) 3 = 0
      · have e2 : wrap64 (gone + 1) = gone + 1 := w64 (by omega) (by omega)
        refine Ev.step (f := fun k => saronlaw09_some.l0 k l lost bits acc (gone + 1) ((i + 1 : Nat) : Int)) (fun k => ?_) ?_
        · simp only [saronlaw09_some.l0]
          rw [if_pos (by omega), if_pos hg, nth_eq _ _ hb, Option.bind_some, turn_eq _ _ (by omega), Option.bind_some, if_pos ht, e1, e2]
        · rw [if_pos ⟨hg, ht⟩]
          exact some_l0 l lost bits hl hb h6 d (i + 1) (gone + 1) acc (by omega) (by omega) (by omega) (by omega)
      · refine Ev.step (f := fun k => saronlaw09_some.l0 k l lost bits (acc ++ [rd l i]) gone ((i + 1 : Nat) : Int)) (fun k => ?_) ?_
        · simp only [saronlaw09_some.l0]
          rw [if_pos (by omega), if_pos hg, nth_eq _ _ hb, Option.bind_some, turn_eq _ _ (by omega), Option.bind_some, if_neg ht, if_pos (by omega), if_pos (by omega), e1]
        · rw [if_neg (fun hh => ht hh.2)]
          refine ev_cast (some_l0 l lost bits hl hb h6 d (i + 1) gone (acc ++ [rd l i]) (by omega) (by omega) (by omega) (by simp; omega)) ?_
          simp
    · refine Ev.step (f := fun k => saronlaw09_some.l0 k l lost bits (acc ++ [rd l i]) gone ((i + 1 : Nat) : Int)) (fun k => ?_) ?_
      · simp only [saronlaw09_some.l0]
        rw [if_pos (by omega), if_neg hg, if_pos (by omega), if_pos (by omega), e1]
      · rw [if_neg (fun hh => hg hh.1)]
        refine ev_cast (some_l0 l lost bits hl hb h6 d (i + 1) gone (acc ++ [rd l i]) (by omega) (by omega) (by omega) (by simp; omega)) ?_
        simp
theorem some_ev (l : List Int) (lost : Int) (bits : List Int) (hl : l.length ≤ 1000) (hb : bits.length ≤ 9223372036854775807) (h6 : lost ≤ 1000) : Ev (fun k => saronlaw09_some.f k l lost bits) (someP bits lost l 0 0) := by
  have := some_l0 l lost bits hl hb h6 l.length 0 0 [] (by omega) (by omega) (by omega) (by simp)
  simpa [saronlaw09_some.f] using this
theorem areT_sub {l t : List Int} (h : t.Sublist l) (hl : l.length ≤ 24) (hx : ∀ x ∈ l, 0 ≤ x ∧ x ≤ 6) : areT t 0 = true := by
  unfold areT
  have := h.length_le
  simp only [Bool.and_eq_true, liesB, decide_eq_true_eq, Bool.not_eq_true', List.any_eq_false, Bool.not_eq_true]
  refine ⟨by omega, fun x hm => ?_⟩
  have := hx x (h.subset hm)
  simp [badTone, liesB]; omega
end Go.Proofs.YthnilelmhpmanaaDoor.PHeardFits
end
