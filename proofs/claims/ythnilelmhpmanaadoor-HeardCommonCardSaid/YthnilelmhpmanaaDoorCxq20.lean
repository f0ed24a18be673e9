/- A part of the proof: contracts and laws. -/
import Derived.Below
import Derived.Deep.Draws
import Derived.Deep.AppendLies
import Derived.Maps.AppendAt
import Derived.OwnWalk
import Derived.Laws.BytesArg
import Derived.Laws.MakeOwn
import Derived.Laws.OwnMore
import Derived.Deep.OwnRows
import Derived.Tactics
import Derived.Lib.ConvBytes
import Derived.Laws.Slices
import Derived.WalkKit
import Derived.KernelRfl
import Derived.RowKit3
import Derived.Deep.LoopGhost
import Derived.Deep.QuietTactic
import Derived.BigQuiet
import Derived.WideLaws
import Derived.Deep.DeepCutAuto
import Derived.Deep.CutBlock
import Derived.Deep.RegionHeld3
import Derived.Laws.Rows
import Derived.Lib.AppendStr
import Derived.ArgAppend
import Derived.Laws.IdiomCopy
import Derived.OrdersHeld
import Derived.Laws.BitsLemmas
import Derived.RowKit
import Derived.Laws.StructEq
import Derived.IntWalk
import Derived.Test.YthnilelmhpmanaaDoorProg
import Derived.Test.YthnilelmhpmanaaDoorCxq1
import Derived.Test.YthnilelmhpmanaaDoorCxq2
import Derived.Test.YthnilelmhpmanaaDoorCxq3
import Derived.Test.YthnilelmhpmanaaDoorCxq4
import Derived.Test.YthnilelmhpmanaaDoorCxq5
import Derived.Test.YthnilelmhpmanaaDoorCxq7
import Derived.Test.YthnilelmhpmanaaDoorCxq18
section
namespace Go.Proofs.YthnilelmhpmanaaDoor.PHeardFits
open Go.RowKit Go.Proofs.YthnilelmhpmanaaDoorW.PrintWords Go.Proofs.YthnilelmhpmanaaDoorW.PrintLast Go.Proofs.YthnilelmhpmanaaDoorW.PrintMore
set_option linter.unusedVariables false
set_option linter.unusedSimpArgs false
/-- Are numbers tones, so many of them at least? -/
def areT (l : List Int) (least : Int) : Bool := liesB l.length least 24 && !(l.any badTone)
theorem areT_eq (l : List Int) (least : Int) : heard_areTones.f l least = some (areT l least) := rfl
def pieceOk (n : Nat) (p : S62) : Bool := liesB p.f0 0 ((n : Int) - 1) && areT p.f1 1
def bookOk (g : Int) (fs : List S85) (ps : List S62) : Bool := bookB g fs && liesB ps.length 1 6 && ps.all (pieceOk fs.length)
theorem rd_T62_mem (ps : List S62) (i : Nat) (h : i < ps.length) : rd_T62 ps (i : Int) ∈ ps := by
  have : rd_T62 ps (i : Int) ∈ ps.drop i := by rw [rd_T62_cons ps i h]; exact List.mem_cons_self
  exact List.mem_of_mem_drop this
theorem hcheck_l0 (g : Int) (fs : List S85) (ps : List S62) (hl : ps.length ≤ 9223372036854775807) (hf : fs.length ≤ 9223372036854775807) :
    ∀ (d i : Nat) (ok : Bool), i + d = ps.length → Ev (fun k => heard_Check.l0 k ok ps (ps.length : Int) i g fs ps) (if (ok && (ps.drop i).all (pieceOk fs.length)) = true then 0 else 90)
  | 0, i, ok, h => by
    refine Ev.step (f := fun _ => some (if ok = true then 0 else 90)) (fun k => ?_) ?_
    · simp only [heard_Check.l0]; rw [if_neg (by omega)]; cases ok <;> rfl
    · rw [List.drop_eq_nil_of_le (by omega)]; simpa using Ev.now _
  | d + 1, i, ok, h => by
    have hi : i < ps.length := by omega
    have e1 : wrap64 ((i : Int) + 1) = ((i + 1 : Nat) : Int) := by rw [w64 (by omega) (by omega)]; omega
    have e2 : wrap64 ((fs.length : Int) - 1) = (fs.length : Int) - 1 := w64 (by omega) (by omega)
    refine Ev.step (f := fun k => heard_Check.l0 k (ok && pieceOk fs.length (rd_T62 ps i)) ps (ps.length : Int) ((i + 1 : Nat) : Int) g fs ps) (fun k => ?_) ?_
    · simp only [heard_Check.l0]
      rw [if_pos (by omega), if_pos (by omega), if_pos (by omega), e1, e2, lies_eq, areT_eq]
      cases ok with
      | false => simp
      | true =>
        simp only [if_true, Option.bind_some, Bool.true_and, pieceOk]
        cases liesB (rd_T62 ps i).f0 0 ((fs.length : Int) - 1) <;> simp
    · refine ev_cast (hcheck_l0 g fs ps hl hf d (i + 1) _ (by omega)) ?_
      rw [rd_T62_cons ps i hi, List.all_cons, Bool.and_assoc]
theorem hcheck_ev (g : Int) (fs : List S85) (ps : List S62) (hff : FitForms fs) (hl : ps.length ≤ 9223372036854775807) : Ev (fun k => heard_Check.f k g fs ps) (if bookOk g fs ps = true then 0 else 90) := by
  have key : ∀ b, Ev (fun k => heard_Check.j0 k b g fs ps) (if (b && ps.all (pieceOk fs.length)) = true then 0 else 90) := fun b => by
    refine Ev.step (f := fun k => heard_Check.l0 k b ps (ps.length : Int) ((0 : Nat) : Int) g fs ps) (fun k => rfl) ?_
    simpa using hcheck_l0 g fs ps hl hff.1 ps.length 0 b (by omega)
  refine Ev.bind (f := fun k e => if e = 0 then ((heard_lies.f (ps.length : Int) 1 6).bind fun t => heard_Check.j0 k t g fs ps) else heard_Check.j0 k false g fs ps) (check_ev g fs hff) ?_
  unfold bookOk
  cases hb : bookB g fs with
  | true =>
    refine Ev.congr (f := fun k => heard_Check.j0 k (liesB ps.length 1 6) g fs ps) (fun k => ?_) (ev_cast (key _) (by simp))
    simp [lies_eq]
  | false =>
    refine Ev.congr (f := fun k => heard_Check.j0 k false g fs ps) (fun k => ?_) (ev_cast (key _) (by simp))
    simp
theorem sits_eq (a b c : Int) : saronref00_Sits.f a b c = some (liesB a b c) := by
  unfold saronref00_Sits.f liesB
  by_cases h : b ≤ a <;> simp [h]
/-- The first place of a number; -1: it is not there. -/
def whereP (n : Int) : List Int → Nat → Int
  | [], _ => -1
  | x :: l, i => if x = n then (i : Int) else whereP n l (i + 1)
theorem where_l0 (l : List Int) (n : Int) (hl : l.length ≤ 9223372036854775807) : ∀ (d i : Nat), i + d = l.length → Ev (fun k => saronref00_Where.l0 k l n i) (whereP n (l.drop i) i)
  | 0, i, h => by
    refine Ev.step (f := fun _ => some (-1)) (fun k => ?_) ?_
    · simp only [saronref00_Where.l0]; rw [if_neg (by omega)]
    · rw [List.drop_eq_nil_of_le (by omega)]; exact Ev.now _
  | d + 1, i, h => by
    have hi : i < l.length := by omega
    have e1 : wrap64 ((i : Int) + 1) = ((i + 1 : Nat) : Int) := by rw [w64 (by omega) (by omega)]; omega
    rw [rd_cons l i hi]
    unfold whereP
    by_cases hc : rd l i = n
    · refine Ev.step (f := fun _ => some (i : Int)) (fun k => ?_) ?_
      · simp only [saronref00_Where.l0]; rw [if_pos (by omega), if_pos (by omega), if_pos hc]
      · rw [if_pos hc]; exact Ev.now _
    · refine Ev.step (f := fun k => saronref00_Where.l0 k l n ((i + 1 : Nat) : Int)) (fun k => ?_) ?_
      · simp only [saronref00_Where.l0]; rw [if_pos (by omega), if_pos (by omega), if_neg hc, e1]
      · rw [if_neg hc]; exact where_l0 l n hl d (i + 1) (by omega)
theorem where_ev (l : List Int) (n : Int) (hl : l.length ≤ 9223372036854775807) : Ev (fun k => saronref00_Where.f k l n) (whereP n l 0) := by
  have := where_l0 l n hl l.length 0 (by omega)
  simpa [saronref00_Where.f] using this
theorem whereP_mem (n : Int) : ∀ (l : List Int) (i : Nat), 0 ≤ whereP n l i ↔ n ∈ l
  | [], i => by simp [whereP]
  | x :: l, i => by
    unfold whereP
    by_cases h : x = n
    · rw [if_pos h]; simp [h]
    · rw [if_neg h, whereP_mem n l (i + 1)]
      simp [Ne.symm h]
theorem rgrows_l0 (l : List Int) (below : Int) (hl : l.length ≤ 9223372036854775807) : ∀ (d i : Nat) (last : Int), i + d = l.length → Ev (fun k => saronref00_Grows.l0 k l below last i) (growsB last below (l.drop i))
  | 0, i, last, h => by
    refine Ev.step (f := fun _ => some true) (fun k => ?_) ?_
    · simp only [saronref00_Grows.l0]; rw [if_neg (by omega)]
    · rw [List.drop_eq_nil_of_le (by omega)]; exact Ev.now _
  | d + 1, i, last, h => by
    have hi : i < l.length := by omega
    have e1 : wrap64 ((i : Int) + 1) = ((i + 1 : Nat) : Int) := by rw [w64 (by omega) (by omega)]; omega
    rw [rd_cons l i hi]
    unfold growsB
    by_cases h1 : rd l i ≤ last
    · refine Ev.step (f := fun _ => some false) (fun k => ?_) ?_
      · simp only [saronref00_Grows.l0]; rw [if_pos (by omega), if_pos (by omega), if_pos h1]
      · rw [show decide (last + 1 ≤ rd l i) = false from by simp; omega]; exact Ev.now _
    · by_cases h2 : rd l i ≥ below
      · refine Ev.step (f := fun _ => some false) (fun k => ?_) ?_
        · simp only [saronref00_Grows.l0]; rw [if_pos (by omega), if_pos (by omega), if_neg h1, if_pos h2]
        · rw [show decide (rd l i ≤ below - 1) = false from by simp; omega]; simpa using Ev.now false
      · refine Ev.step (f := fun k => saronref00_Grows.l0 k l below (rd l i) ((i + 1 : Nat) : Int)) (fun k => ?_) ?_
        · simp only [saronref00_Grows.l0]; rw [if_pos (by omega), if_pos (by omega), if_neg h1, if_neg h2, e1]
        · rw [show decide (last + 1 ≤ rd l i) = true from by simp; omega, show decide (rd l i ≤ below - 1) = true from by simp; omega]
          simpa using rgrows_l0 l below hl d (i + 1) (rd l i) (by omega)
theorem rgrows_ev (l : List Int) (below : Int) (hl : l.length ≤ 9223372036854775807) : Ev (fun k => saronref00_Grows.f k l below) (growsB (-1) below l) := by
  have := rgrows_l0 l below hl l.length 0 (-1) (by omega)
  simpa [saronref00_Grows.f] using this
theorem neg_lt_tmod (a b : Int) (hb : 0 < b) : -b < Int.tmod a b := by
  by_cases h : 0 ≤ a
  · have := Int.tmod_nonneg b h
    omega
  · have h1 : Int.tmod a b = -(Int.tmod (-a) b) := by rw [Int.neg_tmod]; omega
    have h2 := Int.tmod_lt_of_pos (-a) hb
    omega
/-- A number brought into what lies below another one. -/
def turnP (a b : Int) : Int := if b < 1 then 0 else if Int.tmod a b < 0 then Int.tmod a b + b else Int.tmod a b
theorem turn_eq (a b : Int) (hb : b ≤ 9223372036854775807) : saronref00_Turn.f a b = some (turnP a b) := by
  unfold saronref00_Turn.f turnP
  by_cases h : b < 1
  · rw [if_pos h, if_pos h]
  · rw [if_neg h, if_neg h, if_neg (by omega)]
    have h1 := Int.tmod_lt_of_pos a (b := b) (by omega)
    have h2 := neg_lt_tmod a b (by omega)
    by_cases hn : Int.tmod a b < 0
    · rw [if_pos hn, if_pos hn, w64 (by omega) (by omega)]
    · rw [if_neg hn, if_neg hn]
theorem turnP_bd (a b : Int) (hb : 1 ≤ b) : 0 ≤ turnP a b ∧ turnP a b < b := by
  unfold turnP
  rw [if_neg (by omega)]
  have h1 := Int.tmod_lt_of_pos a (b := b) (by omega)
  have h2 := neg_lt_tmod a b (by omega)
  split <;> omega
end Go.Proofs.YthnilelmhpmanaaDoor.PHeardFits
end
