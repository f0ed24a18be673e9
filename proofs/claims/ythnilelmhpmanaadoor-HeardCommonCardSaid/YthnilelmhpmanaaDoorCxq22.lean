/- A part of the proof: contracts and laws. -/
import Derived.Below
import Derived.Deep.Draws
import Derived.Deep.AppendLies
import Derived.Maps.AppendAt
import Derived.OwnWalk
import Derived.Laws.BytesArg
import Derived.Laws.MakeOwn
import Derived.Laws.OwnMore
import Derived.Deep.OwnRows
import Derived.Tactics
import Derived.Lib.ConvBytes
import Derived.Laws.Slices
import Derived.WalkKit
import Derived.KernelRfl
import Derived.RowKit3
import Derived.Deep.LoopGhost
import Derived.Deep.QuietTactic
import Derived.BigQuiet
import Derived.WideLaws
import Derived.Deep.DeepCutAuto
import Derived.Deep.CutBlock
import Derived.Deep.RegionHeld3
import Derived.Laws.Rows
import Derived.Lib.AppendStr
import Derived.ArgAppend
import Derived.Laws.IdiomCopy
import Derived.OrdersHeld
import Derived.Laws.BitsLemmas
import Derived.RowKit
import Derived.Laws.StructEq
import Derived.Maps.Own
import Derived.Maps.OwnOps
import Derived.IntWalk
import Derived.ChangeKeysEq
import Derived.StillTailTactics
import Derived.Laws.EntriesVeiled
import Derived.RangeFuncNested
import Derived.RangeFuncBound
import Derived.RangeFuncCalls
import Derived.RangeFuncLeaves
import Derived.RangeFuncWrites
import Derived.Shelf.Abstract
import Derived.Shelf.RegionOpen
import Derived.OwnWalkIn
import Derived.TacticsInMore
import Derived.LoopNIn
import Derived.LoopIn
import Derived.Maps.OwnIn
import Derived.WalkMore
import Derived.Test.YthnilelmhpmanaaDoorProg
import Derived.Test.YthnilelmhpmanaaDoorCxq1
import Derived.Test.YthnilelmhpmanaaDoorCxq2
import Derived.Test.YthnilelmhpmanaaDoorCxq3
import Derived.Test.YthnilelmhpmanaaDoorCxq4
import Derived.Test.YthnilelmhpmanaaDoorCxq5
import Derived.Test.YthnilelmhpmanaaDoorCxq6
import Derived.Test.YthnilelmhpmanaaDoorCxq7
import Derived.Test.YthnilelmhpmanaaDoorCxq8
import Derived.Test.YthnilelmhpmanaaDoorCxq9
import Derived.Test.YthnilelmhpmanaaDoorCxq10
import Derived.Test.YthnilelmhpmanaaDoorCxq12
import Derived.Test.YthnilelmhpmanaaDoorCxq13
import Derived.Test.YthnilelmhpmanaaDoorCxq14
import Derived.Test.YthnilelmhpmanaaDoorCxq15
import Derived.Test.YthnilelmhpmanaaDoorCxq16
import Derived.Test.YthnilelmhpmanaaDoorCxq17
import Derived.Test.YthnilelmhpmanaaDoorCxq18
import Derived.Test.YthnilelmhpmanaaDoorCxq19
import Derived.Test.YthnilelmhpmanaaDoorCxq20
import Derived.Test.YthnilelmhpmanaaDoorCxq21
section
namespace Go.Proofs.YthnilelmhpmanaaDoor.PHeardFits
open Go.RowKit Go.Proofs.YthnilelmhpmanaaDoorW.PrintWords Go.Proofs.YthnilelmhpmanaaDoorW.PrintLast Go.Proofs.YthnilelmhpmanaaDoorW.PrintMore
set_option linter.unusedVariables false
set_option linter.unusedSimpArgs false
/-- What memory holds has sizes that memory can have. -/
theorem fit_row {w : World} {A : Option Addr} {n : Nat} {xs : List Int} (h : Kd.C (Kd.int .i64) w A n xs) : xs.length ≤ 9223372036854775807 := by
  have := Kd.C_max h
  have := Kd.C_len h
  omega
theorem K_slice {α : Type} {d : Kd α} {e : Nat} {w : World} {xs : List α} {cs : List Value} (h : (Kd.slice e d).K w xs cs) : ∃ A c, cs = [.slice A xs.length c] ∧ xs.length ≤ c ∧ d.C w A xs.length xs := h
theorem fit_forms {w : World} {A : Option Addr} {n : Nat} {fs : List S85} (h : Kd.C k85 w A n fs) : FitForms fs := by
  have h1 := Kd.C_max h
  have h2 := Kd.C_len h
  refine ⟨by omega, fun f hf => ?_⟩
  obtain ⟨i, hi, rfl⟩ := List.mem_iff_getElem.1 hf
  obtain ⟨ad, c, -, -, hK, -⟩ := Kd.C_get h z85 (i : Int) (by omega) (by omega)
  rw [Int.toNat_natCast, List.getD_eq_getElem?_getD, List.getElem?_eq_getElem hi, Option.getD_some] at hK
  obtain ⟨A1, c1, -, l1, g1⟩ := k85_open hK
  refine ⟨by have := Kd.C_max g1; simpa using this, fun l hl => ?_⟩
  obtain ⟨j, hj, rfl⟩ := List.mem_iff_getElem.1 hl
  obtain ⟨ad2, c2, -, -, hK2, -⟩ := Kd.C_get g1 [] (j : Int) (by omega) (by simpa using hj)
  rw [Int.toNat_natCast, List.getD_eq_getElem?_getD, List.getElem?_eq_getElem hj, Option.getD_some] at hK2
  obtain ⟨A3, c3, -, l3, g3⟩ := K_slice hK2
  have := Kd.C_max g3
  simpa using this
theorem fit_pieces {w : World} {A : Option Addr} {n : Nat} {ps : List S62} (h : Kd.C k62 w A n ps) : ps.length ≤ 9223372036854775807 := by
  have := Kd.C_max h
  have := Kd.C_len h
  omega
theorem common_any (g : Int) (Af : Option Addr) (cf : Nat) (fs : List S85) (Ap : Option Addr) (cp : Nat) (ps : List S62) (n0 n1 : Int) (Ab : Option Addr) (cb : Nat) (bits : List Int) (w : World) (hf : Kd.C k85 w Af fs.length fs) (hcf : fs.length ≤ cf) (hp : Kd.C k62 w Ap ps.length ps) (hcp : ps.length ≤ cp) (wa : (Lit.int .i64 n0).wf = true) (wb : (Lit.int .i64 n1).wf = true) (hbits : Kd.C (Kd.int .i64) w Ab bits.length bits) (hcb : bits.length ≤ cb) (hG : GlobIs w) :
    Calls Tryd.prog 12 #[.agg #[.int .i64 g, .slice Af fs.length cf, .slice Ap ps.length cp], .agg #[.int .i64 n0, .int .i64 n1], .slice Ab bits.length cb] w fun e w' => e = .returned (.bool true) ∧ Below w.heap.size w w' := by
  have hff := fit_forms hf
  have hpl := fit_pieces hp
  have hbl := fit_row hbits
  obtain ⟨K0, hS⟩ := sound_ev g fs ps hff hpl
  cases hok : bookOk g fs ps with
  | false =>
    rw [hok] at hS
    exact common_unsound K0 g Af cf fs Ap cp ps n0 n1 Ab cb bits w hf hcf hp hcp hbits hcb (hS K0 (Nat.le_refl _)) hG
  | true =>
    rw [hok] at hS
    obtain ⟨h1, h2, h3⟩ := bookOk_ps hok
    obtain ⟨i, hi⟩ : ∃ i : Nat, turnP n0 (ps.length : Int) = i := ⟨(turnP n0 ps.length).toNat, by have := turnP_bd n0 (ps.length : Int) (by omega); omega⟩
    obtain ⟨j, hj⟩ : ∃ j : Nat, turnP n1 (ps.length : Int) = j := ⟨(turnP n1 ps.length).toNat, by have := turnP_bd n1 (ps.length : Int) (by omega); omega⟩
    have hib := turnP_bd n0 (ps.length : Int) (by omega)
    have hjb := turnP_bd n1 (ps.length : Int) (by omega)
    rw [hi] at hib
    rw [hj] at hjb
    have hi' : i < ps.length := by omega
    have hj' : j < ps.length := by omega
    have pi := bookOk_piece hok i hi'
    have pj := bookOk_piece hok j hj'
    obtain ⟨K1, hC1⟩ := common_ev hff hok i j hi' hj'
    obtain ⟨K2, hC2⟩ := common_ev hff hok j i hj' hi'
    obtain ⟨K3, hC3⟩ := common_ev hff hok i i hi' hi'
    obtain ⟨K4, hSo⟩ := some_ev (ptones ps i) 6 bits (by omega) hbl (by omega)
    have hsub := someP_sub bits 6 (ptones ps i) 0 0
    have hlen := someP_len bits 6 (ptones ps i) 0 0 (by omega)
    have hle := hsub.length_le
    generalize ht : someP bits 6 (ptones ps i) 0 0 = t at hSo hsub hlen hle
    have hat := areT_sub hsub pi.2.1 pi.2.2.1
    obtain ⟨K5, hW1⟩ := whole_ev hff hok t (((ptones ps i).length : Int) - t.length) hat ⟨by omega, by omega⟩
    have hq1 : wholeQ ps t (((ptones ps i).length : Int) - t.length) i = true := by
      unfold wholeQ
      rw [lcs_sub hsub]
      simp
    obtain ⟨K6, hWh⟩ := where_ev (idxL (wholeQ ps t (((ptones ps i).length : Int) - t.length)) ps.length 0) i (by have := idxL_len (wholeQ ps t (((ptones ps i).length : Int) - t.length)) ps.length 0; omega)
    obtain ⟨K7, hGr⟩ := rgrows_ev (idxL (wholeQ ps t (((ptones ps i).length : Int) - t.length)) ps.length 0) ps.length (by have := idxL_len (wholeQ ps t (((ptones ps i).length : Int) - t.length)) ps.length 0; omega)
    rw [grows_idx] at hGr
    have hw0 : 0 ≤ whereP i (idxL (wholeQ ps t (((ptones ps i).length : Int) - t.length)) ps.length 0) 0 := (whereP_mem _ _ _).2 ((mem_idx _ _ _).2 ⟨hi', hq1⟩)
    have hbd := lcsP_bd (ptones ps i) (ptones ps j)
    have hbd2 := (lcsP_bd (ptones ps j) (ptones ps i)).2
    rw [lcs_comm (ptones ps j)] at hC2 hbd2
    rw [lcs_self] at hC3
    have hsit : saronref00_Sits.f (lcsP (ptones ps i) (ptones ps j)) 0 (mn ((ptones ps i).length : Int) ((ptones ps j).length : Int)) = some true := by
      rw [sits_eq]
      congr 1
      simp only [liesB, Bool.and_eq_true, decide_eq_true_eq]
      refine ⟨hbd.1, ?_⟩
      unfold mn
      split <;> omega
    have hij : i = j → lcsP (ptones ps i) (ptones ps j) = ((ptones ps i).length : Int) := fun e => by subst e; exact lcs_self _
    have hend : ∃ K8, ∀ k, K8 ≤ k → (t.length = (ptones ps i).length ∨ (t.length < (ptones ps i).length ∧ ∃ (l2 : List Int) (q2 : Int), heard_Whole.f k g fs ps t (((ptones ps i).length : Int) - t.length - 1) = some (l2, 0) ∧ saronref00_Where.f k l2 i = some q2 ∧ q2 < 0)) := by
      by_cases hz : t.length = (ptones ps i).length
      · exact ⟨0, fun k _ => .inl hz⟩
      · obtain ⟨K9, hW2⟩ := whole_ev hff hok t (((ptones ps i).length : Int) - t.length - 1) hat ⟨by omega, by omega⟩
        obtain ⟨K10, hWh2⟩ := where_ev (idxL (wholeQ ps t (((ptones ps i).length : Int) - t.length - 1)) ps.length 0) i (by have := idxL_len (wholeQ ps t (((ptones ps i).length : Int) - t.length - 1)) ps.length 0; omega)
        refine ⟨max K9 K10, fun k hk => .inr ⟨by omega, _, _, hW2 k (by omega), hWh2 k (by omega), ?_⟩⟩
        have hnot : ¬ (0 ≤ whereP i (idxL (wholeQ ps t (((ptones ps i).length : Int) - t.length - 1)) ps.length 0) 0) := by
          rw [whereP_mem, mem_idx]
          rintro ⟨-, h⟩
          unfold wholeQ at h
          simp only [Bool.and_eq_true, decide_eq_true_eq] at h
          omega
        omega
    obtain ⟨K8, hend⟩ := hend
    have hT1 : saronref00_Turn.f n0 (ps.length : Int) = some (i : Int) := by rw [turn_eq _ _ (by omega), hi]
    have hT2 : saronref00_Turn.f n1 (ps.length : Int) = some (j : Int) := by rw [turn_eq _ _ (by omega), hj]
    obtain ⟨k, hk⟩ : ∃ k, k = K0 + K1 + K2 + K3 + K4 + K5 + K6 + K7 + K8 := ⟨_, rfl⟩
    exact common_sound k g Af cf fs Ap cp ps n0 n1 Ab cb bits w hf hcf hp hcp hbits hcb i j _ t _ _ (hS k (by omega)) hT1 hT2 hi' hj' (hC1 k (by omega)) (hC2 k (by omega)) (hC3 k (by omega)) pi.2.1 pj.2.1 hsit hij (hSo k (by omega)) hle (hW1 k (by omega)) (hWh k (by omega)) hw0 (hGr k (by omega)) (hend k (by omega)) hG
end Go.Proofs.YthnilelmhpmanaaDoor.PHeardFits
end
