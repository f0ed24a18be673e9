/- A part of the proof: contracts and laws. -/
import Derived.Below
import Derived.Deep.Draws
import Derived.Deep.AppendLies
import Derived.Maps.AppendAt
import Derived.OwnWalk
import Derived.Laws.BytesArg
import Derived.Laws.MakeOwn
import Derived.Laws.OwnMore
import Derived.Deep.OwnRows
import Derived.Tactics
import Derived.Lib.ConvBytes
import Derived.Laws.Slices
import Derived.WalkKit
import Derived.KernelRfl
import Derived.RowKit3
import Derived.Deep.LoopGhost
import Derived.Deep.QuietTactic
import Derived.BigQuiet
import Derived.WideLaws
import Derived.Deep.DeepCutAuto
import Derived.Deep.CutBlock
import Derived.Deep.RegionHeld3
import Derived.Laws.Rows
import Derived.Lib.AppendStr
import Derived.ArgAppend
import Derived.Laws.IdiomCopy
import Derived.OrdersHeld
import Derived.Laws.BitsLemmas
import Derived.RowKit
import Derived.Laws.StructEq
import Derived.Maps.Own
import Derived.Maps.OwnOps
import Derived.IntWalk
import Derived.ChangeKeysEq
import Derived.StillTailTactics
import Derived.Laws.EntriesVeiled
import Derived.RangeFuncNested
import Derived.RangeFuncBound
import Derived.RangeFuncCalls
import Derived.RangeFuncLeaves
import Derived.RangeFuncWrites
import Derived.Shelf.Abstract
import Derived.Shelf.RegionOpen
import Derived.OwnWalkIn
import Derived.TacticsInMore
import Derived.LoopNIn
import Derived.LoopIn
import Derived.Maps.OwnIn
import Derived.WalkMore
import Derived.Test.YthnilelmhpmanaaDoorProg
import Derived.Test.YthnilelmhpmanaaDoorCxq1
import Derived.Test.YthnilelmhpmanaaDoorCxq2
import Derived.Test.YthnilelmhpmanaaDoorCxq3
import Derived.Test.YthnilelmhpmanaaDoorCxq4
import Derived.Test.YthnilelmhpmanaaDoorCxq5
import Derived.Test.YthnilelmhpmanaaDoorCxq6
import Derived.Test.YthnilelmhpmanaaDoorCxq7
import Derived.Test.YthnilelmhpmanaaDoorCxq8
import Derived.Test.YthnilelmhpmanaaDoorCxq9
import Derived.Test.YthnilelmhpmanaaDoorCxq10
import Derived.Test.YthnilelmhpmanaaDoorCxq12
import Derived.Test.YthnilelmhpmanaaDoorCxq13
import Derived.Test.YthnilelmhpmanaaDoorCxq14
import Derived.Test.YthnilelmhpmanaaDoorCxq15
import Derived.Test.YthnilelmhpmanaaDoorCxq16
import Derived.Test.YthnilelmhpmanaaDoorCxq17
import Derived.Test.YthnilelmhpmanaaDoorCxq18
section
namespace Go.Proofs.YthnilelmhpmanaaDoor.PHeardFits
open Go.RowKit Go.Proofs.YthnilelmhpmanaaDoorW.PrintWords Go.Proofs.YthnilelmhpmanaaDoorW.PrintLast Go.Proofs.YthnilelmhpmanaaDoorW.PrintMore
open Go.Proofs.YthnilelmhpmanaaDoor.Hm
attribute [local go_sem] max2_int min2_int max_two min_two max_three min_three max_four min_four
set_option linter.unusedVariables false
set_option linter.unusedSimpArgs false
set_option maxRecDepth 100000 in
set_option maxHeartbeats 1000000 in
theorem common_unsound (k : Nat) (g : Int) (Af : Option Addr) (cf : Nat) (fs : List S85) (Ap : Option Addr) (cp : Nat) (ps : List S62) (n0 n1 : Int) (Ab : Option Addr) (cb : Nat) (bits : List Int) (w : World) (hf : Kd.C k85 w Af fs.length fs) (hcf : fs.length ≤ cf) (hp : Kd.C k62 w Ap ps.length ps) (hcp : ps.length ≤ cp) (hbits : Kd.C (Kd.int .i64) w Ab bits.length bits) (hcb : bits.length ≤ cb) (hs : saronlaw09_sound.f k g fs ps = some false) (hG : GlobIs w) :
    Calls Tryd.prog 12 #[.agg #[.int .i64 g, .slice Af fs.length cf, .slice Ap ps.length cp], .agg #[.int .i64 n0, .int .i64 n1], .slice Ab bits.length cb] w fun e w' => e = .returned (.bool true) ∧ Below w.heap.size w w' := by
  have hu27 := Tryd.underlying27
  have hu24 := Tryd.underlying24
  have hu43 := Tryd.underlying43
  have hu62 := Tryd.underlying62
  have HF := Aside0.mk hf
  have HP := Aside0.mk hp
  have HBI := Aside0.mk hbits
  have H1 := Aside0.mk hcf
  have H2 := Aside0.mk hcp
  have H3 := Aside0.mk hcb
  have HG := Aside0.mk hG
  clear hf hp hbits hcf hcp hcb hG
  have HS := Aside0.mk hs
  clear hs
  go_enter Tryd.func12, Tryd.ntmps12
  go_wp2_with fail
  have hb0 := (below_alloc (Below.refl _ w) (Obj.cells #[.int .i64 g, .slice Af fs.length cf, .slice Ap ps.length cp] 27)).alloc (by simp) (Obj.cells #[.int .i64 n0, .int .i64 n1] 43)
  have b2 := blk_alloc (blk_new w (Obj.cells #[.int .i64 g, .slice Af fs.length cf, .slice Ap ps.length cp] 27)) (Obj.cells #[.int .i64 n0, .int .i64 n1] 43)
  have b3 := blk_new (w.alloc (Obj.cells #[.int .i64 g, .slice Af fs.length cf, .slice Ap ps.length cp] 27)) (Obj.cells #[.int .i64 n0, .int .i64 n1] 43)
  rw [World.size_alloc] at b3
  obtain ⟨w1, hw1⟩ : ∃ w1, (w.alloc (Obj.cells #[.int .i64 g, .slice Af fs.length cf, .slice Ap ps.length cp] 27)).alloc (Obj.cells #[.int .i64 n0, .int .i64 n1] 43) = w1 := ⟨_, rfl⟩
  rw [hw1] at hb0 b2 b3 ⊢
  clear hw1
  have HW1 := Aside0.mk hb0
  have HK2 := Aside0.mk b2
  have HK3 := Aside0.mk b3
  have HF1 := Aside0.mk (Kd.C_below HF.out hb0)
  have HP1 := Aside0.mk (Kd.C_below HP.out hb0)
  have HBI1 := Aside0.mk (Kd.C_below HBI.out hb0)
  have HG1 := Aside0.mk (HG.out.below hb0)
  have HB := Aside0.mk (Below.refl w1.heap.size w1)
  clear hb0 b2 b3 HF HP HBI HG
  refine (saronlaw09_sound.calls k g Af cf fs Ap cp ps false w1 (Kd.C_below HF1.out HB.out) H1.out (Kd.C_below HP1.out HB.out) H2.out HS.out).mono ?_
  rintro e wn1 ⟨rfl, hb⟩
  replace HB := Aside0.mk (HB.out.trans (hb.mono HB.out.size))
  clear hb
  go_wp2_with fail
  refine (listened_any wn1 (HG1.out.below HB.out)).mono ?_
  rintro e wn2 ⟨rfl, hb⟩
  replace HB := Aside0.mk (HB.out.trans (hb.mono HB.out.size))
  clear hb
  go_wp2_with fail
  go_ret
  exact ⟨rfl, HW1.out.trans (HB.out.mono HW1.out.size)⟩
set_option maxRecDepth 100000 in
set_option maxHeartbeats 1000000 in
theorem common_sound (k : Nat) (g : Int) (Af : Option Addr) (cf : Nat) (fs : List S85) (Ap : Option Addr) (cp : Nat) (ps : List S62) (n0 n1 : Int) (Ab : Option Addr) (cb : Nat) (bits : List Int) (w : World) (hf : Kd.C k85 w Af fs.length fs) (hcf : fs.length ≤ cf) (hp : Kd.C k62 w Ap ps.length ps) (hcp : ps.length ≤ cp) (hbits : Kd.C (Kd.int .i64) w Ab bits.length bits) (hcb : bits.length ≤ cb) (i j : Nat) (a : Int) (t l : List Int) (q : Int) (hs : saronlaw09_sound.f k g fs ps = some true) (hT1 : saronref00_Turn.f n0 (ps.length : Int) = some (i : Int)) (hT2 : saronref00_Turn.f n1 (ps.length : Int) = some (j : Int)) (hi : i < ps.length) (hj : j < ps.length)
    (hC1 : heard_Common.f k g fs ps i j = some (a, 0)) (hC2 : heard_Common.f k g fs ps j i = some (a, 0)) (hC3 : heard_Common.f k g fs ps i i = some (((ptones ps i).length : Int), 0)) (hlx : (ptones ps i).length ≤ 24) (hly : (ptones ps j).length ≤ 24) (hsit : saronref00_Sits.f a 0 (mn ((ptones ps i).length : Int) ((ptones ps j).length : Int)) = some true) (hij : i = j → a = ((ptones ps i).length : Int))
    (hso : saronlaw09_some.f k (ptones ps i) 6 bits = some t) (htl : t.length ≤ (ptones ps i).length) (hW1 : heard_Whole.f k g fs ps t (((ptones ps i).length : Int) - t.length) = some (l, 0)) (hWh : saronref00_Where.f k l i = some q) (hq : 0 ≤ q) (hGr : saronref00_Grows.f k l (ps.length : Int) = some true)
    (hend : t.length = (ptones ps i).length ∨ (t.length < (ptones ps i).length ∧ ∃ (l2 : List Int) (q2 : Int), heard_Whole.f k g fs ps t (((ptones ps i).length : Int) - t.length - 1) = some (l2, 0) ∧ saronref00_Where.f k l2 i = some q2 ∧ q2 < 0)) (hG : GlobIs w) :
    Calls Tryd.prog 12 #[.agg #[.int .i64 g, .slice Af fs.length cf, .slice Ap ps.length cp], .agg #[.int .i64 n0, .int .i64 n1], .slice Ab bits.length cb] w fun e w' => e = .returned (.bool true) ∧ Below w.heap.size w w' := by
  have hu27 := Tryd.underlying27
  have hu24 := Tryd.underlying24
  have hu43 := Tryd.underlying43
  have hu62 := Tryd.underlying62
  have HF := Aside0.mk hf
  have HP := Aside0.mk hp
  have HBI := Aside0.mk hbits
  have H1 := Aside0.mk hcf
  have H2 := Aside0.mk hcp
  have H3 := Aside0.mk hcb
  have HG := Aside0.mk hG
  clear hf hp hbits hcf hcp hcb hG
  have HS := Aside0.mk hs
  have HT1 := Aside0.mk hT1
  have HT2 := Aside0.mk hT2
  have HC1 := Aside0.mk hC1
  have HC2 := Aside0.mk hC2
  have HC3 := Aside0.mk hC3
  have HSI := Aside0.mk hsit
  have HIJ := Aside0.mk hij
  have HSO := Aside0.mk hso
  have HWA := Aside0.mk hW1
  have HWH := Aside0.mk hWh
  have HGR := Aside0.mk hGr
  have HEND := Aside0.mk hend
  clear hs hT1 hT2 hC1 hC2 hC3 hsit hij hso hW1 hWh hGr hend
  obtain ⟨ad, Ax, cx, ep, x0, x1, hxl, hxC⟩ := at_T62 HP.out (i : Int) (by omega) (by omega)
  cases ep
  clear x0 x1 hxl hxC Ax cx
  go_enter Tryd.func12, Tryd.ntmps12
  go_wp2_with fail
  have hb0 := (below_alloc (Below.refl _ w) (Obj.cells #[.int .i64 g, .slice Af fs.length cf, .slice (some ad) ps.length cp] 27)).alloc (by simp) (Obj.cells #[.int .i64 n0, .int .i64 n1] 43)
  have b2 := blk_alloc (blk_new w (Obj.cells #[.int .i64 g, .slice Af fs.length cf, .slice (some ad) ps.length cp] 27)) (Obj.cells #[.int .i64 n0, .int .i64 n1] 43)
  have b3 := blk_new (w.alloc (Obj.cells #[.int .i64 g, .slice Af fs.length cf, .slice (some ad) ps.length cp] 27)) (Obj.cells #[.int .i64 n0, .int .i64 n1] 43)
  rw [World.size_alloc] at b3
  obtain ⟨w1, hw1⟩ : ∃ w1, (w.alloc (Obj.cells #[.int .i64 g, .slice Af fs.length cf, .slice (some ad) ps.length cp] 27)).alloc (Obj.cells #[.int .i64 n0, .int .i64 n1] 43) = w1 := ⟨_, rfl⟩
  rw [hw1] at hb0 b2 b3 ⊢
  clear hw1
  have HW1 := Aside0.mk hb0
  have HK2 := Aside0.mk b2
  have HK3 := Aside0.mk b3
  have HF1 := Aside0.mk (Kd.C_below HF.out hb0)
  have HP1 := Aside0.mk (Kd.C_below HP.out hb0)
  have HBI1 := Aside0.mk (Kd.C_below HBI.out hb0)
  have HG1 := Aside0.mk (HG.out.below hb0)
  have HB := Aside0.mk (Below.refl w1.heap.size w1)
  clear hb0 b2 b3 HF HP HBI HG
  refine (saronlaw09_sound.calls k g Af cf fs (some ad) cp ps true w1 (Kd.C_below HF1.out HB.out) H1.out (Kd.C_below HP1.out HB.out) H2.out HS.out).mono ?_
  rintro e wn1 ⟨rfl, hb⟩
  replace HB := Aside0.mk (HB.out.trans (hb.mono HB.out.size))
  clear hb
  have y0 : wn1.cell? ⟨w.heap.size, 0, none⟩ = some (.int .i64 g) := kc HB.out ((blk_cell HK2.out 0).trans rfl)
  have y1 : wn1.cell? ⟨w.heap.size, 1, none⟩ = some (.slice Af fs.length cf) := kc HB.out ((blk_cell HK2.out 1).trans rfl)
  have y2 : wn1.cell? ⟨w.heap.size, 2, none⟩ = some (.slice (some ad) ps.length cp) := kc HB.out ((blk_cell HK2.out 2).trans rfl)
  have z0 : wn1.cell? ⟨w.heap.size + 1, 0, none⟩ = some (.int .i64 n0) := kc HB.out ((blk_cell HK3.out 0).trans rfl)
  have z1 : wn1.cell? ⟨w.heap.size + 1, 1, none⟩ = some (.int .i64 n1) := kc HB.out ((blk_cell HK3.out 1).trans rfl)
  go_wp2_with fail
  go_quiet (first | (go_at_call 38; (with_reducible refine (saronref00_Turn.calls n0 (ps.length : Int) i _ HT1.out).mono ?_); rintro e w' ⟨rfl, ⟨nd, rfl⟩⟩; (first | exact ⟨rfl, _, World.drewN_drewN _ _ _⟩ | exact ⟨rfl, _, Eq.trans (World.drewN_drewN _ _ _) (congrArg (World.drewN _) (Nat.add_assoc _ _ _))⟩)) | (go_at_call 38; (with_reducible refine (saronref00_Turn.calls n1 (ps.length : Int) j _ HT2.out).mono ?_); rintro e w' ⟨rfl, ⟨nd, rfl⟩⟩; (first | exact ⟨rfl, _, World.drewN_drewN _ _ _⟩ | exact ⟨rfl, _, Eq.trans (World.drewN_drewN _ _ _) (congrArg (World.drewN _) (Nat.add_assoc _ _ _))⟩)))
  rename_i nq
  obtain ⟨wn2, hwn2⟩ : ∃ q_, wn1.drewN nq = q_ := ⟨_, rfl⟩
  have hb : Below wn1.heap.size wn1 wn2 := by rw [← hwn2]; exact pw_below_drewN (Below.refl _ _) _
  rw [hwn2]
  clear hwn2
  replace HB := Aside0.mk (HB.out.trans (hb.mono HB.out.size))
  clear hb
  clear y0 y1 y2 z0 z1
  go_wp2_with fail
  have y0 : wn2.cell? ⟨w.heap.size, 0, none⟩ = some (.int .i64 g) := kc HB.out ((blk_cell HK2.out 0).trans rfl)
  have y1 : wn2.cell? ⟨w.heap.size, 1, none⟩ = some (.slice Af fs.length cf) := kc HB.out ((blk_cell HK2.out 1).trans rfl)
  have y2 : wn2.cell? ⟨w.heap.size, 2, none⟩ = some (.slice (some ad) ps.length cp) := kc HB.out ((blk_cell HK2.out 2).trans rfl)
  have z0 : wn2.cell? ⟨w.heap.size + 1, 0, none⟩ = some (.int .i64 n0) := kc HB.out ((blk_cell HK3.out 0).trans rfl)
  have z1 : wn2.cell? ⟨w.heap.size + 1, 1, none⟩ = some (.int .i64 n1) := kc HB.out ((blk_cell HK3.out 1).trans rfl)
  obtain ⟨adx, Ax, cx, ep, xx0, xx1, hlx, hCx⟩ := at_T62 (Kd.C_below HP1.out HB.out) (i : Int) (by omega) (by omega)
  cases ep
  rw [Int.toNat_natCast] at xx0 xx1
  have Rx : Aside0 (Kd.C (Kd.int .i64) wn2 Ax (ptones ps i).length (ptones ps i)) := ⟨hCx⟩
  have Rxc : Aside0 ((ptones ps i).length ≤ cx) := ⟨hlx⟩
  clear hlx hCx
  obtain ⟨ady, Ay, cy, ep, yy0, yy1, hly, hCy⟩ := at_T62 (Kd.C_below HP1.out HB.out) (j : Int) (by omega) (by omega)
  cases ep
  rw [Int.toNat_natCast] at yy0 yy1
  have Ry : Aside0 (Kd.C (Kd.int .i64) wn2 Ay (ptones ps j).length (ptones ps j)) := ⟨hCy⟩
  have Ryc : Aside0 ((ptones ps j).length ≤ cy) := ⟨hly⟩
  clear hly hCy
  have pi0 : (0 : Int) ≤ (i : Int) := by omega
  have pi1 : (i : Int) < (ps.length : Int) := by omega
  have pj0 : (0 : Int) ≤ (j : Int) := by omega
  have pj1 : (j : Int) < (ps.length : Int) := by omega
  go_quiet (fail)
  rename_i nq
  obtain ⟨wn3, hwn3⟩ : ∃ q_, wn2.drewN nq = q_ := ⟨_, rfl⟩
  have hb : Below wn2.heap.size wn2 wn3 := by rw [← hwn3]; exact pw_below_drewN (Below.refl _ _) _
  rw [hwn3]
  clear hwn3
  replace Rx := Aside0.mk (Kd.C_below Rx.out hb)
  replace Ry := Aside0.mk (Kd.C_below Ry.out hb)
  replace HB := Aside0.mk (HB.out.trans (hb.mono HB.out.size))
  clear hb
  clear y0 y1 y2 z0 z1
  clear xx0 xx1 yy0 yy1
  rw [show (rd_T62 ps i).f1 = ptones ps i from rfl, show (rd_T62 ps j).f1 = ptones ps j from rfl]
  have y0 : wn3.cell? ⟨w.heap.size, 0, none⟩ = some (.int .i64 g) := kc HB.out ((blk_cell HK2.out 0).trans rfl)
  have y1 : wn3.cell? ⟨w.heap.size, 1, none⟩ = some (.slice Af fs.length cf) := kc HB.out ((blk_cell HK2.out 1).trans rfl)
  have y2 : wn3.cell? ⟨w.heap.size, 2, none⟩ = some (.slice (some ad) ps.length cp) := kc HB.out ((blk_cell HK2.out 2).trans rfl)
  have z0 : wn3.cell? ⟨w.heap.size + 1, 0, none⟩ = some (.int .i64 n0) := kc HB.out ((blk_cell HK3.out 0).trans rfl)
  have z1 : wn3.cell? ⟨w.heap.size + 1, 1, none⟩ = some (.int .i64 n1) := kc HB.out ((blk_cell HK3.out 1).trans rfl)
  go_wp2_with fail
  clear y0 y1 y2 z0 z1
  refine (heard_Common.calls k g Af cf fs (some ad) cp ps i j a 0 wn3 (Kd.C_below HF1.out HB.out) H1.out (Kd.C_below HP1.out HB.out) H2.out HC1.out).mono ?_
  rintro e wn4 ⟨rfl, hb⟩
  replace Rx := Aside0.mk (Kd.C_below Rx.out hb)
  replace Ry := Aside0.mk (Kd.C_below Ry.out hb)
  replace HB := Aside0.mk (HB.out.trans (hb.mono HB.out.size))
  clear hb
  have y0 : wn4.cell? ⟨w.heap.size, 0, none⟩ = some (.int .i64 g) := kc HB.out ((blk_cell HK2.out 0).trans rfl)
  have y1 : wn4.cell? ⟨w.heap.size, 1, none⟩ = some (.slice Af fs.length cf) := kc HB.out ((blk_cell HK2.out 1).trans rfl)
  have y2 : wn4.cell? ⟨w.heap.size, 2, none⟩ = some (.slice (some ad) ps.length cp) := kc HB.out ((blk_cell HK2.out 2).trans rfl)
  have z0 : wn4.cell? ⟨w.heap.size + 1, 0, none⟩ = some (.int .i64 n0) := kc HB.out ((blk_cell HK3.out 0).trans rfl)
  have z1 : wn4.cell? ⟨w.heap.size + 1, 1, none⟩ = some (.int .i64 n1) := kc HB.out ((blk_cell HK3.out 1).trans rfl)
  go_wp2_with fail
  clear y0 y1 y2 z0 z1
  refine (heard_Common.calls k g Af cf fs (some ad) cp ps j i a 0 wn4 (Kd.C_below HF1.out HB.out) H1.out (Kd.C_below HP1.out HB.out) H2.out HC2.out).mono ?_
  rintro e wn5 ⟨rfl, hb⟩
  replace Rx := Aside0.mk (Kd.C_below Rx.out hb)
  replace Ry := Aside0.mk (Kd.C_below Ry.out hb)
  replace HB := Aside0.mk (HB.out.trans (hb.mono HB.out.size))
  clear hb
  have y0 : wn5.cell? ⟨w.heap.size, 0, none⟩ = some (.int .i64 g) := kc HB.out ((blk_cell HK2.out 0).trans rfl)
  have y1 : wn5.cell? ⟨w.heap.size, 1, none⟩ = some (.slice Af fs.length cf) := kc HB.out ((blk_cell HK2.out 1).trans rfl)
  have y2 : wn5.cell? ⟨w.heap.size, 2, none⟩ = some (.slice (some ad) ps.length cp) := kc HB.out ((blk_cell HK2.out 2).trans rfl)
  have z0 : wn5.cell? ⟨w.heap.size + 1, 0, none⟩ = some (.int .i64 n0) := kc HB.out ((blk_cell HK3.out 0).trans rfl)
  have z1 : wn5.cell? ⟨w.heap.size + 1, 1, none⟩ = some (.int .i64 n1) := kc HB.out ((blk_cell HK3.out 1).trans rfl)
  go_wp2_with fail
  clear y0 y1 y2 z0 z1
  refine (heard_Common.calls k g Af cf fs (some ad) cp ps i i _ 0 wn5 (Kd.C_below HF1.out HB.out) H1.out (Kd.C_below HP1.out HB.out) H2.out HC3.out).mono ?_
  rintro e wn6 ⟨rfl, hb⟩
  replace Rx := Aside0.mk (Kd.C_below Rx.out hb)
  replace Ry := Aside0.mk (Kd.C_below Ry.out hb)
  replace HB := Aside0.mk (HB.out.trans (hb.mono HB.out.size))
  clear hb
  have hbe : Aside0 (((i : Int) == (j : Int)) = true ∧ a = ((ptones ps i).length : Int) ∨ ((i : Int) == (j : Int)) = false) := ⟨by
    by_cases e : i = j
    · exact .inl ⟨by rw [e]; simp, HIJ.out e⟩
    · exact .inr (by rw [beq_eq_false_iff_ne]; intro h; exact e (by omega))⟩
  obtain ⟨mnv, hmnv⟩ : ∃ mnv, mn ((ptones ps i).length : Int) ((ptones ps j).length : Int) = mnv := ⟨_, rfl⟩
  have HSI2 : Aside0 (saronref00_Sits.f a 0 mnv = some true) := ⟨by rw [← hmnv]; exact HSI.out⟩
  have hmn_ : (if (ptones ps j).length < (ptones ps i).length then ((ptones ps j).length : Int) else ((ptones ps i).length : Int)) = mnv := by rw [← hmnv]; unfold mn; split <;> split <;> omega
  clear hmnv
  go_wp2_with fail
  clear hmn_
  refine (saronref00_Sits.calls a 0 mnv true wn6 HSI2.out).mono ?_
  rintro e w' ⟨rfl, ⟨nd, rfl⟩⟩
  obtain ⟨wn7, hwn7⟩ : ∃ q_, wn6.drewN nd = q_ := ⟨_, rfl⟩
  have hb : Below wn6.heap.size wn6 wn7 := by rw [← hwn7]; exact pw_below_drewN (Below.refl _ _) _
  rw [hwn7]
  clear hwn7
  replace Rx := Aside0.mk (Kd.C_below Rx.out hb)
  replace Ry := Aside0.mk (Kd.C_below Ry.out hb)
  replace HB := Aside0.mk (HB.out.trans (hb.mono HB.out.size))
  clear hb
  rcases hbe.out with ⟨he1, he2⟩ | he1
  · clear hbe
    go_wp2_with fail
    clear he1 he2
    refine (saronlaw09_some.calls k Ax cx (ptones ps i) 6 Ab cb bits t wn7 Rx.out Rxc.out (Kd.C_below HBI1.out HB.out) H3.out HSO.out).mono ?_
    rintro e wn8 ⟨v, rfl, hR, hb⟩
    replace Rx := Aside0.mk (Kd.C_below Rx.out hb)
    replace Ry := Aside0.mk (Kd.C_below Ry.out hb)
    replace HB := Aside0.mk (HB.out.trans (hb.mono HB.out.size))
    clear hb
    obtain ⟨AT, cT, rfl⟩ := Kd.R_slice hR
    have T := Aside0.mk (Kd.R_reads' hR).2.2
    have Tc := Aside0.mk (Kd.R_reads' hR).2.1
    clear hR
    have y0 : wn8.cell? ⟨w.heap.size, 0, none⟩ = some (.int .i64 g) := kc HB.out ((blk_cell HK2.out 0).trans rfl)
    have y1 : wn8.cell? ⟨w.heap.size, 1, none⟩ = some (.slice Af fs.length cf) := kc HB.out ((blk_cell HK2.out 1).trans rfl)
    have y2 : wn8.cell? ⟨w.heap.size, 2, none⟩ = some (.slice (some ad) ps.length cp) := kc HB.out ((blk_cell HK2.out 2).trans rfl)
    have z0 : wn8.cell? ⟨w.heap.size + 1, 0, none⟩ = some (.int .i64 n0) := kc HB.out ((blk_cell HK3.out 0).trans rfl)
    have z1 : wn8.cell? ⟨w.heap.size + 1, 1, none⟩ = some (.int .i64 n1) := kc HB.out ((blk_cell HK3.out 1).trans rfl)
    go_wp2_with fail
    clear y0 y1 y2 z0 z1
    refine (heard_Whole.calls k g Af cf fs (some ad) cp ps AT cT t _ l 0 wn8 (Kd.C_below HF1.out HB.out) H1.out (Kd.C_below HP1.out HB.out) H2.out T.out Tc.out HWA.out).mono ?_
    rintro e wn9 ⟨v, rfl, hV, hb⟩
    replace Rx := Aside0.mk (Kd.C_below Rx.out hb)
    replace Ry := Aside0.mk (Kd.C_below Ry.out hb)
    replace T := Aside0.mk (Kd.C_below T.out hb)
    replace HB := Aside0.mk (HB.out.trans (hb.mono HB.out.size))
    clear hb
    obtain ⟨ALL, cLL, rfl⟩ := Kd.V_slice hV
    have LL := Aside0.mk (Kd.V_reads' hV).2.2
    have LLc := Aside0.mk (Kd.V_reads' hV).2.1
    clear hV
    go_wp2_with fail
    refine (saronref00_Where.calls k ALL cLL l i q wn9 LL.out LLc.out HWH.out).mono ?_
    rintro e w' ⟨rfl, ⟨nd, rfl⟩⟩
    obtain ⟨wn10, hwn10⟩ : ∃ q_, wn9.drewN nd = q_ := ⟨_, rfl⟩
    have hb : Below wn9.heap.size wn9 wn10 := by rw [← hwn10]; exact pw_below_drewN (Below.refl _ _) _
    rw [hwn10]
    clear hwn10
    replace Rx := Aside0.mk (Kd.C_below Rx.out hb)
    replace Ry := Aside0.mk (Kd.C_below Ry.out hb)
    replace T := Aside0.mk (Kd.C_below T.out hb)
    replace LL := Aside0.mk (Kd.C_below LL.out hb)
    replace HB := Aside0.mk (HB.out.trans (hb.mono HB.out.size))
    clear hb
    have hq0 : decide (q < 0) = false := by simpa using hq
    have y0 : wn10.cell? ⟨w.heap.size, 0, none⟩ = some (.int .i64 g) := kc HB.out ((blk_cell HK2.out 0).trans rfl)
    have y1 : wn10.cell? ⟨w.heap.size, 1, none⟩ = some (.slice Af fs.length cf) := kc HB.out ((blk_cell HK2.out 1).trans rfl)
    have y2 : wn10.cell? ⟨w.heap.size, 2, none⟩ = some (.slice (some ad) ps.length cp) := kc HB.out ((blk_cell HK2.out 2).trans rfl)
    have z0 : wn10.cell? ⟨w.heap.size + 1, 0, none⟩ = some (.int .i64 n0) := kc HB.out ((blk_cell HK3.out 0).trans rfl)
    have z1 : wn10.cell? ⟨w.heap.size + 1, 1, none⟩ = some (.int .i64 n1) := kc HB.out ((blk_cell HK3.out 1).trans rfl)
    go_wp2_with fail
    clear y0 y1 y2 z0 z1
    refine (saronref00_Grows.calls k ALL cLL l (ps.length : Int) true wn10 LL.out LLc.out HGR.out).mono ?_
    rintro e w' ⟨rfl, ⟨nd, rfl⟩⟩
    obtain ⟨wn11, hwn11⟩ : ∃ q_, wn10.drewN nd = q_ := ⟨_, rfl⟩
    have hb : Below wn10.heap.size wn10 wn11 := by rw [← hwn11]; exact pw_below_drewN (Below.refl _ _) _
    rw [hwn11]
    clear hwn11
    replace Rx := Aside0.mk (Kd.C_below Rx.out hb)
    replace Ry := Aside0.mk (Kd.C_below Ry.out hb)
    replace T := Aside0.mk (Kd.C_below T.out hb)
    replace LL := Aside0.mk (Kd.C_below LL.out hb)
    replace HB := Aside0.mk (HB.out.trans (hb.mono HB.out.size))
    clear hb
    clear hq0
    clear LL
    rcases HEND.out with hz | ⟨hz, l2, q2, hW2, hWh2, hq2⟩
    · have hz1 : ((((ptones ps i).length : Int) - (t.length : Int)) == 0) = true := by rw [beq_iff_eq]; omega
      go_wp2_with fail
      refine (listened_any wn11 (HG1.out.below HB.out)).mono ?_
      rintro e wn12 ⟨rfl, hb⟩
      replace Rx := Aside0.mk (Kd.C_below Rx.out hb)
      replace Ry := Aside0.mk (Kd.C_below Ry.out hb)
      replace T := Aside0.mk (Kd.C_below T.out hb)
      replace HB := Aside0.mk (HB.out.trans (hb.mono HB.out.size))
      clear hb
      go_wp2_with fail
      go_ret
      exact ⟨rfl, HW1.out.trans (HB.out.mono HW1.out.size)⟩
    · have HW2 := Aside0.mk hW2
      have HWH2 := Aside0.mk hWh2
      clear hW2 hWh2
      have hz1 : ((((ptones ps i).length : Int) - (t.length : Int)) == 0) = false := by rw [beq_eq_false_iff_ne]; omega
      have y0 : wn11.cell? ⟨w.heap.size, 0, none⟩ = some (.int .i64 g) := kc HB.out ((blk_cell HK2.out 0).trans rfl)
      have y1 : wn11.cell? ⟨w.heap.size, 1, none⟩ = some (.slice Af fs.length cf) := kc HB.out ((blk_cell HK2.out 1).trans rfl)
      have y2 : wn11.cell? ⟨w.heap.size, 2, none⟩ = some (.slice (some ad) ps.length cp) := kc HB.out ((blk_cell HK2.out 2).trans rfl)
      have z0 : wn11.cell? ⟨w.heap.size + 1, 0, none⟩ = some (.int .i64 n0) := kc HB.out ((blk_cell HK3.out 0).trans rfl)
      have z1 : wn11.cell? ⟨w.heap.size + 1, 1, none⟩ = some (.int .i64 n1) := kc HB.out ((blk_cell HK3.out 1).trans rfl)
      go_wp2_with fail
      clear y0 y1 y2 z0 z1
      refine (heard_Whole.calls k g Af cf fs (some ad) cp ps AT cT t _ l2 0 wn11 (Kd.C_below HF1.out HB.out) H1.out (Kd.C_below HP1.out HB.out) H2.out T.out Tc.out HW2.out).mono ?_
      rintro e wn12 ⟨v, rfl, hV, hb⟩
      replace Rx := Aside0.mk (Kd.C_below Rx.out hb)
      replace Ry := Aside0.mk (Kd.C_below Ry.out hb)
      replace T := Aside0.mk (Kd.C_below T.out hb)
      replace HB := Aside0.mk (HB.out.trans (hb.mono HB.out.size))
      clear hb
      obtain ⟨ALK, cLK, rfl⟩ := Kd.V_slice hV
      have LK := Aside0.mk (Kd.V_reads' hV).2.2
      have LKc := Aside0.mk (Kd.V_reads' hV).2.1
      clear hV
      go_wp2_with fail
      refine (saronref00_Where.calls k ALK cLK l2 i q2 wn12 LK.out LKc.out HWH2.out).mono ?_
      rintro e w' ⟨rfl, ⟨nd, rfl⟩⟩
      obtain ⟨wn13, hwn13⟩ : ∃ q_, wn12.drewN nd = q_ := ⟨_, rfl⟩
      have hb : Below wn12.heap.size wn12 wn13 := by rw [← hwn13]; exact pw_below_drewN (Below.refl _ _) _
      rw [hwn13]
      clear hwn13
      replace Rx := Aside0.mk (Kd.C_below Rx.out hb)
      replace Ry := Aside0.mk (Kd.C_below Ry.out hb)
      replace T := Aside0.mk (Kd.C_below T.out hb)
      replace LK := Aside0.mk (Kd.C_below LK.out hb)
      replace HB := Aside0.mk (HB.out.trans (hb.mono HB.out.size))
      clear hb
      have hq0 : decide (q2 < 0) = true := by simpa using hq2
      go_wp2_with fail
      refine (listened_any wn13 (HG1.out.below HB.out)).mono ?_
      rintro e wn14 ⟨rfl, hb⟩
      replace Rx := Aside0.mk (Kd.C_below Rx.out hb)
      replace Ry := Aside0.mk (Kd.C_below Ry.out hb)
      replace T := Aside0.mk (Kd.C_below T.out hb)
      replace LK := Aside0.mk (Kd.C_below LK.out hb)
      replace HB := Aside0.mk (HB.out.trans (hb.mono HB.out.size))
      clear hb
      go_wp2_with fail
      go_ret
      exact ⟨rfl, HW1.out.trans (HB.out.mono HW1.out.size)⟩
  · clear hbe
    go_wp2_with fail
    clear he1
    refine (saronlaw09_some.calls k Ax cx (ptones ps i) 6 Ab cb bits t wn7 Rx.out Rxc.out (Kd.C_below HBI1.out HB.out) H3.out HSO.out).mono ?_
    rintro e wn8 ⟨v, rfl, hR, hb⟩
    replace Rx := Aside0.mk (Kd.C_below Rx.out hb)
    replace Ry := Aside0.mk (Kd.C_below Ry.out hb)
    replace HB := Aside0.mk (HB.out.trans (hb.mono HB.out.size))
    clear hb
    obtain ⟨AT, cT, rfl⟩ := Kd.R_slice hR
    have T := Aside0.mk (Kd.R_reads' hR).2.2
    have Tc := Aside0.mk (Kd.R_reads' hR).2.1
    clear hR
    have y0 : wn8.cell? ⟨w.heap.size, 0, none⟩ = some (.int .i64 g) := kc HB.out ((blk_cell HK2.out 0).trans rfl)
    have y1 : wn8.cell? ⟨w.heap.size, 1, none⟩ = some (.slice Af fs.length cf) := kc HB.out ((blk_cell HK2.out 1).trans rfl)
    have y2 : wn8.cell? ⟨w.heap.size, 2, none⟩ = some (.slice (some ad) ps.length cp) := kc HB.out ((blk_cell HK2.out 2).trans rfl)
    have z0 : wn8.cell? ⟨w.heap.size + 1, 0, none⟩ = some (.int .i64 n0) := kc HB.out ((blk_cell HK3.out 0).trans rfl)
    have z1 : wn8.cell? ⟨w.heap.size + 1, 1, none⟩ = some (.int .i64 n1) := kc HB.out ((blk_cell HK3.out 1).trans rfl)
    go_wp2_with fail
    clear y0 y1 y2 z0 z1
    refine (heard_Whole.calls k g Af cf fs (some ad) cp ps AT cT t _ l 0 wn8 (Kd.C_below HF1.out HB.out) H1.out (Kd.C_below HP1.out HB.out) H2.out T.out Tc.out HWA.out).mono ?_
    rintro e wn9 ⟨v, rfl, hV, hb⟩
    replace Rx := Aside0.mk (Kd.C_below Rx.out hb)
    replace Ry := Aside0.mk (Kd.C_below Ry.out hb)
    replace T := Aside0.mk (Kd.C_below T.out hb)
    replace HB := Aside0.mk (HB.out.trans (hb.mono HB.out.size))
    clear hb
    obtain ⟨ALL, cLL, rfl⟩ := Kd.V_slice hV
    have LL := Aside0.mk (Kd.V_reads' hV).2.2
    have LLc := Aside0.mk (Kd.V_reads' hV).2.1
    clear hV
    go_wp2_with fail
    refine (saronref00_Where.calls k ALL cLL l i q wn9 LL.out LLc.out HWH.out).mono ?_
    rintro e w' ⟨rfl, ⟨nd, rfl⟩⟩
    obtain ⟨wn10, hwn10⟩ : ∃ q_, wn9.drewN nd = q_ := ⟨_, rfl⟩
    have hb : Below wn9.heap.size wn9 wn10 := by rw [← hwn10]; exact pw_below_drewN (Below.refl _ _) _
    rw [hwn10]
    clear hwn10
    replace Rx := Aside0.mk (Kd.C_below Rx.out hb)
    replace Ry := Aside0.mk (Kd.C_below Ry.out hb)
    replace T := Aside0.mk (Kd.C_below T.out hb)
    replace LL := Aside0.mk (Kd.C_below LL.out hb)
    replace HB := Aside0.mk (HB.out.trans (hb.mono HB.out.size))
    clear hb
    have hq0 : decide (q < 0) = false := by simpa using hq
    have y0 : wn10.cell? ⟨w.heap.size, 0, none⟩ = some (.int .i64 g) := kc HB.out ((blk_cell HK2.out 0).trans rfl)
    have y1 : wn10.cell? ⟨w.heap.size, 1, none⟩ = some (.slice Af fs.length cf) := kc HB.out ((blk_cell HK2.out 1).trans rfl)
    have y2 : wn10.cell? ⟨w.heap.size, 2, none⟩ = some (.slice (some ad) ps.length cp) := kc HB.out ((blk_cell HK2.out 2).trans rfl)
    have z0 : wn10.cell? ⟨w.heap.size + 1, 0, none⟩ = some (.int .i64 n0) := kc HB.out ((blk_cell HK3.out 0).trans rfl)
    have z1 : wn10.cell? ⟨w.heap.size + 1, 1, none⟩ = some (.int .i64 n1) := kc HB.out ((blk_cell HK3.out 1).trans rfl)
    go_wp2_with fail
    clear y0 y1 y2 z0 z1
    refine (saronref00_Grows.calls k ALL cLL l (ps.length : Int) true wn10 LL.out LLc.out HGR.out).mono ?_
    rintro e w' ⟨rfl, ⟨nd, rfl⟩⟩
    obtain ⟨wn11, hwn11⟩ : ∃ q_, wn10.drewN nd = q_ := ⟨_, rfl⟩
    have hb : Below wn10.heap.size wn10 wn11 := by rw [← hwn11]; exact pw_below_drewN (Below.refl _ _) _
    rw [hwn11]
    clear hwn11
    replace Rx := Aside0.mk (Kd.C_below Rx.out hb)
    replace Ry := Aside0.mk (Kd.C_below Ry.out hb)
    replace T := Aside0.mk (Kd.C_below T.out hb)
    replace LL := Aside0.mk (Kd.C_below LL.out hb)
    replace HB := Aside0.mk (HB.out.trans (hb.mono HB.out.size))
    clear hb
    clear hq0
    clear LL
    rcases HEND.out with hz | ⟨hz, l2, q2, hW2, hWh2, hq2⟩
    · have hz1 : ((((ptones ps i).length : Int) - (t.length : Int)) == 0) = true := by rw [beq_iff_eq]; omega
      go_wp2_with fail
      refine (listened_any wn11 (HG1.out.below HB.out)).mono ?_
      rintro e wn12 ⟨rfl, hb⟩
      replace Rx := Aside0.mk (Kd.C_below Rx.out hb)
      replace Ry := Aside0.mk (Kd.C_below Ry.out hb)
      replace T := Aside0.mk (Kd.C_below T.out hb)
      replace HB := Aside0.mk (HB.out.trans (hb.mono HB.out.size))
      clear hb
      go_wp2_with fail
      go_ret
      exact ⟨rfl, HW1.out.trans (HB.out.mono HW1.out.size)⟩
    · have HW2 := Aside0.mk hW2
      have HWH2 := Aside0.mk hWh2
      clear hW2 hWh2
      have hz1 : ((((ptones ps i).length : Int) - (t.length : Int)) == 0) = false := by rw [beq_eq_false_iff_ne]; omega
      have y0 : wn11.cell? ⟨w.heap.size, 0, none⟩ = some (.int .i64 g) := kc HB.out ((blk_cell HK2.out 0).trans rfl)
      have y1 : wn11.cell? ⟨w.heap.size, 1, none⟩ = some (.slice Af fs.length cf) := kc HB.out ((blk_cell HK2.out 1).trans rfl)
      have y2 : wn11.cell? ⟨w.heap.size, 2, none⟩ = some (.slice (some ad) ps.length cp) := kc HB.out ((blk_cell HK2.out 2).trans rfl)
      have z0 : wn11.cell? ⟨w.heap.size + 1, 0, none⟩ = some (.int .i64 n0) := kc HB.out ((blk_cell HK3.out 0).trans rfl)
      have z1 : wn11.cell? ⟨w.heap.size + 1, 1, none⟩ = some (.int .i64 n1) := kc HB.out ((blk_cell HK3.out 1).trans rfl)
      go_wp2_with fail
      clear y0 y1 y2 z0 z1
      refine (heard_Whole.calls k g Af cf fs (some ad) cp ps AT cT t _ l2 0 wn11 (Kd.C_below HF1.out HB.out) H1.out (Kd.C_below HP1.out HB.out) H2.out T.out Tc.out HW2.out).mono ?_
      rintro e wn12 ⟨v, rfl, hV, hb⟩
      replace Rx := Aside0.mk (Kd.C_below Rx.out hb)
      replace Ry := Aside0.mk (Kd.C_below Ry.out hb)
      replace T := Aside0.mk (Kd.C_below T.out hb)
      replace HB := Aside0.mk (HB.out.trans (hb.mono HB.out.size))
      clear hb
      obtain ⟨ALK, cLK, rfl⟩ := Kd.V_slice hV
      have LK := Aside0.mk (Kd.V_reads' hV).2.2
      have LKc := Aside0.mk (Kd.V_reads' hV).2.1
      clear hV
      go_wp2_with fail
      refine (saronref00_Where.calls k ALK cLK l2 i q2 wn12 LK.out LKc.out HWH2.out).mono ?_
      rintro e w' ⟨rfl, ⟨nd, rfl⟩⟩
      obtain ⟨wn13, hwn13⟩ : ∃ q_, wn12.drewN nd = q_ := ⟨_, rfl⟩
      have hb : Below wn12.heap.size wn12 wn13 := by rw [← hwn13]; exact pw_below_drewN (Below.refl _ _) _
      rw [hwn13]
      clear hwn13
      replace Rx := Aside0.mk (Kd.C_below Rx.out hb)
      replace Ry := Aside0.mk (Kd.C_below Ry.out hb)
      replace T := Aside0.mk (Kd.C_below T.out hb)
      replace LK := Aside0.mk (Kd.C_below LK.out hb)
      replace HB := Aside0.mk (HB.out.trans (hb.mono HB.out.size))
      clear hb
      have hq0 : decide (q2 < 0) = true := by simpa using hq2
      go_wp2_with fail
      refine (listened_any wn13 (HG1.out.below HB.out)).mono ?_
      rintro e wn14 ⟨rfl, hb⟩
      replace Rx := Aside0.mk (Kd.C_below Rx.out hb)
      replace Ry := Aside0.mk (Kd.C_below Ry.out hb)
      replace T := Aside0.mk (Kd.C_below T.out hb)
      replace LK := Aside0.mk (Kd.C_below LK.out hb)
      replace HB := Aside0.mk (HB.out.trans (hb.mono HB.out.size))
      clear hb
      go_wp2_with fail
      go_ret
      exact ⟨rfl, HW1.out.trans (HB.out.mono HW1.out.size)⟩
end Go.Proofs.YthnilelmhpmanaaDoor.PHeardFits
end
