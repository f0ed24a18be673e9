/- A part of the proof: contracts and laws. -/
import Derived.Test.YthnilelmhpmanaaDoorWxq17
import Derived.Test.YthnilelmhpmanaaDoorWxq19
section
namespace Go.Proofs.YthnilelmhpmanaaDoor.PHeardFits
open Go.RowKit Go.Proofs.YthnilelmhpmanaaDoorW.PrintWords Go.Proofs.YthnilelmhpmanaaDoorW.PrintLast Go.Proofs.YthnilelmhpmanaaDoorW.PrintMore
open Go.Proofs.YthnilelmhpmanaaDoor.Hm
attribute [local go_sem] max2_int min2_int max_two min_two max_three min_three max_four min_four
set_option linter.unusedVariables false
set_option linter.unusedSimpArgs false
set_option maxRecDepth 100000 in
set_option maxHeartbeats 1000000 in
theorem wholes_walk (k:Nat) (g:Int) (Af:Option Addr) (cf:Nat) (fs:List S85) (Ap:Option Addr) (cp:Nat) (ps:List S62) (n0 n1 n2:Int) (Atones:Option Addr) (ctones:Nat) (tones:List Int) (w:World) (hf:Kd.C k85 w Af fs.length fs) (hcf:fs.length≤cf) (hp:Kd.C k62 w Ap ps.length ps) (hcp:ps.length≤cp) (hrtones:Kd.C (Kd.int .i64) w Atones tones.length tones) (hctones:tones.length≤ctones) (a e:Int) (l:List Int) (e2 b e3:Int) (hA:heard_Common.f k g fs ps n0 n1=some (a,e)) (hA2:saronref09_Common.f k g fs ps n0 n1=some (a,e)) (hB1:heard_Whole.f k g fs ps tones n2=some (l,e2)) (hB2:saronref09_Whole.f k g fs ps tones n2=some (l,e2)) (hE:saronref00_Equal.f k l l=some true) (hD1:heard_Known.f k g fs ps=some (b,e3)) (hD2:saronref09_Known.f k g fs ps=some (b,e3)) (hG:GlobIs w) :
    Calls Tryd.prog 6 #[.agg #[.int .i64 g,.slice Af fs.length cf,.slice Ap ps.length cp],.agg #[.int .i64 n0,.int .i64 n1,.int .i64 n2],.slice Atones tones.length ctones] w fun e w'=>e=.returned (.bool true)∧Below w.heap.size w w':=by
  have FA:=Aside0.mk hA
  have FA2:=Aside0.mk hA2
  have FB1:=Aside0.mk hB1
  have FB2:=Aside0.mk hB2
  have FE:=Aside0.mk hE
  have FD1:=Aside0.mk hD1
  have FD2:=Aside0.mk hD2
  clear hA hA2 hB1 hB2 hE hD1 hD2
  have hu24:=Tryd.underlying24
  have hu27:=Tryd.underlying27
  have hu49:=Tryd.underlying49
  have hu62:=Tryd.underlying62
  have HF:=Aside0.mk hf
  have HP:=Aside0.mk hp
  have HRtones:=Aside0.mk hrtones
  have H1:=Aside0.mk hcf
  have H2:=Aside0.mk hcp
  have HCtones:=Aside0.mk hctones
  have HG:=Aside0.mk hG
  clear hf hp hrtones hcf hcp hctones hG
  go_enter Tryd.func6,Tryd.ntmps6
  go_wp2_with fail
  have hb0:=((below_alloc (Below.refl _ w) (Obj.cells #[.int .i64 g,.slice Af fs.length cf,.slice Ap ps.length cp] 27)).alloc (by simp) (Obj.cells #[.int .i64 n0,.int .i64 n1,.int .i64 n2] 49))
  have b0:=blk_alloc (blk_new w (Obj.cells #[.int .i64 g,.slice Af fs.length cf,.slice Ap ps.length cp] 27)) (Obj.cells #[.int .i64 n0,.int .i64 n1,.int .i64 n2] 49)
  have b1:=blk_new (w.alloc (Obj.cells #[.int .i64 g,.slice Af fs.length cf,.slice Ap ps.length cp] 27)) (Obj.cells #[.int .i64 n0,.int .i64 n1,.int .i64 n2] 49)
  rw [World.size_alloc] at b1
  obtain ⟨w1,hw1⟩:∃ w1,((w.alloc (Obj.cells #[.int .i64 g,.slice Af fs.length cf,.slice Ap ps.length cp] 27)).alloc (Obj.cells #[.int .i64 n0,.int .i64 n1,.int .i64 n2] 49))=w1:=⟨_,rfl⟩
  rw [hw1] at hb0 b0 b1 ⊢
  clear hw1
  have HW1:=Aside0.mk hb0
  have HK0:=Aside0.mk b0
  have HK1:=Aside0.mk b1
  have HF1:=Aside0.mk (Kd.C_below HF.out hb0)
  have HP1:=Aside0.mk (Kd.C_below HP.out hb0)
  have HRtones1:=Aside0.mk (Kd.C_below HRtones.out hb0)
  have HG1:=Aside0.mk (HG.out.below hb0)
  have HB:=Aside0.mk (Below.refl w1.heap.size w1)
  clear hb0 b0 b1 HF HP HRtones HG
  have y0_0:w1.cell? ⟨w.heap.size,0,none⟩=some (.int .i64 g):=kc HB.out ((blk_cell HK0.out 0).trans rfl)
  have y0_1:w1.cell? ⟨w.heap.size,1,none⟩=some (.slice Af fs.length cf):=kc HB.out ((blk_cell HK0.out 1).trans rfl)
  have y0_2:w1.cell? ⟨w.heap.size,2,none⟩=some (.slice Ap ps.length cp):=kc HB.out ((blk_cell HK0.out 2).trans rfl)
  have y1_0:w1.cell? ⟨w.heap.size+1,0,none⟩=some (.int .i64 n0):=kc HB.out ((blk_cell HK1.out 0).trans rfl)
  have y1_1:w1.cell? ⟨w.heap.size+1,1,none⟩=some (.int .i64 n1):=kc HB.out ((blk_cell HK1.out 1).trans rfl)
  have y1_2:w1.cell? ⟨w.heap.size+1,2,none⟩=some (.int .i64 n2):=kc HB.out ((blk_cell HK1.out 2).trans rfl)
  go_wp2_with fail
  clear y0_0 y0_1 y0_2 y1_0 y1_1 y1_2
  refine (heard_Common.calls k g Af cf fs Ap cp ps n0 n1 a e w1 (Kd.C_below HF1.out HB.out) H1.out (Kd.C_below HP1.out HB.out) H2.out FA.out).mono ?_
  rintro e wn1 ⟨rfl,hb⟩
  replace HB:=Aside0.mk (HB.out.trans (hb.mono HB.out.size))
  clear hb
  have y0_0:wn1.cell? ⟨w.heap.size,0,none⟩=some (.int .i64 g):=kc HB.out ((blk_cell HK0.out 0).trans rfl)
  have y0_1:wn1.cell? ⟨w.heap.size,1,none⟩=some (.slice Af fs.length cf):=kc HB.out ((blk_cell HK0.out 1).trans rfl)
  have y0_2:wn1.cell? ⟨w.heap.size,2,none⟩=some (.slice Ap ps.length cp):=kc HB.out ((blk_cell HK0.out 2).trans rfl)
  have y1_0:wn1.cell? ⟨w.heap.size+1,0,none⟩=some (.int .i64 n0):=kc HB.out ((blk_cell HK1.out 0).trans rfl)
  have y1_1:wn1.cell? ⟨w.heap.size+1,1,none⟩=some (.int .i64 n1):=kc HB.out ((blk_cell HK1.out 1).trans rfl)
  have y1_2:wn1.cell? ⟨w.heap.size+1,2,none⟩=some (.int .i64 n2):=kc HB.out ((blk_cell HK1.out 2).trans rfl)
  go_wp2_with fail
  clear y0_0 y0_1 y0_2 y1_0 y1_1 y1_2
  refine (saronref09_Common.calls k g Af cf fs Ap cp ps n0 n1 a e wn1 (Kd.C_below HF1.out HB.out) H1.out (Kd.C_below HP1.out HB.out) H2.out FA2.out).mono ?_
  rintro e wn2 ⟨rfl,hb⟩
  replace HB:=Aside0.mk (HB.out.trans (hb.mono HB.out.size))
  clear hb
  have y0_0:wn2.cell? ⟨w.heap.size,0,none⟩=some (.int .i64 g):=kc HB.out ((blk_cell HK0.out 0).trans rfl)
  have y0_1:wn2.cell? ⟨w.heap.size,1,none⟩=some (.slice Af fs.length cf):=kc HB.out ((blk_cell HK0.out 1).trans rfl)
  have y0_2:wn2.cell? ⟨w.heap.size,2,none⟩=some (.slice Ap ps.length cp):=kc HB.out ((blk_cell HK0.out 2).trans rfl)
  have y1_0:wn2.cell? ⟨w.heap.size+1,0,none⟩=some (.int .i64 n0):=kc HB.out ((blk_cell HK1.out 0).trans rfl)
  have y1_1:wn2.cell? ⟨w.heap.size+1,1,none⟩=some (.int .i64 n1):=kc HB.out ((blk_cell HK1.out 1).trans rfl)
  have y1_2:wn2.cell? ⟨w.heap.size+1,2,none⟩=some (.int .i64 n2):=kc HB.out ((blk_cell HK1.out 2).trans rfl)
  go_wp2_with fail
  clear y0_0 y0_1 y0_2 y1_0 y1_1 y1_2
  refine (heard_Whole.calls k g Af cf fs Ap cp ps Atones ctones tones n2 l e2 wn2 (Kd.C_below HF1.out HB.out) H1.out (Kd.C_below HP1.out HB.out) H2.out (Kd.C_below HRtones1.out HB.out) HCtones.out FB1.out).mono ?_
  rintro e wn3 ⟨v,rfl,hV,hb⟩
  replace HB:=Aside0.mk (HB.out.trans (hb.mono HB.out.size))
  clear hb
  obtain ⟨AX,cX,rfl⟩:=Kd.V_slice hV
  have X:=Aside0.mk (Kd.V_reads' hV).2.2
  have Xc:=Aside0.mk (Kd.V_reads' hV).2.1
  clear hV
  have y0_0:wn3.cell? ⟨w.heap.size,0,none⟩=some (.int .i64 g):=kc HB.out ((blk_cell HK0.out 0).trans rfl)
  have y0_1:wn3.cell? ⟨w.heap.size,1,none⟩=some (.slice Af fs.length cf):=kc HB.out ((blk_cell HK0.out 1).trans rfl)
  have y0_2:wn3.cell? ⟨w.heap.size,2,none⟩=some (.slice Ap ps.length cp):=kc HB.out ((blk_cell HK0.out 2).trans rfl)
  have y1_0:wn3.cell? ⟨w.heap.size+1,0,none⟩=some (.int .i64 n0):=kc HB.out ((blk_cell HK1.out 0).trans rfl)
  have y1_1:wn3.cell? ⟨w.heap.size+1,1,none⟩=some (.int .i64 n1):=kc HB.out ((blk_cell HK1.out 1).trans rfl)
  have y1_2:wn3.cell? ⟨w.heap.size+1,2,none⟩=some (.int .i64 n2):=kc HB.out ((blk_cell HK1.out 2).trans rfl)
  go_wp2_with fail
  clear y0_0 y0_1 y0_2 y1_0 y1_1 y1_2
  refine (saronref09_Whole.calls k g Af cf fs Ap cp ps Atones ctones tones n2 l e2 wn3 (Kd.C_below HF1.out HB.out) H1.out (Kd.C_below HP1.out HB.out) H2.out (Kd.C_below HRtones1.out HB.out) HCtones.out FB2.out).mono ?_
  rintro e wn4 ⟨v,rfl,hR,hb⟩
  replace X:=Aside0.mk (Kd.C_below X.out hb)
  replace HB:=Aside0.mk (HB.out.trans (hb.mono HB.out.size))
  clear hb
  obtain ⟨AY,cY,rfl⟩:=Kd.R_slice hR
  have Y:=Aside0.mk (Kd.R_reads' hR).2.2
  have Yc:=Aside0.mk (Kd.R_reads' hR).2.1
  clear hR
  go_wp2_with fail
  refine (saronref00_Equal.calls k AX cX l AY cY l true wn4 X.out Xc.out Y.out Yc.out FE.out).mono ?_
  rintro e w' ⟨rfl,⟨nd,rfl⟩⟩
  obtain ⟨wn5,hwn5⟩:∃ q_,wn4.drewN nd=q_:=⟨_,rfl⟩
  have hb:Below wn4.heap.size wn4 wn5:=by rw [← hwn5];exact pw_below_drewN (Below.refl _ _) _
  rw [hwn5]
  clear hwn5
  replace X:=Aside0.mk (Kd.C_below X.out hb)
  replace Y:=Aside0.mk (Kd.C_below Y.out hb)
  replace HB:=Aside0.mk (HB.out.trans (hb.mono HB.out.size))
  clear hb
  clear X
  clear Y
  have y0_0:wn5.cell? ⟨w.heap.size,0,none⟩=some (.int .i64 g):=kc HB.out ((blk_cell HK0.out 0).trans rfl)
  have y0_1:wn5.cell? ⟨w.heap.size,1,none⟩=some (.slice Af fs.length cf):=kc HB.out ((blk_cell HK0.out 1).trans rfl)
  have y0_2:wn5.cell? ⟨w.heap.size,2,none⟩=some (.slice Ap ps.length cp):=kc HB.out ((blk_cell HK0.out 2).trans rfl)
  have y1_0:wn5.cell? ⟨w.heap.size+1,0,none⟩=some (.int .i64 n0):=kc HB.out ((blk_cell HK1.out 0).trans rfl)
  have y1_1:wn5.cell? ⟨w.heap.size+1,1,none⟩=some (.int .i64 n1):=kc HB.out ((blk_cell HK1.out 1).trans rfl)
  have y1_2:wn5.cell? ⟨w.heap.size+1,2,none⟩=some (.int .i64 n2):=kc HB.out ((blk_cell HK1.out 2).trans rfl)
  go_wp2_with fail
  clear y0_0 y0_1 y0_2 y1_0 y1_1 y1_2
  refine (heard_Known.calls k g Af cf fs Ap cp ps b e3 wn5 (Kd.C_below HF1.out HB.out) H1.out (Kd.C_below HP1.out HB.out) H2.out FD1.out).mono ?_
  rintro e wn6 ⟨rfl,hb⟩
  replace HB:=Aside0.mk (HB.out.trans (hb.mono HB.out.size))
  clear hb
  have y0_0:wn6.cell? ⟨w.heap.size,0,none⟩=some (.int .i64 g):=kc HB.out ((blk_cell HK0.out 0).trans rfl)
  have y0_1:wn6.cell? ⟨w.heap.size,1,none⟩=some (.slice Af fs.length cf):=kc HB.out ((blk_cell HK0.out 1).trans rfl)
  have y0_2:wn6.cell? ⟨w.heap.size,2,none⟩=some (.slice Ap ps.length cp):=kc HB.out ((blk_cell HK0.out 2).trans rfl)
  have y1_0:wn6.cell? ⟨w.heap.size+1,0,none⟩=some (.int .i64 n0):=kc HB.out ((blk_cell HK1.out 0).trans rfl)
  have y1_1:wn6.cell? ⟨w.heap.size+1,1,none⟩=some (.int .i64 n1):=kc HB.out ((blk_cell HK1.out 1).trans rfl)
  have y1_2:wn6.cell? ⟨w.heap.size+1,2,none⟩=some (.int .i64 n2):=kc HB.out ((blk_cell HK1.out 2).trans rfl)
  go_wp2_with fail
  clear y0_0 y0_1 y0_2 y1_0 y1_1 y1_2
  refine (saronref09_Known.calls k g Af cf fs Ap cp ps b e3 wn6 (Kd.C_below HF1.out HB.out) H1.out (Kd.C_below HP1.out HB.out) H2.out FD2.out).mono ?_
  rintro e wn7 ⟨rfl,hb⟩
  replace HB:=Aside0.mk (HB.out.trans (hb.mono HB.out.size))
  clear hb
  go_wp2_with fail
  refine (listened_any wn7 (HG1.out.below HB.out)).mono ?_
  rintro e wn8 ⟨rfl,hb⟩
  replace HB:=Aside0.mk (HB.out.trans (hb.mono HB.out.size))
  clear hb
  go_wp2_with fail
  go_ret
  exact ⟨rfl,HW1.out.trans (HB.out.mono HW1.out.size)⟩
end Go.Proofs.YthnilelmhpmanaaDoor.PHeardFits
end
section
namespace Go.Proofs.YthnilelmhpmanaaDoor.PHeardFits
open Go.RowKit Go.Proofs.YthnilelmhpmanaaDoorW.PrintWords Go.Proofs.YthnilelmhpmanaaDoorW.PrintLast Go.Proofs.YthnilelmhpmanaaDoorW.PrintMore
set_option linter.unusedVariables false
set_option linter.unusedSimpArgs false
/-- What memory holds has sizes that memory can have. -/
theorem fit_row {w:World} {A:Option Addr} {n:Nat} {xs:List Int} (h:Kd.C (Kd.int .i64) w A n xs):xs.length≤9223372036854775807:=by
  have:=Kd.C_max h
  have:=Kd.C_len h
  omega
theorem K_slice {α:Type} {d:Kd α} {e:Nat} {w:World} {xs:List α} {cs:List Value} (h:(Kd.slice e d).K w xs cs):∃ A c,cs=[.slice A xs.length c]∧xs.length≤c∧d.C w A xs.length xs:=h
theorem fit_forms {w:World} {A:Option Addr} {n:Nat} {fs:List S85} (h:Kd.C k85 w A n fs):FitForms fs:=by
  have h1:=Kd.C_max h
  have h2:=Kd.C_len h
  refine ⟨by omega,fun f hf=>?_⟩
  obtain ⟨i,hi,rfl⟩:=List.mem_iff_getElem.1 hf
  obtain ⟨ad,c,-,-,hK,-⟩:=Kd.C_get h z85 (i:Int) (by omega) (by omega)
  rw [Int.toNat_natCast,List.getD_eq_getElem?_getD,List.getElem?_eq_getElem hi,Option.getD_some] at hK
  obtain ⟨A1,c1,-,l1,g1⟩:=k85_open hK
  refine ⟨by have:=Kd.C_max g1;simpa using this,fun l hl=>?_⟩
  obtain ⟨j,hj,rfl⟩:=List.mem_iff_getElem.1 hl
  obtain ⟨ad2,c2,-,-,hK2,-⟩:=Kd.C_get g1 [] (j:Int) (by omega) (by simpa using hj)
  rw [Int.toNat_natCast,List.getD_eq_getElem?_getD,List.getElem?_eq_getElem hj,Option.getD_some] at hK2
  obtain ⟨A3,c3,-,l3,g3⟩:=K_slice hK2
  have:=Kd.C_max g3
  simpa using this
theorem fit_pieces {w:World} {A:Option Addr} {n:Nat} {ps:List S62} (h:Kd.C k62 w A n ps):ps.length≤9223372036854775807:=by
  have:=Kd.C_max h
  have:=Kd.C_len h
  omega
end Go.Proofs.YthnilelmhpmanaaDoor.PHeardFits
end
