/- A part of the proof: contracts and laws. -/
import Derived.Test.YthnilelmhpmanaaDoorWxq10
import Derived.Test.YthnilelmhpmanaaDoorWxq12
section
namespace Go.Proofs.YthnilelmhpmanaaDoor.PHeardFits
open Go.RowKit Go.Proofs.YthnilelmhpmanaaDoorW.PrintWords Go.Proofs.YthnilelmhpmanaaDoorW.PrintLast Go.Proofs.YthnilelmhpmanaaDoorW.PrintMore
open Go.Proofs.YthnilelmhpmanaaDoor.Hm
set_option linter.unusedVariables false
set_option linter.unusedSimpArgs false
def mn (a b:Int):Int:=if b<a then b else a
theorem turned_one (y:Int):heard_turned_int.f 2 [y]=some [wrap64 (-y)]:=by
  unfold heard_turned_int.f
  simp only [heard_turned_int.l0,List.length_singleton]
  rw [if_pos (by decide),if_pos (by decide),if_pos (by decide),if_pos (by decide),w64 (n:=0+1) (by decide) (by decide)]
  rw [if_neg (by decide)]
  rfl
theorem greatest_one (x y:Int):heard_greatest_int.f 2 x [y]=some (mx x y):=by
  unfold heard_greatest_int.f
  simp only [heard_greatest_int.l0,List.length_singleton]
  rw [if_pos (by decide),if_pos (by decide),if_pos (by decide),w64 (n:=0+1) (by decide) (by decide),if_neg (by decide)]
  rfl
theorem least_ev (x y:Int) (hx : -2000≤x∧x≤2000) (hy : -2000≤y∧y≤2000):heard_least_int.f 2 x [y]=some (mn x y):=by
  unfold heard_least_int.f
  rw [turned_one,Option.bind_some,greatest_one,Option.bind_some]
  rw [w64 (n := -x) (by omega) (by omega),w64 (n := -y) (by omega) (by omega)]
  unfold mx mn
  congr 1
  split
  · rw [w64 (by omega) (by omega)];split <;> omega
  · rw [w64 (by omega) (by omega)];split <;> omega
theorem least_one (x y:Int) (g:Nat) (w:World) (hx : -2000≤x∧x≤2000) (hy : -2000≤y∧y≤2000) (h:w.cell? ⟨g,0,none⟩=some (.int .i64 y)) :
    Calls Tryd.prog 80 #[.int .i64 x,.slice (some ⟨g,0,none⟩) 1 1] w fun e w'=>e=.returned (.int .i64 (mn x y))∧Below w.heap.size w w' :=
  heard_least_int.calls 2 x _ 1 [y] _ w (C_one h) (by simp) (least_ev x y hx hy)
end Go.Proofs.YthnilelmhpmanaaDoor.PHeardFits
end
section
namespace Go.Proofs.YthnilelmhpmanaaDoor.PHeardFits
open Go.RowKit Go.Proofs.YthnilelmhpmanaaDoorW.PrintWords Go.Proofs.YthnilelmhpmanaaDoorW.PrintLast Go.Proofs.YthnilelmhpmanaaDoorW.PrintMore
open Go.Proofs.YthnilelmhpmanaaDoor.Hm
set_option linter.unusedVariables false
set_option linter.unusedSimpArgs false
/-- Are tones a piece, but for some strokes? -/
def wholeB (l tones:List Int) (lost:Int):Option Bool:=(heard_common.f l tones).bind fun c=>some ((c == (tones.length:Int)) && decide ((l.length:Int) - tones.length≤lost))
def piecesWhole (ps:List S62) (tones:List Int) (lost:Int):Nat→Nat→Option (List Int)
  | 0,_=>some []
  | c+1,p=>(wholeB (ptones ps p) tones lost).bind fun b=>(piecesWhole ps tones lost c (p+1)).bind fun r=>some (if b=true then (p:Int) :: r else r)
def heard_Whole.f (k:Nat) (g:Int) (fs:List S85) (ps:List S62) (tones:List Int) (lost:Int):Option (List Int×Int) :=
  (heard_Check.f k g fs ps).bind fun e=>if e=0 then (heard_areTones.f tones 0).bind fun b=>(if b=true then (if liesB lost 0 6=true then (if ps.length≤1000 then (piecesWhole ps tones lost ps.length 0).bind fun r=>some (r,0) else none) else some ([],91)) else some ([],91)) else some ([],e)
set_option maxRecDepth 100000 in
theorem heard_Whole.calls_err (k:Nat) (a0_0:Int) (A0_1:Option Addr) (c0_1:Nat) (l0_1:List (S85)) (A0_2:Option Addr) (c0_2:Nat) (l0_2:List (S62)) (A1:Option Addr) (c1:Nat) (l1:List Int) (a2:Int) (e0:Int) (hz:e0≠0) (w:World) (hr0_1:Kd.C k85 w A0_1 l0_1.length l0_1) (hc0_1:l0_1.length≤c0_1) (hr0_2:Kd.C k62 w A0_2 l0_2.length l0_2) (hc0_2:l0_2.length≤c0_2) (hr1:Kd.C (Kd.int .i64) w A1 l1.length l1) (hc1:l1.length≤c1) (he0:heard_Check.f k a0_0 l0_1 l0_2=some e0) :
    Calls Tryd.prog 33 #[.agg #[.int .i64 a0_0,.slice A0_1 l0_1.length c0_1,.slice A0_2 l0_2.length c0_2],.slice A1 l1.length c1,.int .i64 a2] w fun e w'=>∃ v0_:Value,e=.returned (.tuple #[v0_,.int .i64 e0])∧Kd.V (Kd.int .i64) 3 w' w.heap.size (fun k_=>(w.heap.size≤k_)) v0_ []∧Below w.heap.size w w':=by
  have hu62:=Tryd.underlying62
  have hu27:=Tryd.underlying27
  have hu24:=Tryd.underlying24
  have HF:=Aside0.mk hr0_1
  have HP:=Aside0.mk hr0_2
  have HN:=Aside0.mk hr1
  have H1:=Aside0.mk hc0_1
  have H2:=Aside0.mk hc0_2
  have H3:=Aside0.mk hc1
  clear hr0_1 hr0_2 hr1 hc0_1 hc0_2 hc1
  have hzb:(e0 != 0)=true:=by simpa using hz
  have HE:=Aside0.mk he0
  clear he0
  go_enter Tryd.func33,Tryd.ntmps33
  go_wp2_with fail
  have hb0:=below_alloc (Below.refl _ w) (Obj.cells #[.int .i64 a0_0,.slice A0_1 l0_1.length c0_1,.slice A0_2 l0_2.length c0_2] 27)
  have b2:=blk_new w (Obj.cells #[.int .i64 a0_0,.slice A0_1 l0_1.length c0_1,.slice A0_2 l0_2.length c0_2] 27)
  have z1:(w.alloc (Obj.cells #[.int .i64 a0_0,.slice A0_1 l0_1.length c0_1,.slice A0_2 l0_2.length c0_2] 27)).heap.size=w.heap.size+1:=by simp
  obtain ⟨w1,hw1⟩:∃ w1,w.alloc (Obj.cells #[.int .i64 a0_0,.slice A0_1 l0_1.length c0_1,.slice A0_2 l0_2.length c0_2] 27)=w1:=⟨_,rfl⟩
  rw [hw1] at b2 hb0 z1 ⊢
  clear hw1
  refine (heard_Check.calls k _ _ _ _ _ _ _ _ w1 (Kd.C_below HF.out hb0) H1.out (Kd.C_below HP.out hb0) H2.out HE.out).mono ?_
  rintro e w2 ⟨rfl,hb2⟩
  have HB2:=Aside0.mk (hb0.trans (hb2.mono hb0.size))
  replace b2:=(hb2.block w.heap.size (by omega)).trans b2
  clear hb2 hb0 b2 z1
  go_wp2_with fail
  go_ret2
  exact ⟨_,rfl,Kd.V_nil _ _ _ _ _,HB2.out⟩
set_option maxRecDepth 100000 in
theorem heard_Whole.calls_tones (k:Nat) (a0_0:Int) (A0_1:Option Addr) (c0_1:Nat) (l0_1:List (S85)) (A0_2:Option Addr) (c0_2:Nat) (l0_2:List (S62)) (A1:Option Addr) (c1:Nat) (l1:List Int) (a2:Int) (w:World) (hr0_1:Kd.C k85 w A0_1 l0_1.length l0_1) (hc0_1:l0_1.length≤c0_1) (hr0_2:Kd.C k62 w A0_2 l0_2.length l0_2) (hc0_2:l0_2.length≤c0_2) (hr1:Kd.C (Kd.int .i64) w A1 l1.length l1) (hc1:l1.length≤c1) (he0:heard_Check.f k a0_0 l0_1 l0_2=some 0) (hl:heard_areTones.f l1 0=some false) :
    Calls Tryd.prog 33 #[.agg #[.int .i64 a0_0,.slice A0_1 l0_1.length c0_1,.slice A0_2 l0_2.length c0_2],.slice A1 l1.length c1,.int .i64 a2] w fun e w'=>∃ v0_:Value,e=.returned (.tuple #[v0_,.int .i64 91])∧Kd.V (Kd.int .i64) 3 w' w.heap.size (fun k_=>(w.heap.size≤k_)) v0_ []∧Below w.heap.size w w':=by
  have hu62:=Tryd.underlying62
  have hu27:=Tryd.underlying27
  have hu24:=Tryd.underlying24
  have HF:=Aside0.mk hr0_1
  have HP:=Aside0.mk hr0_2
  have HN:=Aside0.mk hr1
  have H1:=Aside0.mk hc0_1
  have H2:=Aside0.mk hc0_2
  have H3:=Aside0.mk hc1
  clear hr0_1 hr0_2 hr1 hc0_1 hc0_2 hc1
  have HE:=Aside0.mk he0
  have HT:=Aside0.mk hl
  clear he0 hl
  go_enter Tryd.func33,Tryd.ntmps33
  go_wp2_with fail
  have hb0:=below_alloc (Below.refl _ w) (Obj.cells #[.int .i64 a0_0,.slice A0_1 l0_1.length c0_1,.slice A0_2 l0_2.length c0_2] 27)
  have b2:=blk_new w (Obj.cells #[.int .i64 a0_0,.slice A0_1 l0_1.length c0_1,.slice A0_2 l0_2.length c0_2] 27)
  have z1:(w.alloc (Obj.cells #[.int .i64 a0_0,.slice A0_1 l0_1.length c0_1,.slice A0_2 l0_2.length c0_2] 27)).heap.size=w.heap.size+1:=by simp
  obtain ⟨w1,hw1⟩:∃ w1,w.alloc (Obj.cells #[.int .i64 a0_0,.slice A0_1 l0_1.length c0_1,.slice A0_2 l0_2.length c0_2] 27)=w1:=⟨_,rfl⟩
  rw [hw1] at b2 hb0 z1 ⊢
  clear hw1
  refine (heard_Check.calls k _ _ _ _ _ _ _ _ w1 (Kd.C_below HF.out hb0) H1.out (Kd.C_below HP.out hb0) H2.out HE.out).mono ?_
  rintro e w2 ⟨rfl,hb2⟩
  have HB2:=Aside0.mk (hb0.trans (hb2.mono hb0.size))
  replace b2:=(hb2.block w.heap.size (by omega)).trans b2
  clear hb2 hb0 b2 z1
  go_wp2_with (first|(go_at_call 66;refine (heard_areTones.calls _ _ _ _ _ _ (Kd.C_below HN.out HB2.out) H3.out HT.out).mono ?_;rintro e w' ⟨rfl,⟨nd,rfl⟩⟩))
  go_ret2
  exact ⟨_,rfl,Kd.V_nil _ _ _ _ _,pw_below_drewN HB2.out nd⟩
set_option maxRecDepth 100000 in
theorem heard_Whole.calls_lost (k:Nat) (a0_0:Int) (A0_1:Option Addr) (c0_1:Nat) (l0_1:List (S85)) (A0_2:Option Addr) (c0_2:Nat) (l0_2:List (S62)) (A1:Option Addr) (c1:Nat) (l1:List Int) (a2:Int) (w:World) (hr0_1:Kd.C k85 w A0_1 l0_1.length l0_1) (hc0_1:l0_1.length≤c0_1) (hr0_2:Kd.C k62 w A0_2 l0_2.length l0_2) (hc0_2:l0_2.length≤c0_2) (hr1:Kd.C (Kd.int .i64) w A1 l1.length l1) (hc1:l1.length≤c1) (he0:heard_Check.f k a0_0 l0_1 l0_2=some 0) (hl:heard_areTones.f l1 0=some true) (hn:liesB a2 0 6=false) :
    Calls Tryd.prog 33 #[.agg #[.int .i64 a0_0,.slice A0_1 l0_1.length c0_1,.slice A0_2 l0_2.length c0_2],.slice A1 l1.length c1,.int .i64 a2] w fun e w'=>∃ v0_:Value,e=.returned (.tuple #[v0_,.int .i64 91])∧Kd.V (Kd.int .i64) 3 w' w.heap.size (fun k_=>(w.heap.size≤k_)) v0_ []∧Below w.heap.size w w':=by
  have hu62:=Tryd.underlying62
  have hu27:=Tryd.underlying27
  have hu24:=Tryd.underlying24
  have HF:=Aside0.mk hr0_1
  have HP:=Aside0.mk hr0_2
  have HN:=Aside0.mk hr1
  have H1:=Aside0.mk hc0_1
  have H2:=Aside0.mk hc0_2
  have H3:=Aside0.mk hc1
  clear hr0_1 hr0_2 hr1 hc0_1 hc0_2 hc1
  have HE:=Aside0.mk he0
  have HT:=Aside0.mk hl
  have HL:=Aside0.mk hn
  clear he0 hl hn
  go_enter Tryd.func33,Tryd.ntmps33
  go_wp2_with fail
  have hb0:=below_alloc (Below.refl _ w) (Obj.cells #[.int .i64 a0_0,.slice A0_1 l0_1.length c0_1,.slice A0_2 l0_2.length c0_2] 27)
  have b2:=blk_new w (Obj.cells #[.int .i64 a0_0,.slice A0_1 l0_1.length c0_1,.slice A0_2 l0_2.length c0_2] 27)
  have z1:(w.alloc (Obj.cells #[.int .i64 a0_0,.slice A0_1 l0_1.length c0_1,.slice A0_2 l0_2.length c0_2] 27)).heap.size=w.heap.size+1:=by simp
  obtain ⟨w1,hw1⟩:∃ w1,w.alloc (Obj.cells #[.int .i64 a0_0,.slice A0_1 l0_1.length c0_1,.slice A0_2 l0_2.length c0_2] 27)=w1:=⟨_,rfl⟩
  rw [hw1] at b2 hb0 z1 ⊢
  clear hw1
  refine (heard_Check.calls k _ _ _ _ _ _ _ _ w1 (Kd.C_below HF.out hb0) H1.out (Kd.C_below HP.out hb0) H2.out HE.out).mono ?_
  rintro e w2 ⟨rfl,hb2⟩
  have HB2:=Aside0.mk (hb0.trans (hb2.mono hb0.size))
  replace b2:=(hb2.block w.heap.size (by omega)).trans b2
  clear hb2 hb0 b2 z1
  go_wp2_with (first|(go_at_call 66;refine (heard_areTones.calls _ _ _ _ _ _ (Kd.C_below HN.out HB2.out) H3.out HT.out).mono ?_;rintro e w' ⟨rfl,⟨nd,rfl⟩⟩)|(go_at_call 65;refine (lies_any _ _ _ _).mono ?_;rw [HL.out];rintro e w' ⟨rfl,⟨nd2,rfl⟩⟩))
  go_ret2
  exact ⟨_,rfl,Kd.V_nil _ _ _ _ _,by repeat (first|exact HB2.out|apply pw_below_drewN)⟩
set_option maxRecDepth 100000 in
set_option maxHeartbeats 1000000 in
theorem heard_Whole.calls_ok (k:Nat) (a0_0:Int) (A0_1:Option Addr) (c0_1:Nat) (l0_1:List (S85)) (A0_2:Option Addr) (c0_2:Nat) (l0_2:List (S62)) (A1:Option Addr) (c1:Nat) (l1:List Int) (a2:Int) (r1:List Int) (w:World) (hr0_1:Kd.C k85 w A0_1 l0_1.length l0_1) (hc0_1:l0_1.length≤c0_1) (hr0_2:Kd.C k62 w A0_2 l0_2.length l0_2) (hc0_2:l0_2.length≤c0_2) (hr1:Kd.C (Kd.int .i64) w A1 l1.length l1) (hc1:l1.length≤c1) (he0:heard_Check.f k a0_0 l0_1 l0_2=some 0) (hl:heard_areTones.f l1 0=some true) (hn:liesB a2 0 6=true) (hps:l0_2.length≤1000) (hr:piecesWhole l0_2 l1 a2 l0_2.length 0=some r1) :
    Calls Tryd.prog 33 #[.agg #[.int .i64 a0_0,.slice A0_1 l0_1.length c0_1,.slice A0_2 l0_2.length c0_2],.slice A1 l1.length c1,.int .i64 a2] w fun e w'=>∃ v0_:Value,e=.returned (.tuple #[v0_,.int .i64 0])∧Kd.V (Kd.int .i64) 3 w' w.heap.size (fun k_=>(w.heap.size≤k_)) v0_ r1∧Below w.heap.size w w':=by
  have hu62:=Tryd.underlying62
  have hu27:=Tryd.underlying27
  have hu24:=Tryd.underlying24
  have HF:=Aside0.mk hr0_1
  have HP:=Aside0.mk hr0_2
  have HN:=Aside0.mk hr1
  have H1:=Aside0.mk hc0_1
  have H2:=Aside0.mk hc0_2
  have H3:=Aside0.mk hc1
  clear hr0_1 hr0_2 hr1 hc0_1 hc0_2 hc1
  have HE:=Aside0.mk he0
  have HT:=Aside0.mk hl
  have HL:=Aside0.mk hn
  have HR:=Aside0.mk hr
  have hl24:l1.length≤24:=by
    unfold heard_areTones.f at hl
    simp only [Option.some.injEq,Bool.and_eq_true,liesB,decide_eq_true_eq] at hl
    omega
  have ha2:0≤a2∧a2≤6:=by simpa [liesB] using hn
  clear he0 hl hn hr
  go_enter Tryd.func33,Tryd.ntmps33
  go_wp2_with fail
  have hb0:=below_alloc (Below.refl _ w) (Obj.cells #[.int .i64 a0_0,.slice A0_1 l0_1.length c0_1,.slice A0_2 l0_2.length c0_2] 27)
  have b2:=blk_new w (Obj.cells #[.int .i64 a0_0,.slice A0_1 l0_1.length c0_1,.slice A0_2 l0_2.length c0_2] 27)
  have z1:(w.alloc (Obj.cells #[.int .i64 a0_0,.slice A0_1 l0_1.length c0_1,.slice A0_2 l0_2.length c0_2] 27)).heap.size=w.heap.size+1:=by simp
  obtain ⟨w1,hw1⟩:∃ w1,w.alloc (Obj.cells #[.int .i64 a0_0,.slice A0_1 l0_1.length c0_1,.slice A0_2 l0_2.length c0_2] 27)=w1:=⟨_,rfl⟩
  rw [hw1] at b2 hb0 z1 ⊢
  clear hw1
  refine (heard_Check.calls k _ _ _ _ _ _ _ _ w1 (Kd.C_below HF.out hb0) H1.out (Kd.C_below HP.out hb0) H2.out HE.out).mono ?_
  rintro e w2 ⟨rfl,hb2⟩
  have HB2:=Aside0.mk (hb0.trans (hb2.mono hb0.size))
  replace b2:=(hb2.block w.heap.size (by omega)).trans b2
  have q2:w2.cell? ⟨w.heap.size,2,none⟩=some (.slice A0_2 l0_2.length c0_2):=(blk_cell b2 2).trans rfl
  have lz:=blk_lt b2
  clear hb2 hb0 b2 z1
  go_wp2_with (first|(go_at_call 66;refine (heard_areTones.calls _ _ _ _ _ _ (Kd.C_below HN.out HB2.out) H3.out HT.out).mono ?_;rintro e w' ⟨rfl,⟨nd,rfl⟩⟩)|(go_at_call 65;refine (lies_any _ _ _ _).mono ?_;rw [HL.out];rintro e w' ⟨rfl,⟨nd2,rfl⟩⟩))
  clear q2
  obtain ⟨w4,hw4⟩:∃ w4,w2.drewN (nd+nd2)=w4:=⟨_,rfl⟩
  have HB4:Aside0 (Below w.heap.size w w4):=⟨by rw [← hw4];exact pw_below_drewN HB2.out _⟩
  rw [hw4]
  clear hw4 HB2 lz
  go_loopg [9,28] l0_2.length (fun gk v9 v28 w'=>∃ (p:Nat) (acc r':List Int),v28=.int .i64 p∧Aside0 (gk+p=l0_2.length)∧Aside0 (Kd.R (Kd.int .i64) 3 w' w4.heap.size (fun _=>True) v9 acc)∧Aside0 (acc.length≤p)∧Aside0 (piecesWhole l0_2 l1 a2 gk p=some r'∧acc ++ r'=r1)∧Aside0 (Below w4.heap.size w4 w'))
  case atStart=>exact ⟨0,[],r1,rfl,⟨rfl⟩,⟨Kd.R_nil _ _ _ _ _⟩,⟨Nat.le_refl _⟩,⟨HR.out,rfl⟩,⟨Below.refl _ _⟩⟩
  case round =>
    clear HR
    obtain ⟨p,acc,r',rfl,HI,HO,HLA,HPA,HB⟩:=hrel
    have hi:=HI.out
    obtain ⟨A7,c7,hv7⟩:=Kd.R_slice HO.out
    subst hv7
    by_cases hlt:p<l0_2.length
    · obtain ⟨hpa,hacc⟩:=HPA.out
      rw [show gk=(gk - 1)+1 from by omega] at hpa
      unfold piecesWhole at hpa
      obtain ⟨b,hb,hpa⟩:=Option.bind_eq_some_iff.1 hpa
      obtain ⟨r2,hr2,hpa⟩:=Option.bind_eq_some_iff.1 hpa
      simp only [Option.some.injEq] at hpa
      unfold wholeB at hb
      obtain ⟨c,hcm,hb⟩:=Option.bind_eq_some_iff.1 hb
      simp only [Option.some.injEq] at hb
      have hpl:(ptones l0_2 p).length≤1000:=by
        unfold heard_common.f at hcm
        by_cases h9:(ptones l0_2 p).length≤1000
        · exact h9
        · rw [if_neg h9] at hcm;simp at hcm
      have HCM:=Aside0.mk hcm
      have HBB:=Aside0.mk hb
      have HR2:=Aside0.mk hr2
      have HRR:=Aside0.mk (And.intro hpa hacc)
      have hlen:=HLA.out
      have HBW:=Aside0.mk (HB4.out.trans (HB.out.mono HB4.out.size))
      obtain ⟨ad,A2,c2',e1,x0,x1,g1,h1⟩:=at_T62 (Kd.C_below HP.out HBW.out) (p:Int) (by omega) (by omega)
      cases e1
      rw [Int.toNat_natCast] at x0 x1
      have HX:=Aside0.mk (And.intro x0 x1)
      have HG1:=Aside0.mk g1
      have HH1:=Aside0.mk h1
      clear hcm hb hr2 hpa hacc HPA g1 h1
      have hpt:(rd_T62 l0_2 p).f1=ptones l0_2 p:=rfl
      rw [hpt] at x1 HG1 HH1 HX
      clear hpt
      have HBA:=Aside0.mk (HBW.out.alloc HBW.out.size (Obj.cells #[.int .i64 (rd_T62 l0_2 p).f0,.slice A2 (ptones l0_2 p).length c2'] 62))
      have HBAA:=Aside0.mk (HB.out.alloc HB.out.size (Obj.cells #[.int .i64 (rd_T62 l0_2 p).f0,.slice A2 (ptones l0_2 p).length c2'] 62))
      have HP1:=Aside0.mk (blk_new wr (Obj.cells #[.int .i64 (rd_T62 l0_2 p).f0,.slice A2 (ptones l0_2 p).length c2'] 62))
      go_wp2_with fail
      clear x0 x1
      refine (heard_common.calls _ _ _ _ _ _ c _ (Kd.C_alloc HH1.out _) HG1.out (Kd.C_below HN.out HBA.out) H3.out HCM.out).mono ?_
      rintro e w6 ⟨rfl,hb6⟩
      have HB6:=Aside0.mk (HBAA.out.trans (hb6.mono HBAA.out.size))
      have HO6:=Aside0.mk (Kd.R_below (Kd.R_alloc HO.out (Obj.cells #[.int .i64 (rd_T62 l0_2 p).f0,.slice A2 (ptones l0_2 p).length c2'] 62)) hb6)
      have b6:=(hb6.block wr.heap.size (by simp)).trans HP1.out
      have l6:wr.heap.size<w6.heap.size:=blk_lt b6
      have c61:w6.cell? ⟨wr.heap.size,1,none⟩=some (.slice A2 (ptones l0_2 p).length c2'):=(blk_cell b6 1).trans rfl
      clear hb6 b6 HBA HBAA HO HB HP1
      cases h2:(c == (l1.length:Int)) with
      | false =>
        have hb0:b=false:=by rw [← HBB.out,h2];rfl
        have HB0:=Aside0.mk hb0
        clear hb0
        go_wp2_with fail
        go_roundg (l0_2.length - (p+1))
        case measure=>omega
        case rel=>exact ⟨p+1,acc,r2,by go_num,⟨by omega⟩,HO6,⟨by omega⟩,⟨by rw [show gk - 1=l0_2.length - (p+1) from by omega] at HR2;exact HR2.out,by
              have h9:=HRR.out
              rw [HB0.out,if_neg (by simp)] at h9
              rw [h9.1];exact h9.2⟩,HB6⟩
      | true =>
        by_cases h3:((ptones l0_2 p).length:Int) - l1.length≤a2
        · have hb0:b=true:=by rw [← HBB.out,h2];simpa using h3
          have HB0:=Aside0.mk hb0
          clear hb0
          go_wp2_with (first|(at_builtin;refine Kd.R_append (Kd.int .i64) (w0:=w4) w4.heap.size rfl (.tmp 50) (.tmp 52) 28 3 (.int .i64 0) 8 rfl Tryd.underlying28 info3 rfl (by decide) (by omega) (.slice A7 acc.length c7) acc (p:Int) [.int .i64 (p:Int)] (fun _=>True) (fun _=>False) rfl rfl ?aP (fun _ hk=>hk.elim) ?aF ?aO ?aB ?aS ?aL ?_;(case aP=>exact rfl);(case aB=>exact HB6.out);(case aF=>exact (fun _ _=>trivial));(case aO=>exact HO6.out);(case aS=>exact HB6.out.size);(case aL=>omega);intro v4 w8 ho hb hg hat;have HO2:=Aside0.mk ho;have HB2:=Aside0.mk hb;clear ho hb hg hat))
          go_roundg (l0_2.length - (p+1))
          case measure=>omega
          case rel=>exact ⟨p+1,acc ++ [(p:Int)],r2,by go_num,⟨by omega⟩,HO2,⟨by simp;omega⟩,⟨by rw [show gk - 1=l0_2.length - (p+1) from by omega] at HR2;exact HR2.out,by
              have h9:=HRR.out
              rw [HB0.out,if_pos rfl] at h9
              rw [← h9.2,← h9.1];simp⟩,HB2⟩
        · have hb0:b=false:=by rw [← HBB.out,h2];simpa using h3
          have HB0:=Aside0.mk hb0
          clear hb0
          have h3':decide (((ptones l0_2 p).length:Int) - l1.length≤a2)=false:=by simpa using h3
          go_wp2_with fail
          go_roundg (l0_2.length - (p+1))
          case measure=>omega
          case rel=>exact ⟨p+1,acc,r2,by go_num,⟨by omega⟩,HO6,⟨by omega⟩,⟨by rw [show gk - 1=l0_2.length - (p+1) from by omega] at HR2;exact HR2.out,by
              have h9:=HRR.out
              rw [HB0.out,if_neg (by simp)] at h9
              rw [h9.1];exact h9.2⟩,HB6⟩
    · have hr1:acc=r1:=by
        obtain ⟨hpa,hacc⟩:=HPA.out
        rw [show gk=0 from by omega] at hpa
        simp only [piecesWhole,Option.some.injEq] at hpa
        rw [← hacc,← hpa,List.append_nil]
      obtain ⟨-,hlc,hF⟩:=F_of_R HO.out
      have HFF:=Aside0.mk hF
      have HR1:=Aside0.mk hr1
      have HBF:=Aside0.mk (HB4.out.trans (HB.out.mono HB4.out.size))
      have HS:=Aside0.mk HB4.out.size
      clear hF hr1
      go_wp2_with fail
      go_ret2
      exact ⟨_,rfl,by rw [← HR1.out];exact Kd.V_mk (Nat.le_refl _) (Kd.F_mono HFF.out (fun k hk=>Nat.le_trans HS.out hk)),HBF.out⟩
theorem heard_Whole.calls (k:Nat) (a0_0:Int) (A0_1:Option Addr) (c0_1:Nat) (l0_1:List (S85)) (A0_2:Option Addr) (c0_2:Nat) (l0_2:List (S62)) (A1:Option Addr) (c1:Nat) (l1:List Int) (a2:Int) (r1:List Int) (r2:Int) (w:World) (hr0_1:Kd.C k85 w A0_1 l0_1.length l0_1) (hc0_1:l0_1.length≤c0_1) (hr0_2:Kd.C k62 w A0_2 l0_2.length l0_2) (hc0_2:l0_2.length≤c0_2) (hr1:Kd.C (Kd.int .i64) w A1 l1.length l1) (hc1:l1.length≤c1) (h:heard_Whole.f k a0_0 l0_1 l0_2 l1 a2=some (r1,r2)) :
    Calls Tryd.prog 33 #[.agg #[.int .i64 a0_0,.slice A0_1 l0_1.length c0_1,.slice A0_2 l0_2.length c0_2],.slice A1 l1.length c1,.int .i64 a2] w fun e w'=>∃ v0_:Value,e=.returned (.tuple #[v0_,.int .i64 r2])∧Kd.V (Kd.int .i64) 3 w' w.heap.size (fun k_=>(w.heap.size≤k_)) v0_ r1∧Below w.heap.size w w':=by
  unfold heard_Whole.f at h
  obtain ⟨e0,he0,h⟩:=Option.bind_eq_some_iff.1 h
  by_cases hz:e0=0
  · subst hz
    rw [if_pos rfl] at h
    obtain ⟨b,hb,h⟩:=Option.bind_eq_some_iff.1 h
    cases b with
    | true =>
      rw [if_pos rfl] at h
      split at h
      · rename_i h2
        split at h
        · rename_i h4
          obtain ⟨x,hx,h⟩:=Option.bind_eq_some_iff.1 h
          simp only [Option.some.injEq,Prod.mk.injEq] at h
          obtain ⟨rfl,rfl⟩:=h
          exact heard_Whole.calls_ok k a0_0 A0_1 c0_1 l0_1 A0_2 c0_2 l0_2 A1 c1 l1 a2 x w hr0_1 hc0_1 hr0_2 hc0_2 hr1 hc1 he0 hb h2 h4 hx
        · simp at h
      · rename_i h2
        simp only [Option.some.injEq,Prod.mk.injEq] at h
        obtain ⟨rfl,rfl⟩:=h
        exact heard_Whole.calls_lost k a0_0 A0_1 c0_1 l0_1 A0_2 c0_2 l0_2 A1 c1 l1 a2 w hr0_1 hc0_1 hr0_2 hc0_2 hr1 hc1 he0 hb (by simpa using h2)
    | false =>
      rw [if_neg (by simp)] at h
      simp only [Option.some.injEq,Prod.mk.injEq] at h
      obtain ⟨rfl,rfl⟩:=h
      exact heard_Whole.calls_tones k a0_0 A0_1 c0_1 l0_1 A0_2 c0_2 l0_2 A1 c1 l1 a2 w hr0_1 hc0_1 hr0_2 hc0_2 hr1 hc1 he0 hb
  · rw [if_neg hz] at h
    simp only [Option.some.injEq,Prod.mk.injEq] at h
    obtain ⟨rfl,rfl⟩:=h
    exact heard_Whole.calls_err k a0_0 A0_1 c0_1 l0_1 A0_2 c0_2 l0_2 A1 c1 l1 a2 e0 hz w hr0_1 hc0_1 hr0_2 hc0_2 hr1 hc1 he0
end Go.Proofs.YthnilelmhpmanaaDoor.PHeardFits
end
section
namespace Go.Proofs.YthnilelmhpmanaaDoor.PHeardFits
open Go.RowKit Go.Proofs.YthnilelmhpmanaaDoorW.PrintWords Go.Proofs.YthnilelmhpmanaaDoorW.PrintLast Go.Proofs.YthnilelmhpmanaaDoorW.PrintMore
set_option linter.unusedVariables false
set_option linter.unusedSimpArgs false
theorem ev_map {α β:Type} {g:Nat→Option α} {f:Nat→Option β} {a:α} {b:β} (h:Ev g a) (e:∀ k,g k=some a→f k=some b):Ev f b:=by
  obtain ⟨K,h⟩:=h
  exact ⟨K,fun k hk=>e k (h k hk)⟩
theorem mx_ge {a b c:Int} (h:c≤a∨c≤b):c≤mx a b:=by unfold mx;split <;> omega
theorem lcs_ge:∀ (a b z:List Int),z.Sublist a→z.Sublist b→(z.length:Int)≤lcsP a b
  | [],b,z,ha,hb=>by
    have:=List.sublist_nil.1 ha
    subst this
    exact (lcsP_bd [] b).1
  | x :: a,[],z,ha,hb=>by
    have:=List.sublist_nil.1 hb
    subst this
    exact (lcsP_bd _ _).1
  | x :: a,y :: b,z,ha,hb=>by
    rw [lcsP_cons]
    rcases List.sublist_cons_iff.1 ha with h1 | ⟨z1,rfl,h1⟩
    · have:=lcs_ge a (y :: b) z h1 hb
      split <;> exact mx_ge (by first|exact .inl (mx_ge (.inl this))|exact .inl this)
    · rcases List.sublist_cons_iff.1 hb with h2 | ⟨z2,h3,h2⟩
      · have:=lcs_ge (x :: a) b (x :: z1) ha h2
        split <;> exact mx_ge (by first|exact .inl (mx_ge (.inr this))|exact .inr this)
      · simp only [List.cons.injEq] at h3
        obtain ⟨rfl,rfl⟩:=h3
        have:=lcs_ge a b z1 h1 h2
        rw [if_pos rfl]
        exact mx_ge (.inr (by simp only [List.length_cons];omega))
termination_by a b=>a.length+b.length
theorem lcs_ex:∀ (a b:List Int),∃ z:List Int,z.Sublist a∧z.Sublist b∧(z.length:Int)=lcsP a b
  | [],b=>⟨[],List.nil_sublist _,List.nil_sublist _,rfl⟩
  | x :: a,[]=>⟨[],List.nil_sublist _,List.nil_sublist _,by rw [lcsP_nil2];rfl⟩
  | x :: a,y :: b=>by
    obtain ⟨z1,p1,q1,r1⟩:=lcs_ex a (y :: b)
    obtain ⟨z2,p2,q2,r2⟩:=lcs_ex (x :: a) b
    obtain ⟨z3,p3,q3,r3⟩:=lcs_ex a b
    have hm:∃ z:List Int,z.Sublist (x :: a)∧z.Sublist (y :: b)∧(z.length:Int)=mx (lcsP a (y :: b)) (lcsP (x :: a) b):=by
      unfold mx
      split
      · exact ⟨z2,p2,q2.cons _,r2⟩
      · exact ⟨z1,p1.cons _,q1,r1⟩
    rw [lcsP_cons]
    split
    · rename_i hxy
      subst hxy
      obtain ⟨z4,p4,q4,r4⟩:=hm
      generalize mx (lcsP a (x :: b)) (lcsP (x :: a) b)=m at r4 ⊢
      unfold mx
      split
      · exact ⟨x :: z3,p3.cons_cons x,q3.cons_cons x,by simp only [List.length_cons];omega⟩
      · exact ⟨z4,p4,q4,r4⟩
    · exact hm
termination_by a b=>a.length+b.length
theorem lcs_comm (a b:List Int):lcsP a b=lcsP b a:=by
  obtain ⟨z,p,q,r⟩:=lcs_ex a b
  obtain ⟨z2,p2,q2,r2⟩:=lcs_ex b a
  have h1:=lcs_ge b a z q p
  have h2:=lcs_ge a b z2 q2 p2
  omega
def idxL (q:Nat→Bool):Nat→Nat→List Int
  | 0,_=>[]
  | c+1,p=>if q p=true then (p:Int) :: idxL q c (p+1) else idxL q c (p+1)
theorem idxL_len (q:Nat→Bool):∀ (c p:Nat),(idxL q c p).length≤c
  | 0,_=>by simp [idxL]
  | c+1,p=>by
    have:=idxL_len q c (p+1)
    unfold idxL
    split <;> simp <;> omega
theorem bookOk_ps {g:Int} {fs:List S85} {ps:List S62} (h:bookOk g fs ps=true):1≤ps.length∧ps.length≤6∧bookB g fs=true:=by
  unfold bookOk at h
  simp only [Bool.and_eq_true,liesB,decide_eq_true_eq] at h
  exact ⟨by omega,by omega,h.1.1⟩
theorem bookOk_piece {g:Int} {fs:List S85} {ps:List S62} (h:bookOk g fs ps=true) (i:Nat) (hi:i<ps.length):1≤(ptones ps i).length∧(ptones ps i).length≤24∧(∀ t ∈ ptones ps i,0≤t∧t≤6)∧0≤(rd_T62 ps i).f0∧(rd_T62 ps i).f0≤(fs.length:Int) - 1:=by
  unfold bookOk at h
  simp only [Bool.and_eq_true] at h
  have:=List.all_eq_true.1 h.2 _ (rd_T62_mem ps i hi)
  unfold pieceOk areT at this
  simp only [Bool.and_eq_true,liesB,decide_eq_true_eq,Bool.not_eq_true',List.any_eq_false] at this
  obtain ⟨⟨h1,h2⟩,⟨h3,h4⟩,h5⟩:=this
  refine ⟨by unfold ptones;omega,by unfold ptones;omega,fun t ht=>?_,h1,h2⟩
  have h6:=h5 t ht
  simp only [badTone,liesB,Bool.not_eq_true,Bool.not_eq_false',Bool.and_eq_true,decide_eq_true_eq] at h6
  exact h6
theorem common_f {l0 l1:List Int} (h0:l0.length≤1000) (h1:l1.length≤1000):heard_common.f l0 l1=some (lcsP l0 l1):=by
  unfold heard_common.f;rw [if_pos h0,if_pos h1]
theorem common_ev {g:Int} {fs:List S85} {ps:List S62} (hff:FitForms fs) (hok:bookOk g fs ps=true) (i j:Nat) (hi:i<ps.length) (hj:j<ps.length):Ev (fun k=>heard_Common.f k g fs ps i j) (lcsP (ptones ps i) (ptones ps j),0):=by
  obtain ⟨h1,h2,h3⟩:=bookOk_ps hok
  have hc:=hcheck_ev g fs ps hff (by omega)
  rw [if_pos hok] at hc
  refine ev_map hc (fun k hk=>?_)
  have e2:wrap64 ((ps.length:Int) - 1)=(ps.length:Int) - 1:=w64 (by omega) (by omega)
  have p1:=bookOk_piece hok i hi
  have p2:=bookOk_piece hok j hj
  unfold heard_Common.f
  rw [hk,Option.bind_some,if_pos rfl,e2,lies_eq,lies_eq]
  have l1:liesB (i:Int) 0 ((ps.length:Int) - 1)=true:=by simp [liesB];omega
  have l2:liesB (j:Int) 0 ((ps.length:Int) - 1)=true:=by simp [liesB];omega
  rw [l1,l2]
  simp only [Option.bind_some,if_true]
  rw [if_pos (by omega),if_pos (by omega),if_pos (by omega),if_pos (by omega)]
  have:=common_f (l0:=ptones ps i) (l1:=ptones ps j) (by omega) (by omega)
  unfold ptones at this ⊢
  rw [this];rfl
/-- Are tones a piece, but for no more strokes than so many? -/
def wholeQ (ps:List S62) (tones:List Int) (lost:Int) (p:Nat):Bool:=(lcsP (ptones ps p) tones == (tones.length:Int)) && decide (((ptones ps p).length:Int) - tones.length≤lost)
theorem piecesWhole_eq (ps:List S62) (tones:List Int) (lost:Int) (ht:tones.length≤1000) (hp:∀ p,p<ps.length→(ptones ps p).length≤1000):∀ (c p:Nat),p+c≤ps.length→piecesWhole ps tones lost c p=some (idxL (wholeQ ps tones lost) c p)
  | 0,p,h=>rfl
  | c+1,p,h=>by
    unfold piecesWhole wholeB
    rw [common_f (hp p (by omega)) ht,Option.bind_some,Option.bind_some,piecesWhole_eq ps tones lost ht hp c (p+1) (by omega),Option.bind_some]
    rw [show idxL (wholeQ ps tones lost) (c+1) p=if wholeQ ps tones lost p=true then (p:Int) :: idxL (wholeQ ps tones lost) c (p+1) else idxL (wholeQ ps tones lost) c (p+1) from rfl]
    rw [show ((lcsP (ptones ps p) tones == (tones.length:Int)) && decide (((ptones ps p).length:Int) - tones.length≤lost))=wholeQ ps tones lost p from rfl]
theorem whole_ev {g:Int} {fs:List S85} {ps:List S62} (hff:FitForms fs) (hok:bookOk g fs ps=true) (tones:List Int) (lost:Int) (ht:areT tones 0=true) (hl:0≤lost∧lost≤6):Ev (fun k=>heard_Whole.f k g fs ps tones lost) (idxL (wholeQ ps tones lost) ps.length 0,0):=by
  obtain ⟨h1,h2,h3⟩:=bookOk_ps hok
  have hc:=hcheck_ev g fs ps hff (by omega)
  rw [if_pos hok] at hc
  refine ev_map hc (fun k hk=>?_)
  have ht2:=ht
  unfold areT at ht2
  simp only [Bool.and_eq_true,liesB,decide_eq_true_eq] at ht2
  unfold heard_Whole.f
  rw [hk,Option.bind_some,if_pos rfl,areT_eq,ht,Option.bind_some,if_pos rfl,if_pos (by simp [liesB];omega),if_pos (by omega),piecesWhole_eq ps tones lost (by omega) (fun p hp=>by have:=bookOk_piece hok p hp;omega) ps.length 0 (by omega)]
  rfl
end Go.Proofs.YthnilelmhpmanaaDoor.PHeardFits
end
