/- A part of the proof: contracts and laws. -/
import Derived.WalkMore
import Derived.Test.YthnilelmhpmanaaDoorWxq16
section
namespace Go.Proofs.YthnilelmhpmanaaDoor.PHeardFits
open Go.RowKit Go.Proofs.YthnilelmhpmanaaDoorW.PrintWords Go.Proofs.YthnilelmhpmanaaDoorW.PrintLast Go.Proofs.YthnilelmhpmanaaDoorW.PrintMore
open Go.Proofs.YthnilelmhpmanaaDoor.Hm
set_option linter.unusedVariables false
set_option linter.unusedSimpArgs false
theorem heard_book_fits.calls (k:Nat) (g:Int) (Af:Option Addr) (cf:Nat) (fs:List S85) (Ap:Option Addr) (cp:Nat) (ps:List S62) (pn:Nat) (At:Option Addr) (ct:Nat) (ts:List Int) (Ag:Option Addr) (cg:Nat) (gs:List Int) (lost wrong lo:Int) (r:Bool) (w:World) (hbk:BkC Af fs Ap ps At ts Ag gs w) (hcf:fs.length≤cf) (h:heard_book_fits.f k g fs ps pn ts gs lost wrong lo=some r) (hG:GlobIs w) :
    Calls Tryd.prog 59 #[bkv g Af cf fs Ap cp ps pn At ct ts Ag cg gs lost wrong,.int .i64 lo] w fun e w'=>e=.returned (.bool r)∧Below w.heap.size w w':=by
  unfold heard_book_fits.f at h
  split at h
  · rename_i hc
    obtain ⟨h0,h1,h2,h3⟩:=hc
    simp only [Option.some.injEq] at h
    subst h
    rw [Int.toNat_natCast] at h3 ⊢
    obtain ⟨lo,rfl⟩:∃ n:Nat,lo=n:=⟨lo.toNat,by omega⟩
    rw [Int.toNat_natCast]
    have hpn:=h3.1
    obtain ⟨ad,A1,c1',ep,_,hx1,hl1,hC1⟩:=at_T62 hbk.p (pn:Int) (by omega) (by omega)
    cases ep
    exact fits_call k h3 hcf lo (by omega) w hbk hG
  · simp at h
/-- Does each of the notes fit a piece, up to the first that does not? -/
def fitsAll (k:Nat) (g:Int) (fs:List S85) (ps:List S62) (p:Nat):List S30→Option Bool
  | []=>some true
  | n :: r=>(heard_book_fits.f k g fs ps p n.f0 n.f1 n.f2 n.f3 n.f2).bind fun b=>if b=true then fitsAll k g fs ps p r else some false
/-- The pieces that all of the notes fit. -/
def piecesAll (k:Nat) (g:Int) (fs:List S85) (ps:List S62) (l:List S30):Nat→Nat→Option (List Int)
  | 0,_=>some []
  | c+1,p=>(fitsAll k g fs ps p l).bind fun b=>(piecesAll k g fs ps l c (p+1)).bind fun r=>some (if b=true then (p:Int) :: r else r)
def heard_All.f (k:Nat) (g:Int) (fs:List S85) (ps:List S62) (l:List S30):Option (List Int×Int) :=
  (heard_Check.f k g fs ps).bind fun e=>if e=0 then (if liesB l.length 1 6=true then (allNotes k l).bind fun b=>if b=true then (if ps.length≤1000 then (piecesAll k g fs ps l ps.length 0).bind fun r=>some (r,0) else none) else some ([],91) else some ([],91)) else some ([],e)
theorem fitsAll_at {k:Nat} {g:Int} {fs:List S85} {ps:List S62} {p:Nat} {l:List S30} {b:Bool} {i:Nat} (hi:i<l.length) (h:fitsAll k g fs ps p (l.drop i)=some b):∃ x,heard_book_fits.f k g fs ps p (rd_T30 l i).f0 (rd_T30 l i).f1 (rd_T30 l i).f2 (rd_T30 l i).f3 (rd_T30 l i).f2=some x∧((x=true∧fitsAll k g fs ps p (l.drop (i+1))=some b)∨(x=false∧b=false)):=by
  rw [List.drop_eq_getElem_cons hi] at h
  have e:rd_T30 l (i:Int)=l[i]:=by simp [rd_T30,List.getD_eq_getElem?_getD,List.getElem?_eq_getElem hi]
  rw [← e] at h
  unfold fitsAll at h
  obtain ⟨x,hx,h⟩:=Option.bind_eq_some_iff.1 h
  refine ⟨x,hx,?_⟩
  cases x with
  | true=>exact .inl ⟨rfl,by simpa using h⟩
  | false=>exact .inr ⟨rfl,by simpa using h.symm⟩
set_option maxRecDepth 100000 in
theorem heard_All.calls_err (k:Nat) (a0_0:Int) (A0_1:Option Addr) (c0_1:Nat) (l0_1:List (S85)) (A0_2:Option Addr) (c0_2:Nat) (l0_2:List (S62)) (A1:Option Addr) (c1:Nat) (l1:List (S30)) (e0:Int) (hz:e0≠0) (w:World) (hr0_1:Kd.C k85 w A0_1 l0_1.length l0_1) (hc0_1:l0_1.length≤c0_1) (hr0_2:Kd.C k62 w A0_2 l0_2.length l0_2) (hc0_2:l0_2.length≤c0_2) (hr1:Kd.C k30 w A1 l1.length l1) (hc1:l1.length≤c1) (he0:heard_Check.f k a0_0 l0_1 l0_2=some e0) :
    Calls Tryd.prog 29 #[.agg #[.int .i64 a0_0,.slice A0_1 l0_1.length c0_1,.slice A0_2 l0_2.length c0_2],.slice A1 l1.length c1] w fun e w'=>∃ v0_:Value,e=.returned (.tuple #[v0_,.int .i64 e0])∧Kd.V (Kd.int .i64) 3 w' w.heap.size (fun k_=>(w.heap.size≤k_)) v0_ []∧Below w.heap.size w w':=by
  have hu94:=Tryd.underlying94
  have hu27:=Tryd.underlying27
  have hu24:=Tryd.underlying24
  have hu30:=Tryd.underlying30
  have HF:=Aside0.mk hr0_1
  have HP:=Aside0.mk hr0_2
  have HN:=Aside0.mk hr1
  have H1:=Aside0.mk hc0_1
  have H2:=Aside0.mk hc0_2
  clear hr0_1 hr0_2 hr1 hc0_1 hc0_2 hc1
  have hzb:(e0 != 0)=true:=by simpa using hz
  have HE:=Aside0.mk he0
  clear he0
  go_enter Tryd.func29,Tryd.ntmps29
  go_wp2_with fail
  have hb0:=below_alloc (Below.refl _ w) (Obj.cells #[.int .i64 a0_0,.slice A0_1 l0_1.length c0_1,.slice A0_2 l0_2.length c0_2] 27)
  have b2:=blk_new w (Obj.cells #[.int .i64 a0_0,.slice A0_1 l0_1.length c0_1,.slice A0_2 l0_2.length c0_2] 27)
  have z1:(w.alloc (Obj.cells #[.int .i64 a0_0,.slice A0_1 l0_1.length c0_1,.slice A0_2 l0_2.length c0_2] 27)).heap.size=w.heap.size+1:=by simp
  obtain ⟨w1,hw1⟩:∃ w1,w.alloc (Obj.cells #[.int .i64 a0_0,.slice A0_1 l0_1.length c0_1,.slice A0_2 l0_2.length c0_2] 27)=w1:=⟨_,rfl⟩
  rw [hw1] at b2 hb0 z1 ⊢
  clear hw1
  have y0:w1.cell? ⟨w.heap.size,0,none⟩=some (.int .i64 a0_0):=(blk_cell b2 0).trans rfl
  have y1:w1.cell? ⟨w.heap.size,1,none⟩=some (.slice A0_1 l0_1.length c0_1):=(blk_cell b2 1).trans rfl
  have y2:w1.cell? ⟨w.heap.size,2,none⟩=some (.slice A0_2 l0_2.length c0_2):=(blk_cell b2 2).trans rfl
  have HZ1:=Aside0.mk z1
  have HB0:=Aside0.mk hb0
  have HBK1:=Aside0.mk b2
  clear z1 hb0 b2
  go_step3
  go_wp2_with fail
  clear y0 y1 y2
  have z1:=HZ1.out
  have hb0:=HB0.out
  have b2:=HBK1.out
  clear HZ1 HB0 HBK1
  refine (heard_Check.calls k _ _ _ _ _ _ _ _ w1 (Kd.C_below HF.out hb0) H1.out (Kd.C_below HP.out hb0) H2.out HE.out).mono ?_
  rintro e w2 ⟨rfl,hb2⟩
  have HB2:=Aside0.mk (hb0.trans (hb2.mono hb0.size))
  replace b2:=(hb2.block w.heap.size (by omega)).trans b2
  clear hb2 hb0 b2 z1
  go_wp2_with fail
  rw [Exit.noGoto_ret]
  go_ret2
  exact ⟨_,rfl,Kd.V_nil _ _ _ _ _,HB2.out⟩
set_option maxRecDepth 100000 in
theorem heard_All.calls_lies (k:Nat) (a0_0:Int) (A0_1:Option Addr) (c0_1:Nat) (l0_1:List (S85)) (A0_2:Option Addr) (c0_2:Nat) (l0_2:List (S62)) (A1:Option Addr) (c1:Nat) (l1:List (S30)) (w:World) (hr0_1:Kd.C k85 w A0_1 l0_1.length l0_1) (hc0_1:l0_1.length≤c0_1) (hr0_2:Kd.C k62 w A0_2 l0_2.length l0_2) (hc0_2:l0_2.length≤c0_2) (hr1:Kd.C k30 w A1 l1.length l1) (hc1:l1.length≤c1) (he0:heard_Check.f k a0_0 l0_1 l0_2=some 0) (hl:liesB l1.length 1 6=false) :
    Calls Tryd.prog 29 #[.agg #[.int .i64 a0_0,.slice A0_1 l0_1.length c0_1,.slice A0_2 l0_2.length c0_2],.slice A1 l1.length c1] w fun e w'=>∃ v0_:Value,e=.returned (.tuple #[v0_,.int .i64 91])∧Kd.V (Kd.int .i64) 3 w' w.heap.size (fun k_=>(w.heap.size≤k_)) v0_ []∧Below w.heap.size w w':=by
  have hu94:=Tryd.underlying94
  have hu27:=Tryd.underlying27
  have hu24:=Tryd.underlying24
  have hu30:=Tryd.underlying30
  have HF:=Aside0.mk hr0_1
  have HP:=Aside0.mk hr0_2
  have HN:=Aside0.mk hr1
  have H1:=Aside0.mk hc0_1
  have H2:=Aside0.mk hc0_2
  clear hr0_1 hr0_2 hr1 hc0_1 hc0_2 hc1
  have HE:=Aside0.mk he0
  have HL:=Aside0.mk hl
  clear he0 hl
  go_enter Tryd.func29,Tryd.ntmps29
  go_wp2_with fail
  have hb0:=below_alloc (Below.refl _ w) (Obj.cells #[.int .i64 a0_0,.slice A0_1 l0_1.length c0_1,.slice A0_2 l0_2.length c0_2] 27)
  have b2:=blk_new w (Obj.cells #[.int .i64 a0_0,.slice A0_1 l0_1.length c0_1,.slice A0_2 l0_2.length c0_2] 27)
  have z1:(w.alloc (Obj.cells #[.int .i64 a0_0,.slice A0_1 l0_1.length c0_1,.slice A0_2 l0_2.length c0_2] 27)).heap.size=w.heap.size+1:=by simp
  obtain ⟨w1,hw1⟩:∃ w1,w.alloc (Obj.cells #[.int .i64 a0_0,.slice A0_1 l0_1.length c0_1,.slice A0_2 l0_2.length c0_2] 27)=w1:=⟨_,rfl⟩
  rw [hw1] at b2 hb0 z1 ⊢
  clear hw1
  have y0:w1.cell? ⟨w.heap.size,0,none⟩=some (.int .i64 a0_0):=(blk_cell b2 0).trans rfl
  have y1:w1.cell? ⟨w.heap.size,1,none⟩=some (.slice A0_1 l0_1.length c0_1):=(blk_cell b2 1).trans rfl
  have y2:w1.cell? ⟨w.heap.size,2,none⟩=some (.slice A0_2 l0_2.length c0_2):=(blk_cell b2 2).trans rfl
  have HZ1:=Aside0.mk z1
  have HB0:=Aside0.mk hb0
  have HBK1:=Aside0.mk b2
  clear z1 hb0 b2
  go_step3
  go_wp2_with fail
  clear y0 y1 y2
  have z1:=HZ1.out
  have hb0:=HB0.out
  have b2:=HBK1.out
  clear HZ1 HB0 HBK1
  refine (heard_Check.calls k _ _ _ _ _ _ _ _ w1 (Kd.C_below HF.out hb0) H1.out (Kd.C_below HP.out hb0) H2.out HE.out).mono ?_
  rintro e w2 ⟨rfl,hb2⟩
  have HB2:=Aside0.mk (hb0.trans (hb2.mono hb0.size))
  replace b2:=(hb2.block w.heap.size (by omega)).trans b2
  clear hb2 hb0 b2 z1
  go_wp2_with (first|(go_at_call 65;refine (lies_any _ _ _ _).mono ?_;rw [HL.out];rintro e w' ⟨rfl,⟨nd,rfl⟩⟩))
  rw [Exit.noGoto_ret]
  go_ret2
  exact ⟨_,rfl,Kd.V_nil _ _ _ _ _,pw_below_drewN HB2.out nd⟩
set_option maxRecDepth 100000 in
theorem heard_All.calls_note (k:Nat) (a0_0:Int) (A0_1:Option Addr) (c0_1:Nat) (l0_1:List (S85)) (A0_2:Option Addr) (c0_2:Nat) (l0_2:List (S62)) (A1:Option Addr) (c1:Nat) (l1:List (S30)) (w:World) (hr0_1:Kd.C k85 w A0_1 l0_1.length l0_1) (hc0_1:l0_1.length≤c0_1) (hr0_2:Kd.C k62 w A0_2 l0_2.length l0_2) (hc0_2:l0_2.length≤c0_2) (hr1:Kd.C k30 w A1 l1.length l1) (hc1:l1.length≤c1) (he0:heard_Check.f k a0_0 l0_1 l0_2=some 0) (hl:liesB l1.length 1 6=true) (hn:allNotes k l1=some false) :
    Calls Tryd.prog 29 #[.agg #[.int .i64 a0_0,.slice A0_1 l0_1.length c0_1,.slice A0_2 l0_2.length c0_2],.slice A1 l1.length c1] w fun e w'=>∃ v0_:Value,e=.returned (.tuple #[v0_,.int .i64 91])∧Kd.V (Kd.int .i64) 3 w' w.heap.size (fun k_=>(w.heap.size≤k_)) v0_ []∧Below w.heap.size w w':=by
  have hu94:=Tryd.underlying94
  have hu27:=Tryd.underlying27
  have hu24:=Tryd.underlying24
  have hu30:=Tryd.underlying30
  have HF:=Aside0.mk hr0_1
  have HP:=Aside0.mk hr0_2
  have HN:=Aside0.mk hr1
  have H1:=Aside0.mk hc0_1
  have H2:=Aside0.mk hc0_2
  clear hr0_1 hr0_2 hr1 hc0_1 hc0_2 hc1
  have HE:=Aside0.mk he0
  have HL:=Aside0.mk hl
  have HA:=Aside0.mk hn
  have hl6:l1.length≤1000:=by simp only [liesB,Bool.and_eq_true,decide_eq_true_eq] at hl;omega
  clear he0 hl hn
  go_enter Tryd.func29,Tryd.ntmps29
  go_wp2_with fail
  have hb0:=below_alloc (Below.refl _ w) (Obj.cells #[.int .i64 a0_0,.slice A0_1 l0_1.length c0_1,.slice A0_2 l0_2.length c0_2] 27)
  have b2:=blk_new w (Obj.cells #[.int .i64 a0_0,.slice A0_1 l0_1.length c0_1,.slice A0_2 l0_2.length c0_2] 27)
  have z1:(w.alloc (Obj.cells #[.int .i64 a0_0,.slice A0_1 l0_1.length c0_1,.slice A0_2 l0_2.length c0_2] 27)).heap.size=w.heap.size+1:=by simp
  obtain ⟨w1,hw1⟩:∃ w1,w.alloc (Obj.cells #[.int .i64 a0_0,.slice A0_1 l0_1.length c0_1,.slice A0_2 l0_2.length c0_2] 27)=w1:=⟨_,rfl⟩
  rw [hw1] at b2 hb0 z1 ⊢
  clear hw1
  have y0:w1.cell? ⟨w.heap.size,0,none⟩=some (.int .i64 a0_0):=(blk_cell b2 0).trans rfl
  have y1:w1.cell? ⟨w.heap.size,1,none⟩=some (.slice A0_1 l0_1.length c0_1):=(blk_cell b2 1).trans rfl
  have y2:w1.cell? ⟨w.heap.size,2,none⟩=some (.slice A0_2 l0_2.length c0_2):=(blk_cell b2 2).trans rfl
  have HZ1:=Aside0.mk z1
  have HB0:=Aside0.mk hb0
  have HBK1:=Aside0.mk b2
  clear z1 hb0 b2
  go_step3
  go_wp2_with fail
  clear y0 y1 y2
  have z1:=HZ1.out
  have hb0:=HB0.out
  have b2:=HBK1.out
  clear HZ1 HB0 HBK1
  refine (heard_Check.calls k _ _ _ _ _ _ _ _ w1 (Kd.C_below HF.out hb0) H1.out (Kd.C_below HP.out hb0) H2.out HE.out).mono ?_
  rintro e w2 ⟨rfl,hb2⟩
  have HB2:=Aside0.mk (hb0.trans (hb2.mono hb0.size))
  replace b2:=(hb2.block w.heap.size (by omega)).trans b2
  clear hb2 hb0 b2 z1
  go_wp2_with (first|(go_at_call 65;refine (lies_any _ _ _ _).mono ?_;rw [HL.out];rintro e w' ⟨rfl,⟨nd,rfl⟩⟩)|(go_at_call 75;refine (contains_notes k _ _ _ false _ (Kd.C_below HN.out (pw_below_drewN HB2.out nd)) hl6 HA.out).mono ?_;rintro e w4 ⟨rfl,hb4⟩;have HB4:=Aside0.mk ((pw_below_drewN HB2.out nd).trans (hb4.mono (pw_below_drewN HB2.out nd).size));clear hb4))
  rw [Exit.noGoto_ret]
  go_ret2
  exact ⟨_,rfl,Kd.V_nil _ _ _ _ _,HB4.out⟩
set_option maxRecDepth 100000 in
set_option maxHeartbeats 1000000 in
theorem heard_All.calls_ok (k:Nat) (a0_0:Int) (A0_1:Option Addr) (c0_1:Nat) (l0_1:List (S85)) (A0_2:Option Addr) (c0_2:Nat) (l0_2:List (S62)) (A1:Option Addr) (c1:Nat) (l1:List (S30)) (r1:List Int) (w:World) (hr0_1:Kd.C k85 w A0_1 l0_1.length l0_1) (hc0_1:l0_1.length≤c0_1) (hr0_2:Kd.C k62 w A0_2 l0_2.length l0_2) (hc0_2:l0_2.length≤c0_2) (hr1:Kd.C k30 w A1 l1.length l1) (hc1:l1.length≤c1) (he0:heard_Check.f k a0_0 l0_1 l0_2=some 0) (hl:liesB l1.length 1 6=true) (hn:allNotes k l1=some true) (hps:l0_2.length≤1000) (hr:piecesAll k a0_0 l0_1 l0_2 l1 l0_2.length 0=some r1) (hG:GlobIs w) :
    Calls Tryd.prog 29 #[.agg #[.int .i64 a0_0,.slice A0_1 l0_1.length c0_1,.slice A0_2 l0_2.length c0_2],.slice A1 l1.length c1] w fun e w'=>∃ v0_:Value,e=.returned (.tuple #[v0_,.int .i64 0])∧Kd.V (Kd.int .i64) 3 w' w.heap.size (fun k_=>(w.heap.size≤k_)) v0_ r1∧Below w.heap.size w w':=by
  have hu94:=Tryd.underlying94
  have hu27:=Tryd.underlying27
  have hu24:=Tryd.underlying24
  have hu30:=Tryd.underlying30
  have HF:=Aside0.mk hr0_1
  have HP:=Aside0.mk hr0_2
  have HN:=Aside0.mk hr1
  have H1:=Aside0.mk hc0_1
  have H2:=Aside0.mk hc0_2
  clear hr0_1 hr0_2 hr1 hc0_1 hc0_2 hc1
  have HE:=Aside0.mk he0
  have HL:=Aside0.mk hl
  have HA:=Aside0.mk hn
  have HR:=Aside0.mk hr
  have HG:=Aside0.mk hG
  have hl6:l1.length≤1000:=by simp only [liesB,Bool.and_eq_true,decide_eq_true_eq] at hl;omega
  clear he0 hl hn hr hG
  go_enter Tryd.func29,Tryd.ntmps29
  go_wp2_with fail
  have hb0:=below_alloc (Below.refl _ w) (Obj.cells #[.int .i64 a0_0,.slice A0_1 l0_1.length c0_1,.slice A0_2 l0_2.length c0_2] 27)
  have b2:=blk_new w (Obj.cells #[.int .i64 a0_0,.slice A0_1 l0_1.length c0_1,.slice A0_2 l0_2.length c0_2] 27)
  have z1:(w.alloc (Obj.cells #[.int .i64 a0_0,.slice A0_1 l0_1.length c0_1,.slice A0_2 l0_2.length c0_2] 27)).heap.size=w.heap.size+1:=by simp
  obtain ⟨w1,hw1⟩:∃ w1,w.alloc (Obj.cells #[.int .i64 a0_0,.slice A0_1 l0_1.length c0_1,.slice A0_2 l0_2.length c0_2] 27)=w1:=⟨_,rfl⟩
  rw [hw1] at b2 hb0 z1 ⊢
  clear hw1
  have y0:w1.cell? ⟨w.heap.size,0,none⟩=some (.int .i64 a0_0):=(blk_cell b2 0).trans rfl
  have y1:w1.cell? ⟨w.heap.size,1,none⟩=some (.slice A0_1 l0_1.length c0_1):=(blk_cell b2 1).trans rfl
  have y2:w1.cell? ⟨w.heap.size,2,none⟩=some (.slice A0_2 l0_2.length c0_2):=(blk_cell b2 2).trans rfl
  have HZ1:=Aside0.mk z1
  have HB0:=Aside0.mk hb0
  have HBK1:=Aside0.mk b2
  clear z1 hb0 b2
  go_step3
  go_wp2_with fail
  clear y0 y1 y2
  have z1:=HZ1.out
  have hb0:=HB0.out
  have b2:=HBK1.out
  clear HZ1 HB0 HBK1
  refine (heard_Check.calls k _ _ _ _ _ _ _ _ w1 (Kd.C_below HF.out hb0) H1.out (Kd.C_below HP.out hb0) H2.out HE.out).mono ?_
  rintro e w2 ⟨rfl,hb2⟩
  have HB2:=Aside0.mk (hb0.trans (hb2.mono hb0.size))
  replace b2:=(hb2.block w.heap.size (by omega)).trans b2
  have HBK:=Aside0.mk b2
  clear hb2 hb0 b2 z1
  go_wp2_with (first|(go_at_call 65;refine (lies_any _ _ _ _).mono ?_;rw [HL.out];rintro e w' ⟨rfl,⟨nd,rfl⟩⟩)|(go_at_call 75;refine (contains_notes k _ _ _ true _ (Kd.C_below HN.out (pw_below_drewN HB2.out nd)) hl6 HA.out).mono ?_;rintro e w4 ⟨rfl,hb4⟩;have HB4:=Aside0.mk ((pw_below_drewN HB2.out nd).trans (hb4.mono (pw_below_drewN HB2.out nd).size));have b4:=(hb4.block w.heap.size (blk_lt (blk_drewN HBK.out nd))).trans (blk_drewN HBK.out nd);have HK4:=Aside0.mk b4;have q2:w4.cell? ⟨w.heap.size,2,none⟩=some (.slice A0_2 l0_2.length c0_2):=(blk_cell b4 2).trans rfl;clear hb4 b4))
  clear HBK HB2
  go_step3
  go_wp2_with fail
  clear q2
  go_loopg [7,28] l0_2.length (fun gk v7 v28 w'=>∃ (p:Nat) (acc r':List Int),v28=.int .i64 p∧Aside0 (gk+p=l0_2.length)∧Aside0 (Kd.R (Kd.int .i64) 3 w' w4.heap.size (fun _=>True) v7 acc)∧Aside0 (acc.length≤p)∧Aside0 (piecesAll k a0_0 l0_1 l0_2 l1 gk p=some r'∧acc ++ r'=r1)∧Aside0 (Below w4.heap.size w4 w'))
  case atStart=>exact ⟨0,[],r1,rfl,⟨rfl⟩,⟨Kd.R_nil _ _ _ _ _⟩,⟨Nat.le_refl _⟩,⟨HR.out,rfl⟩,⟨Below.refl _ _⟩⟩
  case round =>
    clear HR
    obtain ⟨p,acc,r',rfl,HI,HO,HLA,HPA,HB⟩:=hrel
    have hi:=HI.out
    have c0:=kc HB.out ((blk_cell HK4.out 0).trans rfl)
    have c1':=kc HB.out ((blk_cell HK4.out 1).trans rfl)
    have c2:=kc HB.out ((blk_cell HK4.out 2).trans rfl)
    obtain ⟨A7,c7,hv7⟩:=Kd.R_slice HO.out
    subst hv7
    by_cases hlt:p<l0_2.length
    · obtain ⟨hpa,hacc⟩:=HPA.out
      rw [show gk=(gk - 1)+1 from by omega] at hpa
      unfold piecesAll at hpa
      obtain ⟨b,hb,hpa⟩:=Option.bind_eq_some_iff.1 hpa
      obtain ⟨r2,hr2,hpa⟩:=Option.bind_eq_some_iff.1 hpa
      simp only [Option.some.injEq] at hpa
      rw [show gk - 1=l0_2.length - (p+1) from by omega] at hr2
      have HFB:=Aside0.mk hb
      have HR2:=Aside0.mk hr2
      have HRR:=Aside0.mk (And.intro hpa hacc)
      have HC:=Aside0.mk (And.intro c0 (And.intro c1' c2))
      clear hb hr2 hpa hacc HPA
      go_wp2_with fail
      clear c0 c1' c2
      go_loopg [33] l1.length (fun gk v33 w'=>∃ i:Nat,v33=.int .i64 i∧Aside0 (gk+i=l1.length)∧Aside0 (fitsAll k a0_0 l0_1 l0_2 p (l1.drop i)=some b)∧Aside0 (Kd.R (Kd.int .i64) 3 w' w4.heap.size (fun _=>True) (.slice A7 acc.length c7) acc)∧Aside0 (Below w4.heap.size w4 w'))
      case atStart=>exact ⟨0,rfl,⟨rfl⟩,⟨by rw [List.drop_zero];exact HFB.out⟩,HO,HB⟩
      case round =>
        clear HC HO HB HFB
        obtain ⟨i,rfl,HII,HFA,HO,HB⟩:=hrel
        have hii:=HII.out
        have c0:=kc HB.out ((blk_cell HK4.out 0).trans rfl)
        have c1':=kc HB.out ((blk_cell HK4.out 1).trans rfl)
        have c2:=kc HB.out ((blk_cell HK4.out 2).trans rfl)
        have HBW:=Aside0.mk (HB4.out.trans (HB.out.mono HB4.out.size))
        have lz:w.heap.size<wr.heap.size:=Nat.lt_of_lt_of_le (blk_lt HK4.out) HB.out.size
        by_cases hlti:i<l1.length
        · obtain ⟨ad,A0,c0',A1',c1'',e1,x0,x1,x2,x3,g0,h0,g1,h1⟩:=at_T30 (Kd.C_below HN.out HBW.out) (i:Int) (by omega) (by omega)
          cases e1
          rw [Int.toNat_natCast] at x0 x1 x2 x3
          obtain ⟨x,hx,hx2⟩:=fitsAll_at hlti HFA.out
          have HX:=Aside0.mk hx
          have HX2:=Aside0.mk hx2
          have HBA:=Aside0.mk (HBW.out.alloc HBW.out.size (Obj.cells #[.slice A0 (rd_T30 l1 i).f0.length c0',.slice A1' (rd_T30 l1 i).f1.length c1'',.int .i64 (rd_T30 l1 i).f2,.int .i64 (rd_T30 l1 i).f3] 30))
          have HBAA:=Aside0.mk (HB.out.alloc HB.out.size (Obj.cells #[.slice A0 (rd_T30 l1 i).f0.length c0',.slice A1' (rd_T30 l1 i).f1.length c1'',.int .i64 (rd_T30 l1 i).f2,.int .i64 (rd_T30 l1 i).f3] 30))
          have HBC:Aside0 (BkC A0_1 l0_1 A0_2 l0_2 A0 (rd_T30 l1 i).f0 A1' (rd_T30 l1 i).f1 (wr.alloc (Obj.cells #[.slice A0 (rd_T30 l1 i).f0.length c0',.slice A1' (rd_T30 l1 i).f1.length c1'',.int .i64 (rd_T30 l1 i).f2,.int .i64 (rd_T30 l1 i).f3] 30))):=⟨⟨Kd.C_below HF.out HBA.out,Kd.C_below HP.out HBA.out,Kd.C_alloc h0 _,Kd.C_alloc h1 _⟩⟩
          clear hx hx2 h0 h1 g0 g1
          go_wp2_with fail
          refine (heard_book_fits.calls k _ _ _ _ _ _ _ p _ _ _ _ _ _ _ _ _ x _ HBC.out H1.out HX.out (HG.out.below HBA.out)).mono ?_
          rintro e w6 ⟨rfl,hb6⟩
          have HB6:=Aside0.mk (HBAA.out.trans (hb6.mono HBAA.out.size))
          have HO6:=Aside0.mk (Kd.R_below (Kd.R_alloc HO.out (Obj.cells #[.slice A0 (rd_T30 l1 i).f0.length c0',.slice A1' (rd_T30 l1 i).f1.length c1'',.int .i64 (rd_T30 l1 i).f2,.int .i64 (rd_T30 l1 i).f3] 30)) hb6)
          clear hb6 c0 c1' c2 x0 x1 x2 x3
          cases x with
          | true =>
            go_wp2_with fail
            go_roundg (gk - 1)
            case measure=>omega
            case rel=>exact ⟨i+1,by go_num,⟨by omega⟩,⟨HX2.out.elim (fun h=>h.2) (fun h=>absurd h.1 (by simp))⟩,HO6,HB6⟩
          | false =>
            go_wp2_with fail
            go_roundg (l0_2.length - (p+1))
            case measure=>omega
            case rel=>exact ⟨p+1,acc,r2,by go_num,⟨by omega⟩,HO6,⟨by have:=HLA.out;omega⟩,⟨HR2.out,by
              have hbf:b=false:=HX2.out.elim (fun h=>absurd h.1 (by simp)) (fun h=>h.2)
              have h9:=HRR.out
              rw [hbf,if_neg (by simp)] at h9
              rw [h9.1];exact h9.2⟩,HB6⟩
        · have hb1:b=true:=by
            have h9:=HFA.out
            rw [List.drop_eq_nil_of_le (by omega)] at h9
            simpa [fitsAll] using h9.symm
          have HB1:=Aside0.mk hb1
          have hlen:=HLA.out
          clear hb1 c0 c1' c2 lz
          go_wp2_with (first|(at_builtin;refine Kd.R_append (Kd.int .i64) (w0:=w4) w4.heap.size rfl (.tmp 48) (.tmp 50) 28 3 (.int .i64 0) 8 rfl Tryd.underlying28 info3 rfl (by decide) (by omega) (.slice A7 acc.length c7) acc (p:Int) [.int .i64 (p:Int)] (fun _=>True) (fun _=>False) rfl rfl ?aP (fun _ hk=>hk.elim) ?aF ?aO ?aB ?aS ?aL ?_;(case aP=>exact rfl);(case aB=>exact HB.out);(case aF=>exact (fun _ _=>trivial));(case aO=>exact HO.out);(case aS=>exact HB.out.size);(case aL=>omega);intro v4 w6 ho hb hg hat;have HO2:=Aside0.mk ho;have HB2:=Aside0.mk hb;clear ho hb hg hat))
          go_roundg (l0_2.length - (p+1))
          case measure=>omega
          case rel=>exact ⟨p+1,acc ++ [(p:Int)],r2,by go_num,⟨by omega⟩,HO2,⟨by simp;omega⟩,⟨HR2.out,by
              have h9:=HRR.out
              rw [HB1.out,if_pos rfl] at h9
              rw [← h9.2,← h9.1];simp⟩,HB2⟩
    · have hr1:acc=r1:=by
        obtain ⟨hpa,hacc⟩:=HPA.out
        rw [show gk=0 from by omega] at hpa
        simp only [piecesAll,Option.some.injEq] at hpa
        rw [← hacc,← hpa,List.append_nil]
      obtain ⟨-,hlc,hF⟩:=F_of_R HO.out
      have HFF:=Aside0.mk hF
      have HR1:=Aside0.mk hr1
      have HBF:=Aside0.mk (HB4.out.trans (HB.out.mono HB4.out.size))
      have HS:=Aside0.mk HB4.out.size
      clear hF hr1 c0 c1' c2
      go_wp2_with fail
      rw [Exit.noGoto_ret]
      go_ret2
      exact ⟨_,rfl,by rw [← HR1.out];exact Kd.V_mk (Nat.le_refl _) (Kd.F_mono HFF.out (fun k hk=>Nat.le_trans HS.out hk)),HBF.out⟩
theorem heard_All.calls (k:Nat) (a0_0:Int) (A0_1:Option Addr) (c0_1:Nat) (l0_1:List (S85)) (A0_2:Option Addr) (c0_2:Nat) (l0_2:List (S62)) (A1:Option Addr) (c1:Nat) (l1:List (S30)) (r1:List Int) (r2:Int) (w:World) (hr0_1:Kd.C k85 w A0_1 l0_1.length l0_1) (hc0_1:l0_1.length≤c0_1) (hr0_2:Kd.C k62 w A0_2 l0_2.length l0_2) (hc0_2:l0_2.length≤c0_2) (hr1:Kd.C k30 w A1 l1.length l1) (hc1:l1.length≤c1) (h:heard_All.f k a0_0 l0_1 l0_2 l1=some (r1,r2)) (hG:GlobIs w) :
    Calls Tryd.prog 29 #[.agg #[.int .i64 a0_0,.slice A0_1 l0_1.length c0_1,.slice A0_2 l0_2.length c0_2],.slice A1 l1.length c1] w fun e w'=>∃ v0_:Value,e=.returned (.tuple #[v0_,.int .i64 r2])∧Kd.V (Kd.int .i64) 3 w' w.heap.size (fun k_=>(w.heap.size≤k_)) v0_ r1∧Below w.heap.size w w':=by
  unfold heard_All.f at h
  obtain ⟨e0,he0,h⟩:=Option.bind_eq_some_iff.1 h
  by_cases hz:e0=0
  · subst hz
    rw [if_pos rfl] at h
    split at h
    · rename_i h2
      obtain ⟨b,hb,h⟩:=Option.bind_eq_some_iff.1 h
      cases b with
      | true =>
        rw [if_pos rfl] at h
        split at h
        · rename_i h4
          obtain ⟨x,hx,h⟩:=Option.bind_eq_some_iff.1 h
          simp only [Option.some.injEq,Prod.mk.injEq] at h
          obtain ⟨rfl,rfl⟩:=h
          exact heard_All.calls_ok k a0_0 A0_1 c0_1 l0_1 A0_2 c0_2 l0_2 A1 c1 l1 x w hr0_1 hc0_1 hr0_2 hc0_2 hr1 hc1 he0 h2 hb h4 hx hG
        · simp at h
      | false =>
        rw [if_neg (by simp)] at h
        simp only [Option.some.injEq,Prod.mk.injEq] at h
        obtain ⟨rfl,rfl⟩:=h
        exact heard_All.calls_note k a0_0 A0_1 c0_1 l0_1 A0_2 c0_2 l0_2 A1 c1 l1 w hr0_1 hc0_1 hr0_2 hc0_2 hr1 hc1 he0 h2 hb
    · rename_i h2
      simp only [Option.some.injEq,Prod.mk.injEq] at h
      obtain ⟨rfl,rfl⟩:=h
      exact heard_All.calls_lies k a0_0 A0_1 c0_1 l0_1 A0_2 c0_2 l0_2 A1 c1 l1 w hr0_1 hc0_1 hr0_2 hc0_2 hr1 hc1 he0 (by simpa using h2)
  · rw [if_neg hz] at h
    simp only [Option.some.injEq,Prod.mk.injEq] at h
    obtain ⟨rfl,rfl⟩:=h
    exact heard_All.calls_err k a0_0 A0_1 c0_1 l0_1 A0_2 c0_2 l0_2 A1 c1 l1 e0 hz w hr0_1 hc0_1 hr0_2 hc0_2 hr1 hc1 he0
end Go.Proofs.YthnilelmhpmanaaDoor.PHeardFits
end
section
namespace Go.Proofs.YthnilelmhpmanaaDoor.PHeardFits
open Go.RowKit Go.Proofs.YthnilelmhpmanaaDoorW.PrintWords Go.Proofs.YthnilelmhpmanaaDoorW.PrintLast Go.Proofs.YthnilelmhpmanaaDoorW.PrintMore
open Go.Proofs.YthnilelmhpmanaaDoor.Hm
set_option linter.unusedVariables false
set_option linter.unusedSimpArgs false
theorem add_zero_blk (g j:Nat):(⟨g,0,none⟩:Addr).add j=⟨g,j,none⟩:=by
  unfold Addr.add
  split
  · rename_i h;rw [h]
  · simp
/-- Whole numbers that lie in a block of their own can be read. -/
theorem C_block {w:World} {g:Nat} {l:List Int} (h:w.heap[g]?=some (.cells (l.map (Value.int .i64)).toArray 3 (0,0))) (hl:l.length≤1000):Kd.C (Kd.int .i64) w (some ⟨g,0,none⟩) l.length l:=by
  refine ⟨rfl,by omega,fun _=>⟨⟨g,0,none⟩,rfl,fun j p hj=>⟨[.int .i64 p],rfl,rfl,fun i u hu=>?_⟩⟩⟩
  have hi0:i=0:=by
    have:=(List.getElem?_eq_some_iff.1 hu).1
    simp at this;exact this
  subst hi0
  simp only [List.getElem?_cons_zero,Option.some.injEq] at hu
  subst hu
  have:=blk_cell h j
  rw [List.getElem?_toArray,List.getElem?_map,hj] at this
  show w.cell? ((⟨g,0,none⟩:Addr).add (j * 1+0))=_
  rw [add_zero_blk]
  simpa using this
/-- A note that lies in a block of its own can be read. -/
theorem C_note {w:World} {g:Nat} {n:S30} {cs:Array Value} (h:w.heap[g]?=some (.cells cs 30 (0,0))) (hk:k30.K w n cs.toList) (hs:cs.size=4):Kd.C k30 w (some ⟨g,0,none⟩) [n].length [n]:=by
  refine ⟨rfl,by simp,fun _=>⟨⟨g,0,none⟩,rfl,fun j p hj=>?_⟩⟩
  have hj0:j=0:=by
    have:=(List.getElem?_eq_some_iff.1 hj).1
    simp at this;exact this
  subst hj0
  simp only [List.getElem?_cons_zero,Option.some.injEq] at hj
  subst hj
  refine ⟨cs.toList,by rw [Array.length_toList,hs];rfl,hk,fun i u hu=>?_⟩
  have:=blk_cell h i
  rw [Array.getElem?_toList] at hu
  rw [hu] at this
  show w.cell? ((⟨g,0,none⟩:Addr).add (0 * 4+i))=_
  rw [add_zero_blk]
  simpa using this
def heard_Pieces.f (k:Nat) (g:Int) (fs:List S85) (ps:List S62) (ts gs:List Int) (lost wrong:Int):Option (List Int×Int):=heard_All.f k g fs ps [⟨ts,gs,lost,wrong⟩]
def heard_Begins.f (k:Nat) (g:Int) (fs:List S85) (ps:List S62) (piece:Int) (ts gs:List Int) (lost wrong:Int):Option (List Int×Int):=heard_Strokes.f k g fs ps piece ts gs lost wrong 0
set_option maxRecDepth 100000 in
theorem heard_Pieces.calls (k:Nat) (a0_0:Int) (A0_1:Option Addr) (c0_1:Nat) (l0_1:List (S85)) (A0_2:Option Addr) (c0_2:Nat) (l0_2:List (S62)) (A1_0:Option Addr) (c1_0:Nat) (l1_0:List Int) (A1_1:Option Addr) (c1_1:Nat) (l1_1:List Int) (a1_2:Int) (a1_3:Int) (r1:List Int) (r2:Int) (w:World) (hr0_1:Kd.C k85 w A0_1 l0_1.length l0_1) (hc0_1:l0_1.length≤c0_1) (hr0_2:Kd.C k62 w A0_2 l0_2.length l0_2) (hc0_2:l0_2.length≤c0_2) (hr1_0:Kd.C (Kd.int .i64) w A1_0 l1_0.length l1_0) (hc1_0:l1_0.length≤c1_0) (hr1_1:Kd.C (Kd.int .i64) w A1_1 l1_1.length l1_1) (hc1_1:l1_1.length≤c1_1) (h:heard_Pieces.f k a0_0 l0_1 l0_2 l1_0 l1_1 a1_2 a1_3=some (r1,r2)) (hG:GlobIs w) :
    Calls Tryd.prog 19 #[.agg #[.int .i64 a0_0,.slice A0_1 l0_1.length c0_1,.slice A0_2 l0_2.length c0_2],.agg #[.slice A1_0 l1_0.length c1_0,.slice A1_1 l1_1.length c1_1,.int .i64 a1_2,.int .i64 a1_3]] w fun e w'=>∃ v0_:Value,e=.returned (.tuple #[v0_,.int .i64 r2])∧Kd.V (Kd.int .i64) 3 w' w.heap.size (fun k_=>(w.heap.size≤k_)) v0_ r1∧Below w.heap.size w w':=by
  have hu27:=Tryd.underlying27
  have hu24:=Tryd.underlying24
  have hu30:=Tryd.underlying30
  have HF:=Aside0.mk hr0_1
  have HP:=Aside0.mk hr0_2
  have HN:=Aside0.mk hr1_0
  have HM:=Aside0.mk hr1_1
  have H1:=Aside0.mk hc0_1
  have H2:=Aside0.mk hc0_2
  have H3:=Aside0.mk hc1_0
  have H4:=Aside0.mk hc1_1
  have HG:=Aside0.mk hG
  have HH:=Aside0.mk h
  clear hr0_1 hr0_2 hr1_0 hr1_1 hc0_1 hc0_2 hc1_0 hc1_1 hG h
  go_enter Tryd.func19,Tryd.ntmps19
  go_wp2_with fail
  have hb:=(((below_alloc (Below.refl _ w) (Obj.cells #[.int .i64 a0_0,.slice A0_1 l0_1.length c0_1,.slice A0_2 l0_2.length c0_2] 27)).alloc (by simp) (Obj.cells #[.slice A1_0 l1_0.length c1_0,.slice A1_1 l1_1.length c1_1,.int .i64 a1_2,.int .i64 a1_3] 30)).alloc (by simp;omega) (Obj.cells #[.slice A1_0 l1_0.length c1_0,.slice A1_1 l1_1.length c1_1,.int .i64 a1_2,.int .i64 a1_3] 30))
  have b3:=blk_new ((w.alloc (Obj.cells #[.int .i64 a0_0,.slice A0_1 l0_1.length c0_1,.slice A0_2 l0_2.length c0_2] 27)).alloc (Obj.cells #[.slice A1_0 l1_0.length c1_0,.slice A1_1 l1_1.length c1_1,.int .i64 a1_2,.int .i64 a1_3] 30)) (Obj.cells #[.slice A1_0 l1_0.length c1_0,.slice A1_1 l1_1.length c1_1,.int .i64 a1_2,.int .i64 a1_3] 30)
  rw [World.size_alloc,World.size_alloc] at b3
  obtain ⟨w1,hw1⟩:∃ w1,((w.alloc (Obj.cells #[.int .i64 a0_0,.slice A0_1 l0_1.length c0_1,.slice A0_2 l0_2.length c0_2] 27)).alloc (Obj.cells #[.slice A1_0 l1_0.length c1_0,.slice A1_1 l1_1.length c1_1,.int .i64 a1_2,.int .i64 a1_3] 30)).alloc (Obj.cells #[.slice A1_0 l1_0.length c1_0,.slice A1_1 l1_1.length c1_1,.int .i64 a1_2,.int .i64 a1_3] 30)=w1:=⟨_,rfl⟩
  rw [hw1] at hb b3 ⊢
  clear hw1
  refine (heard_All.calls k _ _ _ l0_1 _ _ l0_2 _ _ [⟨l1_0,l1_1,a1_2,a1_3⟩] r1 r2 w1 (Kd.C_below HF.out hb) H1.out (Kd.C_below HP.out hb) H2.out (C_note b3 (k30_mk w1 ⟨l1_0,l1_1,a1_2,a1_3⟩ H3.out (Kd.C_below HN.out hb) H4.out (Kd.C_below HM.out hb)) rfl) (by simp) HH.out (HG.out.below hb)).mono ?_
  rintro e w2 ⟨v,rfl,hV,hb2⟩
  have HV:=Aside0.mk (Kd.V_mono (Kd.V_lower hV hb.size) (fun k hk=>Nat.le_trans hb.size hk))
  have HB:=Aside0.mk (hb.trans (hb2.mono hb.size))
  clear hb b3 hV hb2
  go_wp2_with fail
  go_ret2
  exact ⟨_,rfl,HV.out,HB.out⟩
set_option maxRecDepth 100000 in
theorem heard_Begins.calls (k:Nat) (a0_0:Int) (A0_1:Option Addr) (c0_1:Nat) (l0_1:List (S85)) (A0_2:Option Addr) (c0_2:Nat) (l0_2:List (S62)) (a1:Int) (A2_0:Option Addr) (c2_0:Nat) (l2_0:List Int) (A2_1:Option Addr) (c2_1:Nat) (l2_1:List Int) (a2_2:Int) (a2_3:Int) (r1:List Int) (r2:Int) (w:World) (hr0_1:Kd.C k85 w A0_1 l0_1.length l0_1) (hc0_1:l0_1.length≤c0_1) (hr0_2:Kd.C k62 w A0_2 l0_2.length l0_2) (hc0_2:l0_2.length≤c0_2) (hr2_0:Kd.C (Kd.int .i64) w A2_0 l2_0.length l2_0) (hc2_0:l2_0.length≤c2_0) (hr2_1:Kd.C (Kd.int .i64) w A2_1 l2_1.length l2_1) (hc2_1:l2_1.length≤c2_1) (h:heard_Begins.f k a0_0 l0_1 l0_2 a1 l2_0 l2_1 a2_2 a2_3=some (r1,r2)) (hG:GlobIs w) :
    Calls Tryd.prog 22 #[.agg #[.int .i64 a0_0,.slice A0_1 l0_1.length c0_1,.slice A0_2 l0_2.length c0_2],.int .i64 a1,.agg #[.slice A2_0 l2_0.length c2_0,.slice A2_1 l2_1.length c2_1,.int .i64 a2_2,.int .i64 a2_3]] w fun e w'=>∃ v0_:Value,e=.returned (.tuple #[v0_,.int .i64 r2])∧Kd.V (Kd.int .i64) 3 w' w.heap.size (fun k_=>(w.heap.size≤k_)) v0_ r1∧Below w.heap.size w w':=by
  have hu27:=Tryd.underlying27
  have hu24:=Tryd.underlying24
  have hu30:=Tryd.underlying30
  have HF:=Aside0.mk hr0_1
  have HP:=Aside0.mk hr0_2
  have HN:=Aside0.mk hr2_0
  have HM:=Aside0.mk hr2_1
  have H1:=Aside0.mk hc0_1
  have H2:=Aside0.mk hc0_2
  have H3:=Aside0.mk hc2_0
  have H4:=Aside0.mk hc2_1
  have HG:=Aside0.mk hG
  have HH:=Aside0.mk h
  clear hr0_1 hr0_2 hr2_0 hr2_1 hc0_1 hc0_2 hc2_0 hc2_1 hG h
  go_enter Tryd.func22,Tryd.ntmps22
  go_wp2_with fail
  have hb:=(below_alloc (Below.refl _ w) (Obj.cells #[.int .i64 a0_0,.slice A0_1 l0_1.length c0_1,.slice A0_2 l0_2.length c0_2] 27)).alloc (by simp) (Obj.cells #[.slice A2_0 l2_0.length c2_0,.slice A2_1 l2_1.length c2_1,.int .i64 a2_2,.int .i64 a2_3] 30)
  obtain ⟨w1,hw1⟩:∃ w1,(w.alloc (Obj.cells #[.int .i64 a0_0,.slice A0_1 l0_1.length c0_1,.slice A0_2 l0_2.length c0_2] 27)).alloc (Obj.cells #[.slice A2_0 l2_0.length c2_0,.slice A2_1 l2_1.length c2_1,.int .i64 a2_2,.int .i64 a2_3] 30)=w1:=⟨_,rfl⟩
  rw [hw1] at hb ⊢
  clear hw1
  refine (heard_Strokes.calls k _ _ _ l0_1 _ _ l0_2 a1 _ _ l2_0 _ _ l2_1 a2_2 a2_3 0 r1 r2 w1 (Kd.C_below HF.out hb) H1.out (Kd.C_below HP.out hb) H2.out (Kd.C_below HN.out hb) H3.out (Kd.C_below HM.out hb) H4.out HH.out (HG.out.below hb)).mono ?_
  rintro e w2 ⟨v,rfl,hV,hb2⟩
  have HV:=Aside0.mk (Kd.V_mono (Kd.V_lower hV hb.size) (fun k hk=>Nat.le_trans hb.size hk))
  have HB:=Aside0.mk (hb.trans (hb2.mono hb.size))
  clear hb hV hb2
  go_wp2_with fail
  go_ret2
  exact ⟨_,rfl,HV.out,HB.out⟩
set_option maxRecDepth 100000 in
theorem third_reads (A:Option Addr) (n c:Nat) (w:World) :
    Calls Tryd.prog 51 #[.slice A n c] w fun e w'=>(∃ A0:Option Addr,e=.returned (.agg #[.slice A0 2 2,.slice A n c,.int .i64 1,.int .i64 0])∧Kd.C (Kd.int .i64) w' A0 ([2,2]:List Int).length [2,2])∧Below w.heap.size w w':=by
  have hu30:=Tryd.underlying30
  go_enter Tryd.func51,Tryd.ntmps51
  go_wp2_with fail
  have hb:=(below_alloc (Below.refl _ w) (Obj.cells #[.slice (some ⟨w.heap.size+1,0,none⟩) 2 2,.slice A n c,.int .i64 1,.int .i64 0] 30)).alloc (by simp) (Obj.cells #[.int .i64 2,.int .i64 2] 3)
  have b1:=blk_alloc (blk_new w (Obj.cells #[.slice (some ⟨w.heap.size+1,0,none⟩) 2 2,.slice A n c,.int .i64 1,.int .i64 0] 30)) (Obj.cells #[.int .i64 2,.int .i64 2] 3)
  have b2:=blk_new (w.alloc (Obj.cells #[.slice (some ⟨w.heap.size+1,0,none⟩) 2 2,.slice A n c,.int .i64 1,.int .i64 0] 30)) (Obj.cells #[.int .i64 2,.int .i64 2] 3)
  rw [World.size_alloc] at b2
  obtain ⟨w1,hw1⟩:∃ w1,(w.alloc (Obj.cells #[.slice (some ⟨w.heap.size+1,0,none⟩) 2 2,.slice A n c,.int .i64 1,.int .i64 0] 30)).alloc (Obj.cells #[.int .i64 2,.int .i64 2] 3)=w1:=⟨_,rfl⟩
  rw [hw1] at hb b1 b2 ⊢
  clear hw1
  have c0:w1.cell? ⟨w.heap.size,0,none⟩=some (.slice (some ⟨w.heap.size+1,0,none⟩) 2 2):=(blk_cell b1 0).trans rfl
  have c1:w1.cell? ⟨w.heap.size,1,none⟩=some (.slice A n c):=(blk_cell b1 1).trans rfl
  have c2:w1.cell? ⟨w.heap.size,2,none⟩=some (.int .i64 1):=(blk_cell b1 2).trans rfl
  have c3:w1.cell? ⟨w.heap.size,3,none⟩=some (.int .i64 0):=(blk_cell b1 3).trans rfl
  exact bodyPost_ret (v:=.agg #[.slice (some ⟨w.heap.size+1,0,none⟩) 2 2,.slice A n c,.int .i64 1,.int .i64 0]) (by simp [results,Tryd.results51,go_sem,hu30,c0,c1,c2,c3]) rfl ⟨⟨_,rfl,C_block (l:=[2,2]) b2 (by simp)⟩,hb⟩
set_option maxRecDepth 100000 in
theorem first_reads (x y:Int) (w:World) :
    Calls Tryd.prog 52 #[.int .i64 x,.int .i64 y] w fun e w'=>(∃ A0:Option Addr,e=.returned (.agg #[.slice A0 3 3,.slice none 0 0,.int .i64 x,.int .i64 y])∧Kd.C (Kd.int .i64) w' A0 ([2,4,1]:List Int).length [2,4,1])∧Below w.heap.size w w':=by
  have hu30:=Tryd.underlying30
  go_enter Tryd.func52,Tryd.ntmps52
  go_wp2_with fail
  have hb:=(below_alloc (Below.refl _ w) (Obj.cells #[.slice (some ⟨w.heap.size+1,0,none⟩) 3 3,.slice none 0 0,.int .i64 x,.int .i64 y] 30)).alloc (by simp) (Obj.cells #[.int .i64 2,.int .i64 4,.int .i64 1] 3)
  have b1:=blk_alloc (blk_new w (Obj.cells #[.slice (some ⟨w.heap.size+1,0,none⟩) 3 3,.slice none 0 0,.int .i64 x,.int .i64 y] 30)) (Obj.cells #[.int .i64 2,.int .i64 4,.int .i64 1] 3)
  have b2:=blk_new (w.alloc (Obj.cells #[.slice (some ⟨w.heap.size+1,0,none⟩) 3 3,.slice none 0 0,.int .i64 x,.int .i64 y] 30)) (Obj.cells #[.int .i64 2,.int .i64 4,.int .i64 1] 3)
  rw [World.size_alloc] at b2
  obtain ⟨w1,hw1⟩:∃ w1,(w.alloc (Obj.cells #[.slice (some ⟨w.heap.size+1,0,none⟩) 3 3,.slice none 0 0,.int .i64 x,.int .i64 y] 30)).alloc (Obj.cells #[.int .i64 2,.int .i64 4,.int .i64 1] 3)=w1:=⟨_,rfl⟩
  rw [hw1] at hb b1 b2 ⊢
  clear hw1
  have c0:w1.cell? ⟨w.heap.size,0,none⟩=some (.slice (some ⟨w.heap.size+1,0,none⟩) 3 3):=(blk_cell b1 0).trans rfl
  have c1:w1.cell? ⟨w.heap.size,1,none⟩=some (.slice none 0 0):=(blk_cell b1 1).trans rfl
  have c2:w1.cell? ⟨w.heap.size,2,none⟩=some (.int .i64 x):=(blk_cell b1 2).trans rfl
  have c3:w1.cell? ⟨w.heap.size,3,none⟩=some (.int .i64 y):=(blk_cell b1 3).trans rfl
  exact bodyPost_ret (v:=.agg #[.slice (some ⟨w.heap.size+1,0,none⟩) 3 3,.slice none 0 0,.int .i64 x,.int .i64 y]) (by simp [results,Tryd.results52,go_sem,hu30,c0,c1,c2,c3]) rfl ⟨⟨_,rfl,C_block (l:=[2,4,1]) b2 (by simp)⟩,hb⟩
end Go.Proofs.YthnilelmhpmanaaDoor.PHeardFits
end
section
namespace Go.Proofs.YthnilelmhpmanaaDoor.PHeardFits
open Go.RowKit Go.Proofs.YthnilelmhpmanaaDoorW.PrintWords Go.Proofs.YthnilelmhpmanaaDoorW.PrintLast Go.Proofs.YthnilelmhpmanaaDoorW.PrintMore
open Go.Proofs.YthnilelmhpmanaaDoor.Hm
set_option linter.unusedVariables false
set_option linter.unusedSimpArgs false
/-- The forms and the pieces of the chapter's book. -/
def bkF:List S85:=[⟨8,[[7],[3,7],[0,2,4,6]]⟩,⟨4,[[3],[1],[0,2]]⟩]
def bkP:List S62:=[⟨1,[0,2,4,2,1,0]⟩,⟨0,[0,2,3,2,4,2,1]⟩,⟨1,[4,2,1,0,2]⟩]
theorem q1:heard_Pieces.f 50 3 bkF bkP [2,4,1] [] 0 1=some ([0,1],0):=by decide +kernel
theorem q2:heard_Pieces.f 50 3 bkF bkP [2,2] [1] 1 0=some ([0],0):=by decide +kernel
theorem q3:heard_Begins.f 50 3 bkF bkP 1 [2,2] [] 1 0=some ([1,3],0):=by decide +kernel
theorem q4:heard_Strokes.f 50 3 bkF bkP 1 [2,2] [] 1 0 1=some ([3,5],0):=by decide +kernel
theorem q5:heard_Least.f 50 3 bkF bkP 1 [0,4] [] 0 0=some (3,0):=by decide +kernel
theorem q6:heard_All.f 50 3 bkF bkP [⟨[2,4,1],[],1,0⟩,⟨[2,2],[],1,0⟩]=some ([0,1],0):=by decide +kernel
theorem q7:heard_Common.f 50 3 bkF bkP 0 1=some (5,0):=by decide +kernel
theorem q8:heard_Whole.f 50 3 bkF bkP [0,2,4,2,1] 1=some ([0],0):=by decide +kernel
theorem q9:heard_Known.f 50 3 bkF bkP=some (1,0):=by decide +kernel
theorem q10:heard_Fits.f 50 3 bkF bkP 0 [2,4,1] [] 1 0=some (true,0):=by decide +kernel
theorem eqq1:saronref00_Equal.f 50 [0,1] [0,1]=some true:=by decide +kernel
theorem eqq2:saronref00_Equal.f 50 [0] [0]=some true:=by decide +kernel
theorem eqq3:saronref00_Equal.f 50 [1,3] [1,3]=some true:=by decide +kernel
theorem eqq4:saronref00_Equal.f 50 [3,5] [3,5]=some true:=by decide +kernel
theorem book_reads (w:World):Calls Tryd.prog 50 #[] w fun e w'=>(∃ (A1:Option Addr) (c1:Nat) (A2:Option Addr) (c2:Nat),e=.returned (.agg #[.int .i64 3,.slice A1 bkF.length c1,.slice A2 bkP.length c2])∧bkF.length≤c1∧Kd.C k85 w' A1 bkF.length bkF∧bkP.length≤c2∧Kd.C k62 w' A2 bkP.length bkP)∧Below w.heap.size w w':=by
  refine (saronlaw09_book.calls 3 bkF bkP w rfl).mono ?_
  rintro e w' ⟨v1,v2,rfl,h1,h2,hb⟩
  obtain ⟨A1,c1,rfl⟩:=Kd.N_slice h1
  obtain ⟨A2,c2,rfl⟩:=Kd.N_slice h2
  exact ⟨⟨A1,c1,A2,c2,rfl,(Kd.N_reads' h1).2.1,(Kd.N_reads' h1).2.2,(Kd.N_reads' h2).2.1,(Kd.N_reads' h2).2.2⟩,hb⟩
/-- Two notes that lie in a block of their own can be read. -/
theorem C_notes2 {w:World} {g:Nat} {m n:S30} {cs ds:List Value} (h:w.heap[g]?=some (.cells (cs ++ ds).toArray 30 (0,0))) (hk:k30.K w m cs) (hk2:k30.K w n ds) (hs:cs.length=4) (hs2:ds.length=4):Kd.C k30 w (some ⟨g,0,none⟩) [m,n].length [m,n]:=by
  refine ⟨rfl,by simp,fun _=>⟨⟨g,0,none⟩,rfl,fun j p hj=>?_⟩⟩
  have hj2:j<2:=by
    have:=(List.getElem?_eq_some_iff.1 hj).1
    simpa using this
  have hj3:j=0∨j=1:=by omega
  rcases hj3 with rfl|rfl
  · simp only [List.getElem?_cons_zero,Option.some.injEq] at hj
    subst hj
    refine ⟨cs,hs,hk,fun i u hu=>?_⟩
    have hi:=(List.getElem?_eq_some_iff.1 hu).1
    have:=blk_cell h i
    rw [List.getElem?_toArray,List.getElem?_append_left hi,hu] at this
    show w.cell? ((⟨g,0,none⟩:Addr).add (0 * 4+i))=_
    rw [add_zero_blk]
    simpa using this
  · simp only [List.getElem?_cons_succ,List.getElem?_cons_zero,Option.some.injEq] at hj
    subst hj
    refine ⟨ds,hs2,hk2,fun i u hu=>?_⟩
    have hi:=(List.getElem?_eq_some_iff.1 hu).1
    have:=blk_cell h (4+i)
    rw [List.getElem?_toArray,List.getElem?_append_right (by omega),hs,show 4+i - 4=i from by omega,hu] at this
    show w.cell? ((⟨g,0,none⟩:Addr).add (1 * 4+i))=_
    rw [add_zero_blk]
    exact this
set_option maxRecDepth 100000 in
set_option maxHeartbeats 4000000 in
theorem listened_any (w:World) (hG:GlobIs w):Calls Tryd.prog 26 #[] w fun e w'=>e=.returned (.bool true)∧Below w.heap.size w w':=by
  have hu27:=Tryd.underlying27
  have hu24:=Tryd.underlying24
  have hu30:=Tryd.underlying30
  have HG:=Aside0.mk hG
  have HB:=Aside0.mk (Below.refl w.heap.size w)
  clear hG
  go_enter Tryd.func26,Tryd.ntmps26
  go_wp2_with fail
  refine (book_reads w).mono ?_
  rintro e w1 ⟨⟨A1,c1,A2,c2,rfl,e1,g1,e2,g2⟩,hb⟩
  replace HB:=Aside0.mk (HB.out.trans (hb.mono HB.out.size))
  clear hb
  have E1:=Aside0.mk e1
  have E2:=Aside0.mk e2
  have G1:=Aside0.mk g1
  have G2:=Aside0.mk g2
  clear e1 e2 g1 g2
  go_wp2_with fail
  refine (first_reads 0 1 w1).mono ?_
  rintro e w2 ⟨⟨AN1,rfl,g⟩,hb⟩
  replace G1:=Aside0.mk (Kd.C_below G1.out hb)
  replace G2:=Aside0.mk (Kd.C_below G2.out hb)
  replace HB:=Aside0.mk (HB.out.trans (hb.mono HB.out.size))
  clear hb
  have N1:=Aside0.mk g
  clear g
  go_wp2_with fail
  refine (heard_Pieces.calls 50 3 A1 c1 bkF A2 c2 bkP AN1 3 [2,4,1] none 0 [] 0 1 [0,1] 0 w2 G1.out E1.out G2.out E2.out N1.out (by simp) (Kd.C_nil _ _) (by simp) q1 (HG.out.below HB.out)).mono ?_
  rintro e w3 ⟨v,rfl,hV,hb⟩
  replace G1:=Aside0.mk (Kd.C_below G1.out hb)
  replace G2:=Aside0.mk (Kd.C_below G2.out hb)
  replace N1:=Aside0.mk (Kd.C_below N1.out hb)
  replace HB:=Aside0.mk (HB.out.trans (hb.mono HB.out.size))
  clear hb
  obtain ⟨AR1,cR1,rfl⟩:=Kd.V_slice hV
  have R1:=Aside0.mk (Kd.V_reads' hV).2.2
  have R1c:=Aside0.mk (Kd.V_reads' hV).2.1
  clear hV
  clear N1
  clear E1 E2 G1 G2
  go_wp2_with fail
  refine (book_reads w3).mono ?_
  rintro e w4 ⟨⟨A1,c1,A2,c2,rfl,e1,g1,e2,g2⟩,hb⟩
  replace R1:=Aside0.mk (Kd.C_below R1.out hb)
  replace HB:=Aside0.mk (HB.out.trans (hb.mono HB.out.size))
  clear hb
  have E1:=Aside0.mk e1
  have E2:=Aside0.mk e2
  have G1:=Aside0.mk g1
  have G2:=Aside0.mk g2
  clear e1 e2 g1 g2
  go_wp2_with fail
  obtain ⟨w5,hw5⟩:∃ w5,w4.alloc (Obj.cells #[.int .i64 1] 3)=w5:=⟨_,rfl⟩
  have hb:Below w4.heap.size w4 w5:=by rw [← hw5];exact below_alloc (Below.refl _ _) _
  have hk:w5.heap[w4.heap.size]?=some (.cells #[.int .i64 1] 3 (0,0)):=by rw [← hw5];exact blk_new _ _
  rw [hw5]
  clear hw5
  replace R1:=Aside0.mk (Kd.C_below R1.out hb)
  replace G1:=Aside0.mk (Kd.C_below G1.out hb)
  replace G2:=Aside0.mk (Kd.C_below G2.out hb)
  replace HB:=Aside0.mk (HB.out.trans (hb.mono HB.out.size))
  clear hb
  have M2:=Aside0.mk (C_block (l:=[1]) hk (by simp))
  clear hk
  refine (third_reads (some ⟨w4.heap.size,0,none⟩) 1 1 w5).mono ?_
  rintro e w6 ⟨⟨AN2,rfl,g⟩,hb⟩
  replace R1:=Aside0.mk (Kd.C_below R1.out hb)
  replace G1:=Aside0.mk (Kd.C_below G1.out hb)
  replace G2:=Aside0.mk (Kd.C_below G2.out hb)
  replace M2:=Aside0.mk (Kd.C_below M2.out hb)
  replace HB:=Aside0.mk (HB.out.trans (hb.mono HB.out.size))
  clear hb
  have N2:=Aside0.mk g
  clear g
  go_wp2_with fail
  refine (heard_Pieces.calls 50 3 A1 c1 bkF A2 c2 bkP AN2 2 [2,2] (some ⟨w4.heap.size,0,none⟩) 1 [1] 1 0 [0] 0 w6 G1.out E1.out G2.out E2.out N2.out (by simp) M2.out (by simp) q2 (HG.out.below HB.out)).mono ?_
  rintro e w7 ⟨v,rfl,hV,hb⟩
  replace R1:=Aside0.mk (Kd.C_below R1.out hb)
  replace G1:=Aside0.mk (Kd.C_below G1.out hb)
  replace G2:=Aside0.mk (Kd.C_below G2.out hb)
  replace M2:=Aside0.mk (Kd.C_below M2.out hb)
  replace N2:=Aside0.mk (Kd.C_below N2.out hb)
  replace HB:=Aside0.mk (HB.out.trans (hb.mono HB.out.size))
  clear hb
  obtain ⟨AR2,cR2,rfl⟩:=Kd.V_slice hV
  have R2:=Aside0.mk (Kd.V_reads' hV).2.2
  have R2c:=Aside0.mk (Kd.V_reads' hV).2.1
  clear hV
  clear N2
  clear M2
  clear E1 E2 G1 G2
  go_wp2_with fail
  refine (book_reads w7).mono ?_
  rintro e w8 ⟨⟨A1,c1,A2,c2,rfl,e1,g1,e2,g2⟩,hb⟩
  replace R1:=Aside0.mk (Kd.C_below R1.out hb)
  replace R2:=Aside0.mk (Kd.C_below R2.out hb)
  replace HB:=Aside0.mk (HB.out.trans (hb.mono HB.out.size))
  clear hb
  have E1:=Aside0.mk e1
  have E2:=Aside0.mk e2
  have G1:=Aside0.mk g1
  have G2:=Aside0.mk g2
  clear e1 e2 g1 g2
  go_wp2_with fail
  refine (third_reads none 0 0 w8).mono ?_
  rintro e w9 ⟨⟨AN3,rfl,g⟩,hb⟩
  replace R1:=Aside0.mk (Kd.C_below R1.out hb)
  replace R2:=Aside0.mk (Kd.C_below R2.out hb)
  replace G1:=Aside0.mk (Kd.C_below G1.out hb)
  replace G2:=Aside0.mk (Kd.C_below G2.out hb)
  replace HB:=Aside0.mk (HB.out.trans (hb.mono HB.out.size))
  clear hb
  have N3:=Aside0.mk g
  clear g
  go_wp2_with fail
  refine (heard_Begins.calls 50 3 A1 c1 bkF A2 c2 bkP 1 AN3 2 [2,2] none 0 [] 1 0 [1,3] 0 w9 G1.out E1.out G2.out E2.out N3.out (by simp) (Kd.C_nil _ _) (by simp) q3 (HG.out.below HB.out)).mono ?_
  rintro e w10 ⟨v,rfl,hV,hb⟩
  replace R1:=Aside0.mk (Kd.C_below R1.out hb)
  replace R2:=Aside0.mk (Kd.C_below R2.out hb)
  replace G1:=Aside0.mk (Kd.C_below G1.out hb)
  replace G2:=Aside0.mk (Kd.C_below G2.out hb)
  replace N3:=Aside0.mk (Kd.C_below N3.out hb)
  replace HB:=Aside0.mk (HB.out.trans (hb.mono HB.out.size))
  clear hb
  obtain ⟨AR3,cR3,rfl⟩:=Kd.V_slice hV
  have R3:=Aside0.mk (Kd.V_reads' hV).2.2
  have R3c:=Aside0.mk (Kd.V_reads' hV).2.1
  clear hV
  clear N3
  clear E1 E2 G1 G2
  go_wp2_with fail
  refine (book_reads w10).mono ?_
  rintro e w11 ⟨⟨A1,c1,A2,c2,rfl,e1,g1,e2,g2⟩,hb⟩
  replace R1:=Aside0.mk (Kd.C_below R1.out hb)
  replace R2:=Aside0.mk (Kd.C_below R2.out hb)
  replace R3:=Aside0.mk (Kd.C_below R3.out hb)
  replace HB:=Aside0.mk (HB.out.trans (hb.mono HB.out.size))
  clear hb
  have E1:=Aside0.mk e1
  have E2:=Aside0.mk e2
  have G1:=Aside0.mk g1
  have G2:=Aside0.mk g2
  clear e1 e2 g1 g2
  go_wp2_with fail
  refine (third_reads none 0 0 w11).mono ?_
  rintro e w12 ⟨⟨AN4,rfl,g⟩,hb⟩
  replace R1:=Aside0.mk (Kd.C_below R1.out hb)
  replace R2:=Aside0.mk (Kd.C_below R2.out hb)
  replace R3:=Aside0.mk (Kd.C_below R3.out hb)
  replace G1:=Aside0.mk (Kd.C_below G1.out hb)
  replace G2:=Aside0.mk (Kd.C_below G2.out hb)
  replace HB:=Aside0.mk (HB.out.trans (hb.mono HB.out.size))
  clear hb
  have N4:=Aside0.mk g
  clear g
  go_wp2_with fail
  refine (heard_Strokes.calls 50 3 A1 c1 bkF A2 c2 bkP 1 AN4 2 [2,2] none 0 [] 1 0 1 [3,5] 0 w12 G1.out E1.out G2.out E2.out N4.out (by simp) (Kd.C_nil _ _) (by simp) q4 (HG.out.below HB.out)).mono ?_
  rintro e w13 ⟨v,rfl,hV,hb⟩
  replace R1:=Aside0.mk (Kd.C_below R1.out hb)
  replace R2:=Aside0.mk (Kd.C_below R2.out hb)
  replace R3:=Aside0.mk (Kd.C_below R3.out hb)
  replace G1:=Aside0.mk (Kd.C_below G1.out hb)
  replace G2:=Aside0.mk (Kd.C_below G2.out hb)
  replace N4:=Aside0.mk (Kd.C_below N4.out hb)
  replace HB:=Aside0.mk (HB.out.trans (hb.mono HB.out.size))
  clear hb
  obtain ⟨AR4,cR4,rfl⟩:=Kd.V_slice hV
  have R4:=Aside0.mk (Kd.V_reads' hV).2.2
  have R4c:=Aside0.mk (Kd.V_reads' hV).2.1
  clear hV
  clear N4
  clear E1 E2 G1 G2
  go_wp2_with fail
  obtain ⟨w14,hw14⟩:∃ w14,w13.alloc (Obj.cells #[.int .i64 0,.int .i64 1] 3)=w14:=⟨_,rfl⟩
  have hb:Below w13.heap.size w13 w14:=by rw [← hw14];exact below_alloc (Below.refl _ _) _
  have hk:w14.heap[w13.heap.size]?=some (.cells #[.int .i64 0,.int .i64 1] 3 (0,0)):=by rw [← hw14];exact blk_new _ _
  rw [hw14]
  clear hw14
  replace R1:=Aside0.mk (Kd.C_below R1.out hb)
  replace R2:=Aside0.mk (Kd.C_below R2.out hb)
  replace R3:=Aside0.mk (Kd.C_below R3.out hb)
  replace R4:=Aside0.mk (Kd.C_below R4.out hb)
  replace HB:=Aside0.mk (HB.out.trans (hb.mono HB.out.size))
  clear hb
  have BL:=Aside0.mk (C_block (l:=[0,1]) hk (by simp))
  clear hk
  refine (saronref00_Equal.calls 50 AR1 cR1 [0,1] (some ⟨w13.heap.size,0,none⟩) 2 [0,1] true w14 R1.out R1c.out BL.out (by simp) eqq1).mono ?_
  rintro e w' ⟨rfl,⟨nd,rfl⟩⟩
  obtain ⟨w15,hw15⟩:∃ w15,w14.drewN nd=w15:=⟨_,rfl⟩
  have hb:Below w14.heap.size w14 w15:=by rw [← hw15];exact pw_below_drewN (Below.refl _ _) _
  rw [hw15]
  clear hw15
  replace R1:=Aside0.mk (Kd.C_below R1.out hb)
  replace R2:=Aside0.mk (Kd.C_below R2.out hb)
  replace R3:=Aside0.mk (Kd.C_below R3.out hb)
  replace R4:=Aside0.mk (Kd.C_below R4.out hb)
  replace BL:=Aside0.mk (Kd.C_below BL.out hb)
  replace HB:=Aside0.mk (HB.out.trans (hb.mono HB.out.size))
  clear hb
  clear BL
  go_wp2_with fail
  obtain ⟨w16,hw16⟩:∃ w16,w15.alloc (Obj.cells #[.int .i64 0] 3)=w16:=⟨_,rfl⟩
  have hb:Below w15.heap.size w15 w16:=by rw [← hw16];exact below_alloc (Below.refl _ _) _
  have hk:w16.heap[w15.heap.size]?=some (.cells #[.int .i64 0] 3 (0,0)):=by rw [← hw16];exact blk_new _ _
  rw [hw16]
  clear hw16
  replace R1:=Aside0.mk (Kd.C_below R1.out hb)
  replace R2:=Aside0.mk (Kd.C_below R2.out hb)
  replace R3:=Aside0.mk (Kd.C_below R3.out hb)
  replace R4:=Aside0.mk (Kd.C_below R4.out hb)
  replace HB:=Aside0.mk (HB.out.trans (hb.mono HB.out.size))
  clear hb
  have BL:=Aside0.mk (C_block (l:=[0]) hk (by simp))
  clear hk
  refine (saronref00_Equal.calls 50 AR2 cR2 [0] (some ⟨w15.heap.size,0,none⟩) 1 [0] true w16 R2.out R2c.out BL.out (by simp) eqq2).mono ?_
  rintro e w' ⟨rfl,⟨nd,rfl⟩⟩
  obtain ⟨w17,hw17⟩:∃ w17,w16.drewN nd=w17:=⟨_,rfl⟩
  have hb:Below w16.heap.size w16 w17:=by rw [← hw17];exact pw_below_drewN (Below.refl _ _) _
  rw [hw17]
  clear hw17
  replace R1:=Aside0.mk (Kd.C_below R1.out hb)
  replace R2:=Aside0.mk (Kd.C_below R2.out hb)
  replace R3:=Aside0.mk (Kd.C_below R3.out hb)
  replace R4:=Aside0.mk (Kd.C_below R4.out hb)
  replace BL:=Aside0.mk (Kd.C_below BL.out hb)
  replace HB:=Aside0.mk (HB.out.trans (hb.mono HB.out.size))
  clear hb
  clear BL
  go_wp2_with fail
  obtain ⟨w18,hw18⟩:∃ w18,w17.alloc (Obj.cells #[.int .i64 1,.int .i64 3] 3)=w18:=⟨_,rfl⟩
  have hb:Below w17.heap.size w17 w18:=by rw [← hw18];exact below_alloc (Below.refl _ _) _
  have hk:w18.heap[w17.heap.size]?=some (.cells #[.int .i64 1,.int .i64 3] 3 (0,0)):=by rw [← hw18];exact blk_new _ _
  rw [hw18]
  clear hw18
  replace R1:=Aside0.mk (Kd.C_below R1.out hb)
  replace R2:=Aside0.mk (Kd.C_below R2.out hb)
  replace R3:=Aside0.mk (Kd.C_below R3.out hb)
  replace R4:=Aside0.mk (Kd.C_below R4.out hb)
  replace HB:=Aside0.mk (HB.out.trans (hb.mono HB.out.size))
  clear hb
  have BL:=Aside0.mk (C_block (l:=[1,3]) hk (by simp))
  clear hk
  refine (saronref00_Equal.calls 50 AR3 cR3 [1,3] (some ⟨w17.heap.size,0,none⟩) 2 [1,3] true w18 R3.out R3c.out BL.out (by simp) eqq3).mono ?_
  rintro e w' ⟨rfl,⟨nd,rfl⟩⟩
  obtain ⟨w19,hw19⟩:∃ w19,w18.drewN nd=w19:=⟨_,rfl⟩
  have hb:Below w18.heap.size w18 w19:=by rw [← hw19];exact pw_below_drewN (Below.refl _ _) _
  rw [hw19]
  clear hw19
  replace R1:=Aside0.mk (Kd.C_below R1.out hb)
  replace R2:=Aside0.mk (Kd.C_below R2.out hb)
  replace R3:=Aside0.mk (Kd.C_below R3.out hb)
  replace R4:=Aside0.mk (Kd.C_below R4.out hb)
  replace BL:=Aside0.mk (Kd.C_below BL.out hb)
  replace HB:=Aside0.mk (HB.out.trans (hb.mono HB.out.size))
  clear hb
  clear BL
  go_wp2_with fail
  obtain ⟨w20,hw20⟩:∃ w20,w19.alloc (Obj.cells #[.int .i64 3,.int .i64 5] 3)=w20:=⟨_,rfl⟩
  have hb:Below w19.heap.size w19 w20:=by rw [← hw20];exact below_alloc (Below.refl _ _) _
  have hk:w20.heap[w19.heap.size]?=some (.cells #[.int .i64 3,.int .i64 5] 3 (0,0)):=by rw [← hw20];exact blk_new _ _
  rw [hw20]
  clear hw20
  replace R1:=Aside0.mk (Kd.C_below R1.out hb)
  replace R2:=Aside0.mk (Kd.C_below R2.out hb)
  replace R3:=Aside0.mk (Kd.C_below R3.out hb)
  replace R4:=Aside0.mk (Kd.C_below R4.out hb)
  replace HB:=Aside0.mk (HB.out.trans (hb.mono HB.out.size))
  clear hb
  have BL:=Aside0.mk (C_block (l:=[3,5]) hk (by simp))
  clear hk
  refine (saronref00_Equal.calls 50 AR4 cR4 [3,5] (some ⟨w19.heap.size,0,none⟩) 2 [3,5] true w20 R4.out R4c.out BL.out (by simp) eqq4).mono ?_
  rintro e w' ⟨rfl,⟨nd,rfl⟩⟩
  obtain ⟨w21,hw21⟩:∃ w21,w20.drewN nd=w21:=⟨_,rfl⟩
  have hb:Below w20.heap.size w20 w21:=by rw [← hw21];exact pw_below_drewN (Below.refl _ _) _
  rw [hw21]
  clear hw21
  replace R1:=Aside0.mk (Kd.C_below R1.out hb)
  replace R2:=Aside0.mk (Kd.C_below R2.out hb)
  replace R3:=Aside0.mk (Kd.C_below R3.out hb)
  replace R4:=Aside0.mk (Kd.C_below R4.out hb)
  replace BL:=Aside0.mk (Kd.C_below BL.out hb)
  replace HB:=Aside0.mk (HB.out.trans (hb.mono HB.out.size))
  clear hb
  clear BL
  clear R1
  clear R2
  clear R3
  clear R4
  go_wp2_with fail
  refine (book_reads w21).mono ?_
  rintro e w22 ⟨⟨A1,c1,A2,c2,rfl,e1,g1,e2,g2⟩,hb⟩
  replace HB:=Aside0.mk (HB.out.trans (hb.mono HB.out.size))
  clear hb
  have E1:=Aside0.mk e1
  have E2:=Aside0.mk e2
  have G1:=Aside0.mk g1
  have G2:=Aside0.mk g2
  clear e1 e2 g1 g2
  go_wp2_with fail
  obtain ⟨w23,hw23⟩:∃ w23,w22.alloc (Obj.cells #[.int .i64 0,.int .i64 4] 3)=w23:=⟨_,rfl⟩
  have hb:Below w22.heap.size w22 w23:=by rw [← hw23];exact below_alloc (Below.refl _ _) _
  have hk:w23.heap[w22.heap.size]?=some (.cells #[.int .i64 0,.int .i64 4] 3 (0,0)):=by rw [← hw23];exact blk_new _ _
  rw [hw23]
  clear hw23
  replace G1:=Aside0.mk (Kd.C_below G1.out hb)
  replace G2:=Aside0.mk (Kd.C_below G2.out hb)
  replace HB:=Aside0.mk (HB.out.trans (hb.mono HB.out.size))
  clear hb
  have M5:=Aside0.mk (C_block (l:=[0,4]) hk (by simp))
  clear hk
  refine (heard_Least.calls 50 3 A1 c1 bkF A2 c2 bkP 1 (some ⟨w22.heap.size,0,none⟩) 2 [0,4] none 0 [] 0 0 3 0 w23 G1.out E1.out G2.out E2.out M5.out (by simp) (Kd.C_nil _ _) (by simp) q5 (HG.out.below HB.out)).mono ?_
  rintro e w24 ⟨rfl,hb⟩
  replace G1:=Aside0.mk (Kd.C_below G1.out hb)
  replace G2:=Aside0.mk (Kd.C_below G2.out hb)
  replace M5:=Aside0.mk (Kd.C_below M5.out hb)
  replace HB:=Aside0.mk (HB.out.trans (hb.mono HB.out.size))
  clear hb
  clear M5
  clear E1 E2 G1 G2
  go_wp2_with fail
  refine (book_reads w24).mono ?_
  rintro e w25 ⟨⟨A1,c1,A2,c2,rfl,e1,g1,e2,g2⟩,hb⟩
  replace HB:=Aside0.mk (HB.out.trans (hb.mono HB.out.size))
  clear hb
  have E1:=Aside0.mk e1
  have E2:=Aside0.mk e2
  have G1:=Aside0.mk g1
  have G2:=Aside0.mk g2
  clear e1 e2 g1 g2
  go_wp2_with fail
  refine (first_reads 1 0 w25).mono ?_
  rintro e w26 ⟨⟨AN6,rfl,g⟩,hb⟩
  replace G1:=Aside0.mk (Kd.C_below G1.out hb)
  replace G2:=Aside0.mk (Kd.C_below G2.out hb)
  replace HB:=Aside0.mk (HB.out.trans (hb.mono HB.out.size))
  clear hb
  have N6:=Aside0.mk g
  clear g
  go_wp2_with fail
  refine (third_reads none 0 0 w26).mono ?_
  rintro e w27 ⟨⟨AN7,rfl,g⟩,hb⟩
  replace G1:=Aside0.mk (Kd.C_below G1.out hb)
  replace G2:=Aside0.mk (Kd.C_below G2.out hb)
  replace N6:=Aside0.mk (Kd.C_below N6.out hb)
  replace HB:=Aside0.mk (HB.out.trans (hb.mono HB.out.size))
  clear hb
  have N7:=Aside0.mk g
  clear g
  go_wp2_with fail
  obtain ⟨w28,hw28⟩:∃ w28,w27.alloc (Obj.cells #[.slice AN6 3 3,.slice none 0 0,.int .i64 1,.int .i64 0,.slice AN7 2 2,.slice none 0 0,.int .i64 1,.int .i64 0] 30)=w28:=⟨_,rfl⟩
  have hb:Below w27.heap.size w27 w28:=by rw [← hw28];exact below_alloc (Below.refl _ _) _
  have hk:w28.heap[w27.heap.size]?=some (.cells #[.slice AN6 3 3,.slice none 0 0,.int .i64 1,.int .i64 0,.slice AN7 2 2,.slice none 0 0,.int .i64 1,.int .i64 0] 30 (0,0)):=by rw [← hw28];exact blk_new _ _
  rw [hw28]
  clear hw28
  replace G1:=Aside0.mk (Kd.C_below G1.out hb)
  replace G2:=Aside0.mk (Kd.C_below G2.out hb)
  replace N6:=Aside0.mk (Kd.C_below N6.out hb)
  replace N7:=Aside0.mk (Kd.C_below N7.out hb)
  replace HB:=Aside0.mk (HB.out.trans (hb.mono HB.out.size))
  clear hb
  have M6:=Aside0.mk (C_notes2 (cs:=[.slice AN6 3 3,.slice none 0 0,.int .i64 1,.int .i64 0]) (ds:=[.slice AN7 2 2,.slice none 0 0,.int .i64 1,.int .i64 0]) hk (k30_mk _ ⟨[2,4,1],[],1,0⟩ (by simp) N6.out (by simp) (Kd.C_nil _ _)) (k30_mk _ ⟨[2,2],[],1,0⟩ (by simp) N7.out (by simp) (Kd.C_nil _ _)) rfl rfl)
  clear hk
  refine (heard_All.calls 50 3 A1 c1 bkF A2 c2 bkP (some ⟨w27.heap.size,0,none⟩) 2 [⟨[2,4,1],[],1,0⟩,⟨[2,2],[],1,0⟩] [0,1] 0 w28 G1.out E1.out G2.out E2.out M6.out (by simp) q6 (HG.out.below HB.out)).mono ?_
  rintro e w29 ⟨v,rfl,hV,hb⟩
  replace G1:=Aside0.mk (Kd.C_below G1.out hb)
  replace G2:=Aside0.mk (Kd.C_below G2.out hb)
  replace N6:=Aside0.mk (Kd.C_below N6.out hb)
  replace N7:=Aside0.mk (Kd.C_below N7.out hb)
  replace M6:=Aside0.mk (Kd.C_below M6.out hb)
  replace HB:=Aside0.mk (HB.out.trans (hb.mono HB.out.size))
  clear hb
  obtain ⟨AR6,cR6,rfl⟩:=Kd.V_slice hV
  have R6:=Aside0.mk (Kd.V_reads' hV).2.2
  have R6c:=Aside0.mk (Kd.V_reads' hV).2.1
  clear hV
  clear N6
  clear N7
  clear M6
  clear E1 E2 G1 G2
  go_wp2_with fail
  refine (book_reads w29).mono ?_
  rintro e w30 ⟨⟨A1,c1,A2,c2,rfl,e1,g1,e2,g2⟩,hb⟩
  replace R6:=Aside0.mk (Kd.C_below R6.out hb)
  replace HB:=Aside0.mk (HB.out.trans (hb.mono HB.out.size))
  clear hb
  have E1:=Aside0.mk e1
  have E2:=Aside0.mk e2
  have G1:=Aside0.mk g1
  have G2:=Aside0.mk g2
  clear e1 e2 g1 g2
  go_wp2_with fail
  refine (heard_Common.calls 50 3 A1 c1 bkF A2 c2 bkP 0 1 5 0 w30 G1.out E1.out G2.out E2.out q7).mono ?_
  rintro e w31 ⟨rfl,hb⟩
  replace R6:=Aside0.mk (Kd.C_below R6.out hb)
  replace G1:=Aside0.mk (Kd.C_below G1.out hb)
  replace G2:=Aside0.mk (Kd.C_below G2.out hb)
  replace HB:=Aside0.mk (HB.out.trans (hb.mono HB.out.size))
  clear hb
  clear E1 E2 G1 G2
  go_wp2_with fail
  refine (book_reads w31).mono ?_
  rintro e w32 ⟨⟨A1,c1,A2,c2,rfl,e1,g1,e2,g2⟩,hb⟩
  replace R6:=Aside0.mk (Kd.C_below R6.out hb)
  replace HB:=Aside0.mk (HB.out.trans (hb.mono HB.out.size))
  clear hb
  have E1:=Aside0.mk e1
  have E2:=Aside0.mk e2
  have G1:=Aside0.mk g1
  have G2:=Aside0.mk g2
  clear e1 e2 g1 g2
  go_wp2_with fail
  obtain ⟨w33,hw33⟩:∃ w33,w32.alloc (Obj.cells #[.int .i64 0,.int .i64 2,.int .i64 4,.int .i64 2,.int .i64 1] 3)=w33:=⟨_,rfl⟩
  have hb:Below w32.heap.size w32 w33:=by rw [← hw33];exact below_alloc (Below.refl _ _) _
  have hk:w33.heap[w32.heap.size]?=some (.cells #[.int .i64 0,.int .i64 2,.int .i64 4,.int .i64 2,.int .i64 1] 3 (0,0)):=by rw [← hw33];exact blk_new _ _
  rw [hw33]
  clear hw33
  replace R6:=Aside0.mk (Kd.C_below R6.out hb)
  replace G1:=Aside0.mk (Kd.C_below G1.out hb)
  replace G2:=Aside0.mk (Kd.C_below G2.out hb)
  replace HB:=Aside0.mk (HB.out.trans (hb.mono HB.out.size))
  clear hb
  have M8:=Aside0.mk (C_block (l:=[0,2,4,2,1]) hk (by simp))
  clear hk
  refine (heard_Whole.calls 50 3 A1 c1 bkF A2 c2 bkP (some ⟨w32.heap.size,0,none⟩) 5 [0,2,4,2,1] 1 [0] 0 w33 G1.out E1.out G2.out E2.out M8.out (by simp) q8).mono ?_
  rintro e w34 ⟨v,rfl,hV,hb⟩
  replace R6:=Aside0.mk (Kd.C_below R6.out hb)
  replace G1:=Aside0.mk (Kd.C_below G1.out hb)
  replace G2:=Aside0.mk (Kd.C_below G2.out hb)
  replace M8:=Aside0.mk (Kd.C_below M8.out hb)
  replace HB:=Aside0.mk (HB.out.trans (hb.mono HB.out.size))
  clear hb
  obtain ⟨AR8,cR8,rfl⟩:=Kd.V_slice hV
  have R8:=Aside0.mk (Kd.V_reads' hV).2.2
  have R8c:=Aside0.mk (Kd.V_reads' hV).2.1
  clear hV
  clear M8
  clear E1 E2 G1 G2
  go_wp2_with fail
  refine (book_reads w34).mono ?_
  rintro e w35 ⟨⟨A1,c1,A2,c2,rfl,e1,g1,e2,g2⟩,hb⟩
  replace R6:=Aside0.mk (Kd.C_below R6.out hb)
  replace R8:=Aside0.mk (Kd.C_below R8.out hb)
  replace HB:=Aside0.mk (HB.out.trans (hb.mono HB.out.size))
  clear hb
  have E1:=Aside0.mk e1
  have E2:=Aside0.mk e2
  have G1:=Aside0.mk g1
  have G2:=Aside0.mk g2
  clear e1 e2 g1 g2
  go_wp2_with fail
  refine (heard_Known.calls 50 3 A1 c1 bkF A2 c2 bkP 1 0 w35 G1.out E1.out G2.out E2.out q9).mono ?_
  rintro e w36 ⟨rfl,hb⟩
  replace R6:=Aside0.mk (Kd.C_below R6.out hb)
  replace R8:=Aside0.mk (Kd.C_below R8.out hb)
  replace G1:=Aside0.mk (Kd.C_below G1.out hb)
  replace G2:=Aside0.mk (Kd.C_below G2.out hb)
  replace HB:=Aside0.mk (HB.out.trans (hb.mono HB.out.size))
  clear hb
  clear E1 E2 G1 G2
  go_wp2_with fail
  refine (book_reads w36).mono ?_
  rintro e w37 ⟨⟨A1,c1,A2,c2,rfl,e1,g1,e2,g2⟩,hb⟩
  replace R6:=Aside0.mk (Kd.C_below R6.out hb)
  replace R8:=Aside0.mk (Kd.C_below R8.out hb)
  replace HB:=Aside0.mk (HB.out.trans (hb.mono HB.out.size))
  clear hb
  have E1:=Aside0.mk e1
  have E2:=Aside0.mk e2
  have G1:=Aside0.mk g1
  have G2:=Aside0.mk g2
  clear e1 e2 g1 g2
  go_wp2_with fail
  refine (first_reads 1 0 w37).mono ?_
  rintro e w38 ⟨⟨AN9,rfl,g⟩,hb⟩
  replace R6:=Aside0.mk (Kd.C_below R6.out hb)
  replace R8:=Aside0.mk (Kd.C_below R8.out hb)
  replace G1:=Aside0.mk (Kd.C_below G1.out hb)
  replace G2:=Aside0.mk (Kd.C_below G2.out hb)
  replace HB:=Aside0.mk (HB.out.trans (hb.mono HB.out.size))
  clear hb
  have N9:=Aside0.mk g
  clear g
  go_wp2_with fail
  refine (heard_Fits.calls 50 3 A1 c1 bkF A2 c2 bkP 0 AN9 3 [2,4,1] none 0 [] 1 0 true 0 w38 G1.out E1.out G2.out E2.out N9.out (by simp) (Kd.C_nil _ _) (by simp) q10 (HG.out.below HB.out)).mono ?_
  rintro e w39 ⟨rfl,hb⟩
  replace R6:=Aside0.mk (Kd.C_below R6.out hb)
  replace R8:=Aside0.mk (Kd.C_below R8.out hb)
  replace G1:=Aside0.mk (Kd.C_below G1.out hb)
  replace G2:=Aside0.mk (Kd.C_below G2.out hb)
  replace N9:=Aside0.mk (Kd.C_below N9.out hb)
  replace HB:=Aside0.mk (HB.out.trans (hb.mono HB.out.size))
  clear hb
  clear N9
  clear E1 E2 G1 G2
  go_wp2_with fail
  obtain ⟨w40,hw40⟩:∃ w40,w39.alloc (Obj.cells #[.int .i64 0,.int .i64 1] 3)=w40:=⟨_,rfl⟩
  have hb:Below w39.heap.size w39 w40:=by rw [← hw40];exact below_alloc (Below.refl _ _) _
  have hk:w40.heap[w39.heap.size]?=some (.cells #[.int .i64 0,.int .i64 1] 3 (0,0)):=by rw [← hw40];exact blk_new _ _
  rw [hw40]
  clear hw40
  replace R6:=Aside0.mk (Kd.C_below R6.out hb)
  replace R8:=Aside0.mk (Kd.C_below R8.out hb)
  replace HB:=Aside0.mk (HB.out.trans (hb.mono HB.out.size))
  clear hb
  have BL:=Aside0.mk (C_block (l:=[0,1]) hk (by simp))
  clear hk
  refine (saronref00_Equal.calls 50 AR6 cR6 [0,1] (some ⟨w39.heap.size,0,none⟩) 2 [0,1] true w40 R6.out R6c.out BL.out (by simp) eqq1).mono ?_
  rintro e w' ⟨rfl,⟨nd,rfl⟩⟩
  obtain ⟨w41,hw41⟩:∃ w41,w40.drewN nd=w41:=⟨_,rfl⟩
  have hb:Below w40.heap.size w40 w41:=by rw [← hw41];exact pw_below_drewN (Below.refl _ _) _
  rw [hw41]
  clear hw41
  replace R6:=Aside0.mk (Kd.C_below R6.out hb)
  replace R8:=Aside0.mk (Kd.C_below R8.out hb)
  replace BL:=Aside0.mk (Kd.C_below BL.out hb)
  replace HB:=Aside0.mk (HB.out.trans (hb.mono HB.out.size))
  clear hb
  clear BL
  go_wp2_with fail
  obtain ⟨w42,hw42⟩:∃ w42,w41.alloc (Obj.cells #[.int .i64 0] 3)=w42:=⟨_,rfl⟩
  have hb:Below w41.heap.size w41 w42:=by rw [← hw42];exact below_alloc (Below.refl _ _) _
  have hk:w42.heap[w41.heap.size]?=some (.cells #[.int .i64 0] 3 (0,0)):=by rw [← hw42];exact blk_new _ _
  rw [hw42]
  clear hw42
  replace R6:=Aside0.mk (Kd.C_below R6.out hb)
  replace R8:=Aside0.mk (Kd.C_below R8.out hb)
  replace HB:=Aside0.mk (HB.out.trans (hb.mono HB.out.size))
  clear hb
  have BL:=Aside0.mk (C_block (l:=[0]) hk (by simp))
  clear hk
  refine (saronref00_Equal.calls 50 AR8 cR8 [0] (some ⟨w41.heap.size,0,none⟩) 1 [0] true w42 R8.out R8c.out BL.out (by simp) eqq2).mono ?_
  rintro e w' ⟨rfl,⟨nd,rfl⟩⟩
  obtain ⟨w43,hw43⟩:∃ w43,w42.drewN nd=w43:=⟨_,rfl⟩
  have hb:Below w42.heap.size w42 w43:=by rw [← hw43];exact pw_below_drewN (Below.refl _ _) _
  rw [hw43]
  clear hw43
  replace R6:=Aside0.mk (Kd.C_below R6.out hb)
  replace R8:=Aside0.mk (Kd.C_below R8.out hb)
  replace BL:=Aside0.mk (Kd.C_below BL.out hb)
  replace HB:=Aside0.mk (HB.out.trans (hb.mono HB.out.size))
  clear hb
  clear BL
  go_wp2_with fail
  go_ret
  exact ⟨rfl,HB.out⟩
end Go.Proofs.YthnilelmhpmanaaDoor.PHeardFits
end
