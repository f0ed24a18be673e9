/- A part of the proof: contracts and laws. -/
import Derived.Laws.EntriesVeiled
import Derived.Test.YthnilelmhpmanaaDoorWxq8
section
namespace Go.Proofs.YthnilelmhpmanaaDoor.PHeardFits
open Go.RowKit Go.Proofs.YthnilelmhpmanaaDoorW.PrintWords Go.Proofs.YthnilelmhpmanaaDoorW.PrintLast Go.Proofs.YthnilelmhpmanaaDoorW.PrintMore
open Go.Proofs.YthnilelmhpmanaaDoor.Hm
set_option linter.unusedVariables false
set_option linter.unusedSimpArgs false
def heard_common.f (l0 l1:List Int):Option Int:=if l0.length≤1000 then if l1.length≤1000 then some (lcsP l0 l1) else none else none
set_option maxRecDepth 100000 in
theorem heard_common.calls (A0:Option Addr) (c0:Nat) (l0:List Int) (A1:Option Addr) (c1:Nat) (l1:List Int) (r:Int) (w:World) (hr0:Kd.C (Kd.int .i64) w A0 l0.length l0) (hc0:l0.length≤c0) (hr1:Kd.C (Kd.int .i64) w A1 l1.length l1) (hc1:l1.length≤c1) (h:heard_common.f l0 l1=some r) :
    Calls Tryd.prog 78 #[.slice A0 l0.length c0,.slice A1 l1.length c1] w fun e w'=>e=.returned (.int .i64 r)∧Below w.heap.size w w':=by
  unfold heard_common.f at h
  by_cases h0:l0.length≤1000
  · rw [if_pos h0] at h
    by_cases h1:l1.length≤1000
    · rw [if_pos h1] at h
      obtain rfl:=Option.some.inj h
      clear h
      have HR0:=Aside0.mk hr0
      have HR1:=Aside0.mk hr1
      clear hr0 hr1
      have hmm:=@run_makeMap Tryd.prog
      go_enter Tryd.func78,Tryd.ntmps78
      go_wp2_with fail
      have hb:=((((below_alloc (Below.refl w.heap.size w) (Obj.cells #[Value.slice A0 l0.length c0] 28)).alloc (by simp) (Obj.cells #[Value.slice A1 l1.length c1] 28)).alloc (by simp;omega) (Obj.map #[] 0)).alloc (by simp;omega) (Obj.cells #[Value.map (some (w.heap.size+1+1))] 157)).alloc (by simp;omega) (Obj.cells #[Value.func (Fn.func 111) #[] #[Value.pointer (some { block:=w.heap.size,off:=0 }),Value.pointer (some { block:=w.heap.size+1,off:=0 }),Value.pointer (some { block:=w.heap.size+1+1+1,off:=0 }),Value.pointer (some { block:=w.heap.size+1+1+1+1,off:=0 })]] 158)
      have hM:=((MapIs.made ((w.alloc (Obj.cells #[Value.slice A0 l0.length c0] 28)).alloc (Obj.cells #[Value.slice A1 l1.length c1] 28))).alloc (Obj.cells #[Value.map (some (w.heap.size+1+1))] 157)).alloc (Obj.cells #[Value.func (Fn.func 111) #[] #[Value.pointer (some { block:=w.heap.size,off:=0 }),Value.pointer (some { block:=w.heap.size+1,off:=0 }),Value.pointer (some { block:=w.heap.size+1+1+1,off:=0 }),Value.pointer (some { block:=w.heap.size+1+1+1+1,off:=0 })]] 158)
      rw [World.size_alloc,World.size_alloc] at hM
      refine (com_any l0 l1 A0 A1 c0 c1 w.heap.size (w.heap.size+1) (w.heap.size+1+1+1) (w.heap.size+1+1+1+1) (w.heap.size+1+1) h0 h1 _ 0 0 _ _ _ rfl rfl (Nat.le_refl _) (Nat.zero_le _) (Nat.zero_le _) ⟨by go_simp,by go_simp,by go_simp,by go_simp,(RdI.of HR0.out).below hb,(RdI.of HR1.out).below hb,⟨[],hM,fun c d v hv=>by simp [mget] at hv⟩⟩).mono ?_
      rintro e w2 ⟨rfl,hg2,-⟩
      have HB:=Aside0.mk (hb.grown hg2 (by simp;omega) (by rintro k hk;cases hk;omega))
      clear hb hM hg2
      go_wp2_with fail
      go_ret
      exact ⟨rfl,HB.out⟩
    · rw [if_neg h1] at h;simp at h
  · rw [if_neg h0] at h;simp at h
end Go.Proofs.YthnilelmhpmanaaDoor.PHeardFits
end
section
namespace Go.Proofs.YthnilelmhpmanaaDoor.PHeardFits
open Go.RowKit Go.Proofs.YthnilelmhpmanaaDoorW.PrintWords Go.Proofs.YthnilelmhpmanaaDoorW.PrintLast Go.Proofs.YthnilelmhpmanaaDoorW.PrintMore
attribute [local go_sem] max2_int min2_int max_two min_two max_three min_three max_four min_four
set_option linter.unusedVariables false
set_option linter.unusedSimpArgs false
def heard_Common.f (k:Nat) (a0_0:Int) (l0_1:List (S85)) (l0_2:List (S62)) (a1:Int) (a2:Int):Option (Int×Int):=(heard_Check.f k a0_0 l0_1 l0_2).bind fun t298=>(if t298=0 then ((heard_lies.f a1 0 (wrap64 ((l0_2.length:Int) - 1))).bind fun t299=>(if t299=true then ((heard_lies.f a2 0 (wrap64 ((l0_2.length:Int) - 1))).bind fun t300=>(if t300=true then (if 0≤a1 then (if a1<(l0_2.length:Int) then (if 0≤a2 then (if a2<(l0_2.length:Int) then ((heard_common.f ((rd_T62 l0_2 a1).f1) ((rd_T62 l0_2 a2).f1)).bind fun t303=>(some (t303,0))) else (none)) else (none)) else (none)) else (none)) else (some (0,91)))) else (some (0,91)))) else (some (0,t298)))
def heard_Common.T6:Bool×List (List Nat×List Nat):=(true,[([],[]),([0],[0]),([],[]),([1,2],[1,2]),([3],[3]),([4],[4]),([],[]),([6],[6]),([],[]),([7,8],[7,8]),([9],[9]),([10],[10]),([5,11],[5,11]),([12,12,0,1,2,3,4,5,6,7,8,9,10,11,12],[12]),([13,0,1,2,3,4,5,6,7,8,9,10,11,12,13],[])])
def heard_Common.B6:List Nat:=[0,1,0,7,15,31,0,64,0,448,960,1984,4095,8191,16383]
theorem heard_Common.tab6:rtab .any (opsOf Tryd.f31 6)=heard_Common.T6:=by kernel_rfl
theorem heard_Common.bits6:waitsOk heard_Common.T6.2 heard_Common.B6=true:=by kernel_rfl
set_option maxHeartbeats 8000000 in
set_option maxRecDepth 100000 in
theorem heard_Common.calls (k:Nat) (a0_0:Int) (A0_1:Option Addr) (c0_1:Nat) (l0_1:List (S85)) (A0_2:Option Addr) (c0_2:Nat) (l0_2:List (S62)) (a1:Int) (a2:Int) (r1:Int) (r2:Int) (w:World) (hr0_1:Kd.C k85 w A0_1 l0_1.length l0_1) (hc0_1:l0_1.length≤c0_1) (hr0_2:Kd.C k62 w A0_2 l0_2.length l0_2) (hc0_2:l0_2.length≤c0_2) (h:heard_Common.f k a0_0 l0_1 l0_2 a1 a2=some (r1,r2)) :
  Calls Tryd.prog 31 #[.agg #[.int .i64 a0_0,.slice A0_1 l0_1.length c0_1,.slice A0_2 l0_2.length c0_2],.int .i64 a1,.int .i64 a2] w fun e w'=>e=.returned (.tuple #[.int .i64 r1,.int .i64 r2])∧Below w.heap.size w w':=by
 have hu27:=Tryd.underlying27
 have HR0_1:=Aside0.mk hr0_1
 have HC0_1:=Aside0.mk hc0_1
 clear hr0_1 hc0_1
 have HR0_2:=Aside0.mk hr0_2
 have HC0_2:=Aside0.mk hc0_2
 clear hr0_2 hc0_2
 have HB:=Aside0.mk (Below.refl w.heap.size w)
 have H:((heard_Check.f k a0_0 l0_1 l0_2).bind fun t298=>(if t298=0 then ((heard_lies.f a1 0 (wrap64 ((l0_2.length:Int) - 1))).bind fun t299=>(if t299=true then ((heard_lies.f a2 0 (wrap64 ((l0_2.length:Int) - 1))).bind fun t300=>(if t300=true then (if 0≤a1 then (if a1<(l0_2.length:Int) then (if 0≤a2 then (if a2<(l0_2.length:Int) then ((heard_common.f ((rd_T62 l0_2 a1).f1) ((rd_T62 l0_2 a2).f1)).bind fun t303=>(some (t303,0))) else (none)) else (none)) else (none)) else (none)) else (some (0,91)))) else (some (0,91)))) else (some (0,t298))))=some (r1,r2):=h
 clear h
 replace H:=Option.bind_eq_some_iff.mp H
 obtain ⟨t298,A40,H⟩:=H
 try dsimp only at H
 have A4:=Aside0.mk A40
 clear A40
 by_cases c5:t298=0
 ·rw [if_pos c5] at H
  have c5b0:(t298 == 0)=true:=beq_iff_eq.mpr c5
  have c5b1:(t298 != 0)=false:=bne_eq_false_iff_eq.mpr c5
  clear c5
  replace H:=Option.bind_eq_some_iff.mp H
  obtain ⟨t299,A60,H⟩:=H
  try dsimp only at H
  have A6:=Aside0.mk A60
  clear A60
  by_cases c7:t299=true
  ·subst c7
   rw [if_pos rfl] at H
   replace H:=Option.bind_eq_some_iff.mp H
   obtain ⟨t300,A80,H⟩:=H
   try dsimp only at H
   have A8:=Aside0.mk A80
   clear A80
   by_cases c9:t300=true
   ·subst c9
    rw [if_pos rfl] at H
    by_cases c10:0≤a1
    ·rw [if_pos c10] at H
     have c10b0:decide (0≤a1)=true:=decide_eq_true c10
     clear c10
     by_cases c11:a1<(l0_2.length:Int)
     ·rw [if_pos c11] at H
      have c11b0:decide (a1<(l0_2.length:Int))=true:=decide_eq_true c11
      clear c11
      by_cases c12:0≤a2
      ·rw [if_pos c12] at H
       have c12b0:decide (0≤a2)=true:=decide_eq_true c12
       clear c12
       by_cases c13:a2<(l0_2.length:Int)
       ·rw [if_pos c13] at H
        have c13b0:decide (a2<(l0_2.length:Int))=true:=decide_eq_true c13
        clear c13
        replace H:=Option.bind_eq_some_iff.mp H
        obtain ⟨t303,A140,H⟩:=H
        try dsimp only at H
        have A14:=Aside0.mk A140
        clear A140
        simp only [Option.some.injEq,Prod.mk.injEq] at H
        obtain ⟨rfl,rfl⟩:=H
        go_enter Tryd.func31,Tryd.ntmps31
        try go_wp2_with (first|((with_reducible refine gate_dst (N:=3) rfl ?_);(try (refine gate_guard (by rfl) ?_;dsimp only));refine box_event ?hg (N:=3) ?hd (cs:=#[.int .i64 a0_0,.slice A0_1 l0_1.length c0_1,.slice A0_2 l0_2.length c0_2]) (t:=27) ?hr ?_;(case hd=>rfl);(case hg=>rfl);(case hr=>first|(go_simp;done)|(go_simp;rfl));intro gb297 hg w15 hbox hb;have n0_:=Aside0.mk (below_step (by repeat (first|(with_reducible first|exact HB.out|apply below_alloc|apply pw_below_drewN|apply below_drew1)|exact HB.out)) hb);have n1_:=Aside0.mk (hbox);have n2_:=Aside0.mk ((by rw [hg];exact (below_size (by repeat (first|(with_reducible first|exact HB.out|apply below_alloc|apply pw_below_drewN|apply below_drew1)|exact HB.out))):w.heap.size≤gb297));have n3_:=Aside0.mk ((by rw [hg];exact (below_size (by repeat (first|(with_reducible first|exact HB.out|apply below_alloc|apply pw_below_drewN|apply below_drew1)|exact HB.out))):w.heap.size≤gb297));clear HB;have HB:=n0_;have BK297:=n1_;have GW297:=n2_;have GE297:=n3_;clear n0_ n1_ n2_ n3_;clear hb hbox hg;have hcz16_0:w15.cell? ⟨gb297,0,none⟩=some (.int .i64 a0_0):=(blk_cell BK297.out 0).trans rfl;have hcz16_1:w15.cell? ⟨gb297,1,none⟩=some (.slice A0_1 l0_1.length c0_1):=(blk_cell BK297.out 1).trans rfl;have hcz16_2:w15.cell? ⟨gb297,2,none⟩=some (.slice A0_2 l0_2.length c0_2):=(blk_cell BK297.out 2).trans rfl;have hfz16_0:=blk_frozen BK297.out 0;have hfz16_1:=blk_frozen BK297.out 1;have hfz16_2:=blk_frozen BK297.out 2)|((with_reducible refine gate_callee (f:=17) rfl ?_);refine goesL_ (some 10) rfl rfl Tryd.func17 (by kernel_rfl) rfl #[.agg #[.int .i64 a0_0,.slice A0_1 l0_1.length c0_1,.slice A0_2 l0_2.length c0_2]] rfl (by (try simp only [List.map_toArray,List.map_cons,List.map_nil]);first|done|rfl|(simp only [List.length_drop,List.length_take];rfl)) ?_;(with_reducible refine (heard_Check.calls k a0_0 _ _ l0_1 _ _ l0_2 t298 _ ?side1 ?side2 ?side3 ?side4 A4.out).mono ?_);(case side1=>repeat (first|exact (Kd.C_below HR0_1.out HB.out)|(with_reducible refine Kd.C_alloc ?_ _)|(with_reducible refine Kd.C_drewN ?_ _)|(with_reducible refine Kd.C_drew ?_)));(case side2=>exact HC0_1.out);(case side3=>repeat (first|exact (Kd.C_below HR0_2.out HB.out)|(with_reducible refine Kd.C_alloc ?_ _)|(with_reducible refine Kd.C_drewN ?_ _)|(with_reducible refine Kd.C_drew ?_)));(case side4=>exact HC0_2.out);rintro e w17 ⟨rfl,hb⟩;refine ⟨_,rfl,?_⟩;have n0_:=Aside0.mk (blk_below (g:=gb297) (o:=.cells #[.int .i64 a0_0,.slice A0_1 l0_1.length c0_1,.slice A0_2 l0_2.length c0_2] 27 (0,0)) (by (with_reducible repeat (first|refine blk_drewN ?_ _|refine blk_drew ?_|refine blk_alloc ?_ _));exact BK297.out) hb);have n1_:=Aside0.mk (below_step (by repeat (first|(with_reducible first|exact HB.out|apply below_alloc|apply pw_below_drewN|apply below_drew1|refine below_set ?_ GE297.out)|exact HB.out)) hb);clear BK297;clear HB;have BK297:=n0_;have HB:=n1_;clear n0_ n1_;(try clear hb);(try clear hb2);(try clear hk);(try clear hi);have hcz18_0:w17.cell? ⟨gb297,0,none⟩=some (.int .i64 a0_0):=(blk_cell BK297.out 0).trans rfl;have hcz18_1:w17.cell? ⟨gb297,1,none⟩=some (.slice A0_1 l0_1.length c0_1):=(blk_cell BK297.out 1).trans rfl;have hcz18_2:w17.cell? ⟨gb297,2,none⟩=some (.slice A0_2 l0_2.length c0_2):=(blk_cell BK297.out 2).trans rfl;have hfz18_0:=blk_frozen BK297.out 0;have hfz18_1:=blk_frozen BK297.out 1;have hfz18_2:=blk_frozen BK297.out 2)|((with_reducible refine gate_callee (f:=65) rfl ?_);refine goesL_ (some 19) rfl rfl Tryd.func65 (by kernel_rfl) rfl #[.int .i64 a1,.int .i64 0,.int .i64 (wrap64 ((l0_2.length:Int) - 1))] rfl (by (try simp only [List.map_toArray,List.map_cons,List.map_nil]);first|done|rfl|(simp only [List.length_drop,List.length_take];rfl)) ?_;(with_reducible refine (heard_lies.calls a1 0 (wrap64 ((l0_2.length:Int) - 1)) true _ A6.out).mono ?_);rintro e w' ⟨rfl,⟨nd,rfl⟩⟩;refine ⟨_,rfl,?_⟩)|(go_at_call 65;(with_reducible refine (heard_lies.calls a2 0 (wrap64 ((l0_2.length:Int) - 1)) true _ A8.out).mono ?_);rintro e w' ⟨rfl,⟨nd,rfl⟩⟩))
        (try (rw [drewN_self w17];generalize hq_:World.drewN w17 _=w17;have n0_:Aside0 (w17.heap[gb297]?=some (.cells #[.int .i64 a0_0,.slice A0_1 l0_1.length c0_1,.slice A0_2 l0_2.length c0_2] 27 (0,0))):=⟨by rw [← hq_];exact (by (with_reducible repeat (first|refine blk_drewN ?_ _|refine blk_drew ?_|refine blk_alloc ?_ _));exact BK297.out)⟩;have n1_:Aside0 (Below w.heap.size w w17):=⟨by rw [← hq_];exact (by repeat (first|(with_reducible first|exact HB.out|apply below_alloc|apply pw_below_drewN|apply below_drew1|refine below_set ?_ GE297.out)|exact HB.out))⟩;clear BK297 HB hq_;have BK297:=n0_;have HB:=n1_;clear n0_ n1_))
        have n0_:=Aside0.mk (blk_drew BK297.out)
        have n1_:=Aside0.mk (below_drew1 HB.out)
        clear BK297
        clear HB
        have BK297:=n0_
        have HB:=n1_
        clear n0_ n1_
        have p301:0≤(a1:Int):=of_decide_eq_true (by first|(with_reducible assumption)|assumption)
        have q301:a1<(l0_2.length:Int):=of_decide_eq_true (by first|(with_reducible assumption)|assumption)
        obtain ⟨ad301,A301_1,c301_1,e301,hx301_0,hx301_1,hl301_1,hi301_1⟩:=at_T62 HR0_2.out a1 p301 q301
        have hw301_1:=hx301_1
        have hw301_0:=hx301_0
        cases e301
        replace hx301_0:=(HB.out.cell (World.block_lt_of_cell? w _ hx301_0)).trans hx301_0
        replace hx301_1:=(HB.out.cell (World.block_lt_of_cell? w _ hx301_1)).trans hx301_1
        have HR301_1:=Aside0.mk hi301_1
        have HC301_1:=Aside0.mk hl301_1
        clear hi301_1 hl301_1
        replace p301:=eq_true p301
        replace q301:=eq_true q301
        have p302:0≤(a2:Int):=of_decide_eq_true (by first|(with_reducible assumption)|assumption)
        have q302:a2<(l0_2.length:Int):=of_decide_eq_true (by first|(with_reducible assumption)|assumption)
        obtain ⟨ad302,A302_1,c302_1,e302,hx302_0,hx302_1,hl302_1,hi302_1⟩:=at_T62 HR0_2.out a2 p302 q302
        have hw302_1:=hx302_1
        have hw302_0:=hx302_0
        obtain rfl:ad301=ad302:=(by injection e302)
        replace hx302_0:=(HB.out.cell (World.block_lt_of_cell? w _ hx302_0)).trans hx302_0
        replace hx302_1:=(HB.out.cell (World.block_lt_of_cell? w _ hx302_1)).trans hx302_1
        have HR302_1:=Aside0.mk hi302_1
        have HC302_1:=Aside0.mk hl302_1
        clear hi302_1 hl302_1
        replace p302:=eq_true p302
        replace q302:=eq_true q302
        refine start_ (n:=15) (S:=fun w'=>w'.cell? ⟨gb297,0,none⟩=some (.int .i64 a0_0)∧w'.cell? ⟨gb297,1,none⟩=some (.slice A0_1 l0_1.length c0_1)∧w'.cell? ⟨gb297,2,none⟩=some (.slice (some ad301) l0_2.length c0_2)∧w'.cell? (ad301.add ((a1).toNat * 2))=some (.int .i64 ((rd_T62 l0_2 a1).f0))∧w'.cell? ⟨(ad301.add ((a1).toNat * 2)).block,(ad301.add ((a1).toNat * 2)).off+1,none⟩=some (.slice A301_1 ((rd_T62 l0_2 a1).f1).length c301_1)∧w'.cell? (ad301.add ((a2).toNat * 2))=some (.int .i64 ((rd_T62 l0_2 a2).f0))∧w'.cell? ⟨(ad301.add ((a2).toNat * 2)).block,(ad301.add ((a2).toNat * 2)).off+1,none⟩=some (.slice A302_1 ((rd_T62 l0_2 a2).f1).length c302_1)) (ds:=[]) #[false,false,false,false,false,false,false,false,false,false,false,false,false,false,false] (by kernel_rfl) rfl rfl ⟨(blk_cell BK297.out 0).trans rfl,(blk_cell BK297.out 1).trans rfl,(blk_cell BK297.out 2).trans rfl,((HB.out.cell (World.block_lt_of_cell? w _ hw301_0)).trans hw301_0),((HB.out.cell (World.block_lt_of_cell? w _ hw301_1)).trans hw301_1),((HB.out.cell (World.block_lt_of_cell? w _ hw302_0)).trans hw302_0),((HB.out.cell (World.block_lt_of_cell? w _ hw302_1)).trans hw302_1)⟩ (fun hHeld=>?_);refine with_tabW heard_Common.tab6 heard_Common.bits6 (fun HT_ HW_=>?_)
        generalize w17.drew=w19 at BK297 HB HR301_1 HR302_1 hx301_0 hx301_1 hx302_0 hx302_1 hHeld ⊢
        refine pure_ (i:=0) (N:=some 30) (v:=?_) (a':=?_) #[true,false,false,false,false,false,false,false,false,false,false,false,false,false,false] rfl rfl (any_of HT_.out (by kernel_rfl)) (fun _ _ _ h=>h) (Or.inl ⟨by rfl,?_⟩) ?_ ?_
        rotate_left
        ·intro w'
         go_simp
         with_reducible rfl
        rotate_left
        ·simp only [Act.put,List.setIfInBounds_toArray,List.set_cons_zero,List.set_cons_succ,i64_w,i32_w]
         rfl
        refine pure_ (i:=2) (N:=some 32) (v:=?_) (a':=?_) #[true,false,true,false,false,false,false,false,false,false,false,false,false,false,false] rfl rfl (any_of HT_.out (by kernel_rfl)) (fun _ _ _ h=>h) (Or.inl ⟨by rfl,?_⟩) ?_ ?_
        rotate_left
        ·intro w'
         go_simp
         with_reducible rfl
        rotate_left
        ·simp only [Act.put,List.setIfInBounds_toArray,List.set_cons_zero,List.set_cons_succ,i64_w,i32_w]
         rfl
        refine pure_ (i:=6) (N:=some 36) (v:=?_) (a':=?_) #[true,false,true,false,false,false,true,false,false,false,false,false,false,false,false] rfl rfl (any_of HT_.out (by kernel_rfl)) (fun _ _ _ h=>h) (Or.inl ⟨by rfl,?_⟩) ?_ ?_
        rotate_left
        ·intro w'
         go_simp
         with_reducible rfl
        rotate_left
        ·simp only [Act.put,List.setIfInBounds_toArray,List.set_cons_zero,List.set_cons_succ,i64_w,i32_w]
         rfl
        refine pure_ (i:=8) (N:=some 38) (v:=?_) (a':=?_) #[true,false,true,false,false,false,true,false,true,false,false,false,false,false,false] rfl rfl (any_of HT_.out (by kernel_rfl)) (fun _ _ _ h=>h) (Or.inl ⟨by rfl,?_⟩) ?_ ?_
        rotate_left
        ·intro w'
         go_simp
         with_reducible rfl
        rotate_left
        ·simp only [Act.put,List.setIfInBounds_toArray,List.set_cons_zero,List.set_cons_succ,i64_w,i32_w]
         rfl
        refine take_ (i:=1) (N:=some 31) (v:=?_) (a':=?_) #[true,true,true,false,false,false,true,false,true,false,false,false,false,false,false] rfl rfl (take_ofW HT_.out HW_.out (by kernel_rfl)) (fun _ _ _ h=>h) (Or.inl ⟨by rfl,?_⟩) hHeld ?_ ?_
        rotate_left
        ·rintro w' ⟨s0,s1,s2,s3,s4,s5,s6⟩
         go_simp
         with_reducible rfl
        rotate_left
        ·simp only [Act.put,List.setIfInBounds_toArray,List.set_cons_zero,List.set_cons_succ,i64_w,i32_w]
         rfl
        refine pure_ (i:=3) (N:=some 33) (v:=?_) (a':=?_) #[true,true,true,true,false,false,true,false,true,false,false,false,false,false,false] rfl rfl (any_of HT_.out (by kernel_rfl)) (fun _ _ _ h=>h) (Or.inl ⟨by rfl,?_⟩) ?_ ?_
        rotate_left
        ·intro w'
         go_simp
         with_reducible rfl
        rotate_left
        ·simp only [Act.put,List.setIfInBounds_toArray,List.set_cons_zero,List.set_cons_succ,i64_w,i32_w]
         rfl
        refine pure_ (i:=4) (N:=some 34) (v:=?_) (a':=?_) #[true,true,true,true,true,false,true,false,true,false,false,false,false,false,false] rfl rfl (any_of HT_.out (by kernel_rfl)) (fun _ _ _ h=>h) (Or.inl ⟨by rfl,?_⟩) ?_ ?_
        rotate_left
        ·intro w'
         go_simp
         with_reducible rfl
        rotate_left
        ·simp only [Act.put,List.setIfInBounds_toArray,List.set_cons_zero,List.set_cons_succ,i64_w,i32_w]
         rfl
        refine take_ (i:=5) (N:=some 35) (v:=?_) (a':=?_) #[true,true,true,true,true,true,true,false,true,false,false,false,false,false,false] rfl rfl (take_ofW HT_.out HW_.out (by kernel_rfl)) (fun _ _ _ h=>h) (Or.inl ⟨by rfl,?_⟩) hHeld ?_ ?_
        rotate_left
        ·rintro w' ⟨s0,s1,s2,s3,s4,s5,s6⟩
         go_simp
         with_reducible rfl
        rotate_left
        ·simp only [Act.put,List.setIfInBounds_toArray,List.set_cons_zero,List.set_cons_succ,i64_w,i32_w]
         rfl
        refine take_ (i:=7) (N:=some 37) (v:=?_) (a':=?_) #[true,true,true,true,true,true,true,true,true,false,false,false,false,false,false] rfl rfl (take_ofW HT_.out HW_.out (by kernel_rfl)) (fun _ _ _ h=>h) (Or.inl ⟨by rfl,?_⟩) hHeld ?_ ?_
        rotate_left
        ·rintro w' ⟨s0,s1,s2,s3,s4,s5,s6⟩
         go_simp
         with_reducible rfl
        rotate_left
        ·simp only [Act.put,List.setIfInBounds_toArray,List.set_cons_zero,List.set_cons_succ,i64_w,i32_w]
         rfl
        refine pure_ (i:=9) (N:=some 39) (v:=?_) (a':=?_) #[true,true,true,true,true,true,true,true,true,true,false,false,false,false,false] rfl rfl (any_of HT_.out (by kernel_rfl)) (fun _ _ _ h=>h) (Or.inl ⟨by rfl,?_⟩) ?_ ?_
        rotate_left
        ·intro w'
         go_simp
         with_reducible rfl
        rotate_left
        ·simp only [Act.put,List.setIfInBounds_toArray,List.set_cons_zero,List.set_cons_succ,i64_w,i32_w]
         rfl
        refine pure_ (i:=10) (N:=some 40) (v:=?_) (a':=?_) #[true,true,true,true,true,true,true,true,true,true,true,false,false,false,false] rfl rfl (any_of HT_.out (by kernel_rfl)) (fun _ _ _ h=>h) (Or.inl ⟨by rfl,?_⟩) ?_ ?_
        rotate_left
        ·intro w'
         go_simp
         with_reducible rfl
        rotate_left
        ·simp only [Act.put,List.setIfInBounds_toArray,List.set_cons_zero,List.set_cons_succ,i64_w,i32_w]
         rfl
        refine take_ (i:=11) (N:=some 41) (v:=?_) (a':=?_) #[true,true,true,true,true,true,true,true,true,true,true,true,false,false,false] rfl rfl (take_ofW HT_.out HW_.out (by kernel_rfl)) (fun _ _ _ h=>h) (Or.inl ⟨by rfl,?_⟩) hHeld ?_ ?_
        rotate_left
        ·rintro w' ⟨s0,s1,s2,s3,s4,s5,s6⟩
         go_simp
         with_reducible rfl
        rotate_left
        ·simp only [Act.put,List.setIfInBounds_toArray,List.set_cons_zero,List.set_cons_succ,i64_w,i32_w]
         rfl
        refine one_ (i:=12) (N:=some 42) #[true,true,true,true,true,true,true,true,true,true,true,true,true,false,false] rfl rfl (one_of HT_.out (by kernel_rfl)) (by decide) (fun K hK=>?_)
        refine goes_ Tryd.func78 (by kernel_rfl) rfl #[.slice A301_1 ((rd_T62 l0_2 a1).f1).length c301_1,.slice A302_1 ((rd_T62 l0_2 a2).f1).length c302_1] (by rfl) rfl rfl (by (try simp only [List.map_toArray,List.map_cons,List.map_nil]);first|done|rfl|(simp only [List.length_drop,List.length_take];rfl)) ?_
        with_reducible refine (heard_common.calls _ _ ((rd_T62 l0_2 a1).f1) _ _ ((rd_T62 l0_2 a2).f1) t303 _ ?side1 ?side2 ?side3 ?side4 A14.out).mono ?_
        (case side1=>repeat (first|exact (Kd.C_below HR301_1.out HB.out)|(with_reducible refine Kd.C_alloc ?_ _)|(with_reducible refine Kd.C_drewN ?_ _)|(with_reducible refine Kd.C_drew ?_)))
        (case side2=>exact HC301_1.out)
        (case side3=>repeat (first|exact (Kd.C_below HR302_1.out HB.out)|(with_reducible refine Kd.C_alloc ?_ _)|(with_reducible refine Kd.C_drewN ?_ _)|(with_reducible refine Kd.C_drew ?_)))
        (case side4=>exact HC302_1.out)
        rintro e w20 ⟨rfl,hb⟩
        refine ⟨_,rfl,?_⟩
        have n0_:=Aside0.mk (blk_below (g:=gb297) (o:=.cells #[.int .i64 a0_0,.slice A0_1 l0_1.length c0_1,.slice (some ad301) l0_2.length c0_2] 27 (0,0)) (by (with_reducible repeat (first|refine blk_drewN ?_ _|refine blk_drew ?_|refine blk_alloc ?_ _));exact BK297.out) hb)
        have n1_:=Aside0.mk (below_step (by repeat (first|(with_reducible first|exact HB.out|apply below_alloc|apply pw_below_drewN|apply below_drew1|refine below_set ?_ GE297.out)|exact HB.out)) hb)
        clear BK297
        clear HB
        have BK297:=n0_
        have HB:=n1_
        clear n0_ n1_
        (try clear hb)
        (try clear hb2)
        (try clear hk)
        (try clear hi)
        refine hK.out _ _ ⟨(blk_cell BK297.out 0).trans rfl,(blk_cell BK297.out 1).trans rfl,(blk_cell BK297.out 2).trans rfl,((HB.out.cell (World.block_lt_of_cell? w _ hw301_0)).trans hw301_0),((HB.out.cell (World.block_lt_of_cell? w _ hw301_1)).trans hw301_1),((HB.out.cell (World.block_lt_of_cell? w _ hw302_0)).trans hw302_0),((HB.out.cell (World.block_lt_of_cell? w _ hw302_1)).trans hw302_1)⟩ (fun hHeld=>?_)
        clear hK K
        refine norm_ (a':=?_) ?_ ?_
        rotate_left
        ·show Act.put _ (some 42) _=_
         simp only [Act.put,List.setIfInBounds_toArray,List.set_cons_zero,List.set_cons_succ,i64_w,i32_w]
         rfl
        refine pure_ (i:=13) (N:=some 6) (v:=?_) (a':=?_) #[true,true,true,true,true,true,true,true,true,true,true,true,true,true,false] rfl rfl (any_of HT_.out (by kernel_rfl)) (fun _ _ _ h=>h) (Or.inl ⟨by rfl,?_⟩) ?_ ?_
        rotate_left
        ·intro w'
         go_simp
         with_reducible rfl
        rotate_left
        ·simp only [Act.put,List.setIfInBounds_toArray,List.set_cons_zero,List.set_cons_succ,i64_w,i32_w]
         rfl
        refine pure_ (i:=14) (N:=some 7) (v:=?_) (a':=?_) #[true,true,true,true,true,true,true,true,true,true,true,true,true,true,true] rfl rfl (any_of HT_.out (by kernel_rfl)) (fun _ _ _ h=>h) (Or.inl ⟨by rfl,?_⟩) ?_ ?_
        rotate_left
        ·intro w'
         go_simp
         with_reducible rfl
        rotate_left
        ·simp only [Act.put,List.setIfInBounds_toArray,List.set_cons_zero,List.set_cons_succ,i64_w,i32_w]
         rfl
        refine done_ (done_of HT_.out (by kernel_rfl)) ?_
        try go_wp2
        go_ret2
        exact ⟨by first|rfl|(simp [errW_none,errW_some] <;> rfl)|(simp [*,errW_none,errW_some] <;> rfl),by repeat (first|(with_reducible first|exact HB.out|apply below_alloc|apply pw_below_drewN|apply below_drew1|refine below_set ?_ GE297.out)|exact HB.out)⟩
       ·rw [if_neg c13] at H
        exact absurd H (by simp)
      ·rw [if_neg c12] at H
       exact absurd H (by simp)
     ·rw [if_neg c11] at H
      exact absurd H (by simp)
    ·rw [if_neg c10] at H
     exact absurd H (by simp)
   ·replace c9:=Bool.eq_false_iff.mpr c9
    subst c9
    rw [if_neg (show ¬ (false=true) by decide)] at H
    simp only [Option.some.injEq,Prod.mk.injEq] at H
    obtain ⟨rfl,rfl⟩:=H
    go_enter Tryd.func31,Tryd.ntmps31
    go_wp2_with (first|((with_reducible refine gate_dst (N:=3) rfl ?_);(try (refine gate_guard (by rfl) ?_;dsimp only));refine box_event ?hg (N:=3) ?hd (cs:=#[.int .i64 a0_0,.slice A0_1 l0_1.length c0_1,.slice A0_2 l0_2.length c0_2]) (t:=27) ?hr ?_;(case hd=>rfl);(case hg=>rfl);(case hr=>first|(go_simp;done)|(go_simp;rfl));intro gb297 hg w21 hbox hb;have n0_:=Aside0.mk (below_step (by repeat (first|(with_reducible first|exact HB.out|apply below_alloc|apply pw_below_drewN|apply below_drew1)|exact HB.out)) hb);have n1_:=Aside0.mk (hbox);have n2_:=Aside0.mk ((by rw [hg];exact (below_size (by repeat (first|(with_reducible first|exact HB.out|apply below_alloc|apply pw_below_drewN|apply below_drew1)|exact HB.out))):w.heap.size≤gb297));have n3_:=Aside0.mk ((by rw [hg];exact (below_size (by repeat (first|(with_reducible first|exact HB.out|apply below_alloc|apply pw_below_drewN|apply below_drew1)|exact HB.out))):w.heap.size≤gb297));clear HB;have HB:=n0_;have BK297:=n1_;have GW297:=n2_;have GE297:=n3_;clear n0_ n1_ n2_ n3_;clear hb hbox hg;have hcz22_0:w21.cell? ⟨gb297,0,none⟩=some (.int .i64 a0_0):=(blk_cell BK297.out 0).trans rfl;have hcz22_1:w21.cell? ⟨gb297,1,none⟩=some (.slice A0_1 l0_1.length c0_1):=(blk_cell BK297.out 1).trans rfl;have hcz22_2:w21.cell? ⟨gb297,2,none⟩=some (.slice A0_2 l0_2.length c0_2):=(blk_cell BK297.out 2).trans rfl;have hfz22_0:=blk_frozen BK297.out 0;have hfz22_1:=blk_frozen BK297.out 1;have hfz22_2:=blk_frozen BK297.out 2)|((with_reducible refine gate_callee (f:=17) rfl ?_);refine goesL_ (some 10) rfl rfl Tryd.func17 (by kernel_rfl) rfl #[.agg #[.int .i64 a0_0,.slice A0_1 l0_1.length c0_1,.slice A0_2 l0_2.length c0_2]] rfl (by (try simp only [List.map_toArray,List.map_cons,List.map_nil]);first|done|rfl|(simp only [List.length_drop,List.length_take];rfl)) ?_;(with_reducible refine (heard_Check.calls k a0_0 _ _ l0_1 _ _ l0_2 t298 _ ?side1 ?side2 ?side3 ?side4 A4.out).mono ?_);(case side1=>repeat (first|exact (Kd.C_below HR0_1.out HB.out)|(with_reducible refine Kd.C_alloc ?_ _)|(with_reducible refine Kd.C_drewN ?_ _)|(with_reducible refine Kd.C_drew ?_)));(case side2=>exact HC0_1.out);(case side3=>repeat (first|exact (Kd.C_below HR0_2.out HB.out)|(with_reducible refine Kd.C_alloc ?_ _)|(with_reducible refine Kd.C_drewN ?_ _)|(with_reducible refine Kd.C_drew ?_)));(case side4=>exact HC0_2.out);rintro e w23 ⟨rfl,hb⟩;refine ⟨_,rfl,?_⟩;have n0_:=Aside0.mk (blk_below (g:=gb297) (o:=.cells #[.int .i64 a0_0,.slice A0_1 l0_1.length c0_1,.slice A0_2 l0_2.length c0_2] 27 (0,0)) (by (with_reducible repeat (first|refine blk_drewN ?_ _|refine blk_drew ?_|refine blk_alloc ?_ _));exact BK297.out) hb);have n1_:=Aside0.mk (below_step (by repeat (first|(with_reducible first|exact HB.out|apply below_alloc|apply pw_below_drewN|apply below_drew1|refine below_set ?_ GE297.out)|exact HB.out)) hb);clear BK297;clear HB;have BK297:=n0_;have HB:=n1_;clear n0_ n1_;(try clear hb);(try clear hb2);(try clear hk);(try clear hi);have hcz24_0:w23.cell? ⟨gb297,0,none⟩=some (.int .i64 a0_0):=(blk_cell BK297.out 0).trans rfl;have hcz24_1:w23.cell? ⟨gb297,1,none⟩=some (.slice A0_1 l0_1.length c0_1):=(blk_cell BK297.out 1).trans rfl;have hcz24_2:w23.cell? ⟨gb297,2,none⟩=some (.slice A0_2 l0_2.length c0_2):=(blk_cell BK297.out 2).trans rfl;have hfz24_0:=blk_frozen BK297.out 0;have hfz24_1:=blk_frozen BK297.out 1;have hfz24_2:=blk_frozen BK297.out 2)|((with_reducible refine gate_callee (f:=65) rfl ?_);refine goesL_ (some 19) rfl rfl Tryd.func65 (by kernel_rfl) rfl #[.int .i64 a1,.int .i64 0,.int .i64 (wrap64 ((l0_2.length:Int) - 1))] rfl (by (try simp only [List.map_toArray,List.map_cons,List.map_nil]);first|done|rfl|(simp only [List.length_drop,List.length_take];rfl)) ?_;(with_reducible refine (heard_lies.calls a1 0 (wrap64 ((l0_2.length:Int) - 1)) true _ A6.out).mono ?_);rintro e w' ⟨rfl,⟨nd,rfl⟩⟩;refine ⟨_,rfl,?_⟩)|(go_at_call 65;(with_reducible refine (heard_lies.calls a2 0 (wrap64 ((l0_2.length:Int) - 1)) false _ A8.out).mono ?_);rintro e w' ⟨rfl,⟨nd,rfl⟩⟩))
    go_ret2
    exact ⟨by first|rfl|(simp [errW_none,errW_some] <;> rfl)|(simp [*,errW_none,errW_some] <;> rfl),by repeat (first|(with_reducible first|exact HB.out|apply below_alloc|apply pw_below_drewN|apply below_drew1|refine below_set ?_ GE297.out)|exact HB.out)⟩
  ·replace c7:=Bool.eq_false_iff.mpr c7
   subst c7
   rw [if_neg (show ¬ (false=true) by decide)] at H
   simp only [Option.some.injEq,Prod.mk.injEq] at H
   obtain ⟨rfl,rfl⟩:=H
   go_enter Tryd.func31,Tryd.ntmps31
   go_wp2_with (first|((with_reducible refine gate_dst (N:=3) rfl ?_);(try (refine gate_guard (by rfl) ?_;dsimp only));refine box_event ?hg (N:=3) ?hd (cs:=#[.int .i64 a0_0,.slice A0_1 l0_1.length c0_1,.slice A0_2 l0_2.length c0_2]) (t:=27) ?hr ?_;(case hd=>rfl);(case hg=>rfl);(case hr=>first|(go_simp;done)|(go_simp;rfl));intro gb297 hg w25 hbox hb;have n0_:=Aside0.mk (below_step (by repeat (first|(with_reducible first|exact HB.out|apply below_alloc|apply pw_below_drewN|apply below_drew1)|exact HB.out)) hb);have n1_:=Aside0.mk (hbox);have n2_:=Aside0.mk ((by rw [hg];exact (below_size (by repeat (first|(with_reducible first|exact HB.out|apply below_alloc|apply pw_below_drewN|apply below_drew1)|exact HB.out))):w.heap.size≤gb297));have n3_:=Aside0.mk ((by rw [hg];exact (below_size (by repeat (first|(with_reducible first|exact HB.out|apply below_alloc|apply pw_below_drewN|apply below_drew1)|exact HB.out))):w.heap.size≤gb297));clear HB;have HB:=n0_;have BK297:=n1_;have GW297:=n2_;have GE297:=n3_;clear n0_ n1_ n2_ n3_;clear hb hbox hg;have hcz26_0:w25.cell? ⟨gb297,0,none⟩=some (.int .i64 a0_0):=(blk_cell BK297.out 0).trans rfl;have hcz26_1:w25.cell? ⟨gb297,1,none⟩=some (.slice A0_1 l0_1.length c0_1):=(blk_cell BK297.out 1).trans rfl;have hcz26_2:w25.cell? ⟨gb297,2,none⟩=some (.slice A0_2 l0_2.length c0_2):=(blk_cell BK297.out 2).trans rfl;have hfz26_0:=blk_frozen BK297.out 0;have hfz26_1:=blk_frozen BK297.out 1;have hfz26_2:=blk_frozen BK297.out 2)|((with_reducible refine gate_callee (f:=17) rfl ?_);refine goesL_ (some 10) rfl rfl Tryd.func17 (by kernel_rfl) rfl #[.agg #[.int .i64 a0_0,.slice A0_1 l0_1.length c0_1,.slice A0_2 l0_2.length c0_2]] rfl (by (try simp only [List.map_toArray,List.map_cons,List.map_nil]);first|done|rfl|(simp only [List.length_drop,List.length_take];rfl)) ?_;(with_reducible refine (heard_Check.calls k a0_0 _ _ l0_1 _ _ l0_2 t298 _ ?side1 ?side2 ?side3 ?side4 A4.out).mono ?_);(case side1=>repeat (first|exact (Kd.C_below HR0_1.out HB.out)|(with_reducible refine Kd.C_alloc ?_ _)|(with_reducible refine Kd.C_drewN ?_ _)|(with_reducible refine Kd.C_drew ?_)));(case side2=>exact HC0_1.out);(case side3=>repeat (first|exact (Kd.C_below HR0_2.out HB.out)|(with_reducible refine Kd.C_alloc ?_ _)|(with_reducible refine Kd.C_drewN ?_ _)|(with_reducible refine Kd.C_drew ?_)));(case side4=>exact HC0_2.out);rintro e w27 ⟨rfl,hb⟩;refine ⟨_,rfl,?_⟩;have n0_:=Aside0.mk (blk_below (g:=gb297) (o:=.cells #[.int .i64 a0_0,.slice A0_1 l0_1.length c0_1,.slice A0_2 l0_2.length c0_2] 27 (0,0)) (by (with_reducible repeat (first|refine blk_drewN ?_ _|refine blk_drew ?_|refine blk_alloc ?_ _));exact BK297.out) hb);have n1_:=Aside0.mk (below_step (by repeat (first|(with_reducible first|exact HB.out|apply below_alloc|apply pw_below_drewN|apply below_drew1|refine below_set ?_ GE297.out)|exact HB.out)) hb);clear BK297;clear HB;have BK297:=n0_;have HB:=n1_;clear n0_ n1_;(try clear hb);(try clear hb2);(try clear hk);(try clear hi);have hcz28_0:w27.cell? ⟨gb297,0,none⟩=some (.int .i64 a0_0):=(blk_cell BK297.out 0).trans rfl;have hcz28_1:w27.cell? ⟨gb297,1,none⟩=some (.slice A0_1 l0_1.length c0_1):=(blk_cell BK297.out 1).trans rfl;have hcz28_2:w27.cell? ⟨gb297,2,none⟩=some (.slice A0_2 l0_2.length c0_2):=(blk_cell BK297.out 2).trans rfl;have hfz28_0:=blk_frozen BK297.out 0;have hfz28_1:=blk_frozen BK297.out 1;have hfz28_2:=blk_frozen BK297.out 2)|((with_reducible refine gate_callee (f:=65) rfl ?_);refine goesL_ (some 19) rfl rfl Tryd.func65 (by kernel_rfl) rfl #[.int .i64 a1,.int .i64 0,.int .i64 (wrap64 ((l0_2.length:Int) - 1))] rfl (by (try simp only [List.map_toArray,List.map_cons,List.map_nil]);first|done|rfl|(simp only [List.length_drop,List.length_take];rfl)) ?_;(with_reducible refine (heard_lies.calls a1 0 (wrap64 ((l0_2.length:Int) - 1)) false _ A6.out).mono ?_);rintro e w' ⟨rfl,⟨nd,rfl⟩⟩;refine ⟨_,rfl,?_⟩))
   go_ret2
   exact ⟨by first|rfl|(simp [errW_none,errW_some] <;> rfl)|(simp [*,errW_none,errW_some] <;> rfl),by repeat (first|(with_reducible first|exact HB.out|apply below_alloc|apply pw_below_drewN|apply below_drew1|refine below_set ?_ GE297.out)|exact HB.out)⟩
 ·rw [if_neg c5] at H
  have c5b0:(t298 == 0)=false:=beq_eq_false_iff_ne.mpr c5
  have c5b1:(t298 != 0)=true:=bne_iff_ne.mpr c5
  simp only [Option.some.injEq,Prod.mk.injEq] at H
  obtain ⟨rfl,rfl⟩:=H
  go_enter Tryd.func31,Tryd.ntmps31
  go_wp2_with (first|((with_reducible refine gate_dst (N:=3) rfl ?_);(try (refine gate_guard (by rfl) ?_;dsimp only));refine box_event ?hg (N:=3) ?hd (cs:=#[.int .i64 a0_0,.slice A0_1 l0_1.length c0_1,.slice A0_2 l0_2.length c0_2]) (t:=27) ?hr ?_;(case hd=>rfl);(case hg=>rfl);(case hr=>first|(go_simp;done)|(go_simp;rfl));intro gb297 hg w29 hbox hb;have n0_:=Aside0.mk (below_step (by repeat (first|(with_reducible first|exact HB.out|apply below_alloc|apply pw_below_drewN|apply below_drew1)|exact HB.out)) hb);have n1_:=Aside0.mk (hbox);have n2_:=Aside0.mk ((by rw [hg];exact (below_size (by repeat (first|(with_reducible first|exact HB.out|apply below_alloc|apply pw_below_drewN|apply below_drew1)|exact HB.out))):w.heap.size≤gb297));have n3_:=Aside0.mk ((by rw [hg];exact (below_size (by repeat (first|(with_reducible first|exact HB.out|apply below_alloc|apply pw_below_drewN|apply below_drew1)|exact HB.out))):w.heap.size≤gb297));clear HB;have HB:=n0_;have BK297:=n1_;have GW297:=n2_;have GE297:=n3_;clear n0_ n1_ n2_ n3_;clear hb hbox hg;have hcz30_0:w29.cell? ⟨gb297,0,none⟩=some (.int .i64 a0_0):=(blk_cell BK297.out 0).trans rfl;have hcz30_1:w29.cell? ⟨gb297,1,none⟩=some (.slice A0_1 l0_1.length c0_1):=(blk_cell BK297.out 1).trans rfl;have hcz30_2:w29.cell? ⟨gb297,2,none⟩=some (.slice A0_2 l0_2.length c0_2):=(blk_cell BK297.out 2).trans rfl;have hfz30_0:=blk_frozen BK297.out 0;have hfz30_1:=blk_frozen BK297.out 1;have hfz30_2:=blk_frozen BK297.out 2)|((with_reducible refine gate_callee (f:=17) rfl ?_);refine goesL_ (some 10) rfl rfl Tryd.func17 (by kernel_rfl) rfl #[.agg #[.int .i64 a0_0,.slice A0_1 l0_1.length c0_1,.slice A0_2 l0_2.length c0_2]] rfl (by (try simp only [List.map_toArray,List.map_cons,List.map_nil]);first|done|rfl|(simp only [List.length_drop,List.length_take];rfl)) ?_;(with_reducible refine (heard_Check.calls k a0_0 _ _ l0_1 _ _ l0_2 t298 _ ?side1 ?side2 ?side3 ?side4 A4.out).mono ?_);(case side1=>repeat (first|exact (Kd.C_below HR0_1.out HB.out)|(with_reducible refine Kd.C_alloc ?_ _)|(with_reducible refine Kd.C_drewN ?_ _)|(with_reducible refine Kd.C_drew ?_)));(case side2=>exact HC0_1.out);(case side3=>repeat (first|exact (Kd.C_below HR0_2.out HB.out)|(with_reducible refine Kd.C_alloc ?_ _)|(with_reducible refine Kd.C_drewN ?_ _)|(with_reducible refine Kd.C_drew ?_)));(case side4=>exact HC0_2.out);rintro e w31 ⟨rfl,hb⟩;refine ⟨_,rfl,?_⟩;have n0_:=Aside0.mk (blk_below (g:=gb297) (o:=.cells #[.int .i64 a0_0,.slice A0_1 l0_1.length c0_1,.slice A0_2 l0_2.length c0_2] 27 (0,0)) (by (with_reducible repeat (first|refine blk_drewN ?_ _|refine blk_drew ?_|refine blk_alloc ?_ _));exact BK297.out) hb);have n1_:=Aside0.mk (below_step (by repeat (first|(with_reducible first|exact HB.out|apply below_alloc|apply pw_below_drewN|apply below_drew1|refine below_set ?_ GE297.out)|exact HB.out)) hb);clear BK297;clear HB;have BK297:=n0_;have HB:=n1_;clear n0_ n1_;(try clear hb);(try clear hb2);(try clear hk);(try clear hi)))
  go_ret2
  exact ⟨by first|rfl|(simp [errW_none,errW_some] <;> rfl)|(simp [*,errW_none,errW_some] <;> rfl),by repeat (first|(with_reducible first|exact HB.out|apply below_alloc|apply pw_below_drewN|apply below_drew1|refine below_set ?_ GE297.out)|exact HB.out)⟩
end Go.Proofs.YthnilelmhpmanaaDoor.PHeardFits
end
section
namespace Go.Proofs.YthnilelmhpmanaaDoor.PHeardFits
open Go.RowKit Go.Proofs.YthnilelmhpmanaaDoorW.PrintWords Go.Proofs.YthnilelmhpmanaaDoorW.PrintLast Go.Proofs.YthnilelmhpmanaaDoorW.PrintMore
attribute [local go_sem] max2_int min2_int max_two min_two max_three min_three max_four min_four
set_option linter.unusedVariables false
set_option linter.unusedSimpArgs false
mutual
def heard_Known.l0:Nat→Int→List (S62)→Int→Int→Int→List (S85)→List (S62)→Option (Int×Int)
 | 0,_,_,_,_,_,_,_=>none
 | k+1,x5,x26,x27,x28,x314000,x314001,x314002=>if x28<x27 then (if 0≤x28 then (if x28<(x26.length:Int) then (if x28≤(x314002.length:Int) then ((some (x314002.take (x28:Int).toNat:List (S62))).bind fun y318=>(heard_Known.l1 k x5 x26 x27 x28 y318 (y318.length:Int) 0 x314000 x314001 x314002 ((rd_T62 x26 x28).f0) ((rd_T62 x26 x28).f1))) else (none)) else (none)) else (none)) else (if x5=0 then (some (0,4)) else (some (wrap64 (x5 - 1),0)))
def heard_Known.l1:Nat→Int→List (S62)→Int→Int→List (S62)→Int→Int→Int→List (S85)→List (S62)→Int→List Int→Option (Int×Int)
 | 0,_,_,_,_,_,_,_,_,_,_,_,_=>none
 | k+1,x5,x26,x27,x28,x36,x37,x38,x314000,x314001,x314002,x318000,x318001=>if x38<x37 then (if 0≤x38 then (if x38<(x36.length:Int) then ((heard_greatest_int.f k (x318001.length:Int) (([(((rd_T62 x36 x38).f1).length:Int)]:List Int))).bind fun t327=>((heard_common.f x318001 ((rd_T62 x36 x38).f1)).bind fun t328=>((heard_least_int.f k x5 (([wrap64 (t327 - t328)]:List Int))).bind fun t332=>(heard_Known.l1 k t332 x26 x27 x28 x36 x37 (wrap64 (x38+1)) x314000 x314001 x314002 x318000 x318001)))) else (none)) else (none)) else (heard_Known.l0 k x5 x26 x27 (wrap64 (x28+1)) x314000 x314001 x314002)
end
def heard_Known.f (k:Nat) (a0_0:Int) (l0_1:List (S85)) (l0_2:List (S62)):Option (Int×Int):=(heard_Check.f k a0_0 l0_1 l0_2).bind fun t314=>(if t314=0 then (if (l0_2.length:Int)=1 then (if 0<(l0_2.length:Int) then (some ((((rd_T62 l0_2 0).f1).length:Int),0)) else (none)) else (heard_Known.l0 k 1000 l0_2 (l0_2.length:Int) 0 a0_0 l0_1 l0_2)) else (some (0,t314)))
def heard_Known.T13:Bool×List (List Nat×List Nat):=(true,[([],[]),([],[]),([1],[1]),([2],[2]),([],[]),([4],[4]),([5],[5]),([6],[6]),([3,7],[3,7]),([],[]),([9],[9]),([],[]),([11],[11]),([10,12,8],[10,12]),([8,13],[8,13]),([14],[14]),([0,15,13],[0,15]),([16,16,0,1,2,3,4,5,6,7,8,9,10,11,12,13,14,15,16],[0,16])])
def heard_Known.B13:List Nat:=[0,0,2,6,0,16,48,112,254,0,512,0,2048,8190,16382,32766,65535,131071]
theorem heard_Known.tab13:rtab .any (opsOf Tryd.f35 13)=heard_Known.T13:=by kernel_rfl
theorem heard_Known.bits13:waitsOk heard_Known.T13.2 heard_Known.B13=true:=by kernel_rfl
set_option maxHeartbeats 8000000 in
set_option maxRecDepth 100000 in
theorem heard_Known.calls (k:Nat) (a0_0:Int) (A0_1:Option Addr) (c0_1:Nat) (l0_1:List (S85)) (A0_2:Option Addr) (c0_2:Nat) (l0_2:List (S62)) (r1:Int) (r2:Int) (w:World) (hr0_1:Kd.C k85 w A0_1 l0_1.length l0_1) (hc0_1:l0_1.length≤c0_1) (hr0_2:Kd.C k62 w A0_2 l0_2.length l0_2) (hc0_2:l0_2.length≤c0_2) (h:heard_Known.f k a0_0 l0_1 l0_2=some (r1,r2)) :
  Calls Tryd.prog 35 #[.agg #[.int .i64 a0_0,.slice A0_1 l0_1.length c0_1,.slice A0_2 l0_2.length c0_2]] w fun e w'=>e=.returned (.tuple #[.int .i64 r1,.int .i64 r2])∧Below w.heap.size w w':=by
 have hu27:=Tryd.underlying27
 have hu62:=Tryd.underlying62
 have HR0_1:=Aside0.mk hr0_1
 have HC0_1:=Aside0.mk hc0_1
 clear hr0_1 hc0_1
 have HR0_2:=Aside0.mk hr0_2
 have HC0_2:=Aside0.mk hc0_2
 clear hr0_2 hc0_2
 have HB:=Aside0.mk (Below.refl w.heap.size w)
 have H:((heard_Check.f k a0_0 l0_1 l0_2).bind fun t314=>(if t314=0 then (if (l0_2.length:Int)=1 then (if 0<(l0_2.length:Int) then (some ((((rd_T62 l0_2 0).f1).length:Int),0)) else (none)) else (heard_Known.l0 k 1000 l0_2 (l0_2.length:Int) 0 a0_0 l0_1 l0_2)) else (some (0,t314))))=some (r1,r2):=h
 clear h
 replace H:=Option.bind_eq_some_iff.mp H
 obtain ⟨t314,A20,H⟩:=H
 try dsimp only at H
 have A2:=Aside0.mk A20
 clear A20
 by_cases c3:t314=0
 ·rw [if_pos c3] at H
  have c3b0:(t314 == 0)=true:=beq_iff_eq.mpr c3
  have c3b1:(t314 != 0)=false:=bne_eq_false_iff_eq.mpr c3
  clear c3
  by_cases c4:(l0_2.length:Int)=1
  ·rw [if_pos c4] at H
   have c4b0:((l0_2.length:Int) == 1)=true:=beq_iff_eq.mpr c4
   have c4b1:((l0_2.length:Int) != 1)=false:=bne_eq_false_iff_eq.mpr c4
   clear c4
   by_cases c5:0<(l0_2.length:Int)
   ·rw [if_pos c5] at H
    have c5b0:decide (0<(l0_2.length:Int))=true:=decide_eq_true c5
    have c5b1:decide (0<l0_2.length)=true:=decide_eq_true (by omega)
    clear c5
    simp only [Option.some.injEq,Prod.mk.injEq] at H
    obtain ⟨rfl,rfl⟩:=H
    go_enter Tryd.func35,Tryd.ntmps35
    go_wp2_with (first|((with_reducible refine gate_dst (N:=1) rfl ?_);refine box_event ?hg (N:=1) ?hd (cs:=#[.int .i64 a0_0,.slice A0_1 l0_1.length c0_1,.slice A0_2 l0_2.length c0_2]) (t:=27) ?hr ?_;(case hd=>rfl);(case hg=>rfl);(case hr=>first|(go_simp;done)|(go_simp;rfl));intro gb313 hg w6 hbox hb;have n0_:=Aside0.mk (below_step (by repeat (first|(with_reducible first|exact HB.out|apply below_alloc|apply pw_below_drewN|apply below_drew1)|exact HB.out)) hb);have n1_:=Aside0.mk (hbox);have n2_:=Aside0.mk ((by rw [hg];exact (below_size (by repeat (first|(with_reducible first|exact HB.out|apply below_alloc|apply pw_below_drewN|apply below_drew1)|exact HB.out))):w.heap.size≤gb313));have n3_:=Aside0.mk ((by rw [hg];exact (below_size (by repeat (first|(with_reducible first|exact HB.out|apply below_alloc|apply pw_below_drewN|apply below_drew1)|exact HB.out))):w.heap.size≤gb313));clear HB;have HB:=n0_;have BK313:=n1_;have GW313:=n2_;have GE313:=n3_;clear n0_ n1_ n2_ n3_;clear hb hbox hg;have hcz7_0:w6.cell? ⟨gb313,0,none⟩=some (.int .i64 a0_0):=(blk_cell BK313.out 0).trans rfl;have hcz7_1:w6.cell? ⟨gb313,1,none⟩=some (.slice A0_1 l0_1.length c0_1):=(blk_cell BK313.out 1).trans rfl;have hcz7_2:w6.cell? ⟨gb313,2,none⟩=some (.slice A0_2 l0_2.length c0_2):=(blk_cell BK313.out 2).trans rfl;have hfz7_0:=blk_frozen BK313.out 0;have hfz7_1:=blk_frozen BK313.out 1;have hfz7_2:=blk_frozen BK313.out 2)|((with_reducible refine gate_callee (f:=17) rfl ?_);refine goesL_ (some 11) rfl rfl Tryd.func17 (by kernel_rfl) rfl #[.agg #[.int .i64 a0_0,.slice A0_1 l0_1.length c0_1,.slice A0_2 l0_2.length c0_2]] rfl (by (try simp only [List.map_toArray,List.map_cons,List.map_nil]);first|done|rfl|(simp only [List.length_drop,List.length_take];rfl)) ?_;(with_reducible refine (heard_Check.calls k a0_0 _ _ l0_1 _ _ l0_2 t314 _ ?side1 ?side2 ?side3 ?side4 A2.out).mono ?_);(case side1=>repeat (first|exact (Kd.C_below HR0_1.out HB.out)|(with_reducible refine Kd.C_alloc ?_ _)|(with_reducible refine Kd.C_drewN ?_ _)|(with_reducible refine Kd.C_drew ?_)));(case side2=>exact HC0_1.out);(case side3=>repeat (first|exact (Kd.C_below HR0_2.out HB.out)|(with_reducible refine Kd.C_alloc ?_ _)|(with_reducible refine Kd.C_drewN ?_ _)|(with_reducible refine Kd.C_drew ?_)));(case side4=>exact HC0_2.out);rintro e w8 ⟨rfl,hb⟩;refine ⟨_,rfl,?_⟩;have n0_:=Aside0.mk (blk_below (g:=gb313) (o:=.cells #[.int .i64 a0_0,.slice A0_1 l0_1.length c0_1,.slice A0_2 l0_2.length c0_2] 27 (0,0)) (by (with_reducible repeat (first|refine blk_drewN ?_ _|refine blk_drew ?_|refine blk_alloc ?_ _));exact BK313.out) hb);have n1_:=Aside0.mk (below_step (by repeat (first|(with_reducible first|exact HB.out|apply below_alloc|apply pw_below_drewN|apply below_drew1|refine below_set ?_ GE313.out)|exact HB.out)) hb);clear BK313;clear HB;have BK313:=n0_;have HB:=n1_;clear n0_ n1_;(try clear hb);(try clear hb2);(try clear hk);(try clear hi);have hcz9_0:w8.cell? ⟨gb313,0,none⟩=some (.int .i64 a0_0):=(blk_cell BK313.out 0).trans rfl;have hcz9_1:w8.cell? ⟨gb313,1,none⟩=some (.slice A0_1 l0_1.length c0_1):=(blk_cell BK313.out 1).trans rfl;have hcz9_2:w8.cell? ⟨gb313,2,none⟩=some (.slice A0_2 l0_2.length c0_2):=(blk_cell BK313.out 2).trans rfl;have hfz9_0:=blk_frozen BK313.out 0;have hfz9_1:=blk_frozen BK313.out 1;have hfz9_2:=blk_frozen BK313.out 2;have p315:0≤(0:Int):=(by omega);have q315:0<(l0_2.length:Int):=of_decide_eq_true (by first|(with_reducible assumption)|assumption);obtain ⟨ad315,A315_1,c315_1,e315,hx315_0,hx315_1,hl315_1,hi315_1⟩:=at_T62 HR0_2.out 0 p315 q315;cases e315;have qi315:(0<l0_2.length)=True:=eq_true (by omega);(try rw [show ((0:Int)).toNat=0 from rfl] at hx315_0);(try rw [show 0 * 2=0 from rfl] at hx315_0);(try rw [Addr.add_zero'] at hx315_0);(try rw [show ((0:Int)).toNat=0 from rfl] at hx315_1);(try rw [show 0 * 2=0 from rfl] at hx315_1);(try rw [Addr.add_zero'] at hx315_1);replace hx315_0:=(HB.out.cell (World.block_lt_of_cell? w _ hx315_0)).trans hx315_0;replace hx315_1:=(HB.out.cell (World.block_lt_of_cell? w _ hx315_1)).trans hx315_1;have HR315_1:=Aside0.mk hi315_1;have HC315_1:=Aside0.mk hl315_1;clear hi315_1 hl315_1;replace p315:=eq_true p315;replace q315:=eq_true q315))
    go_ret2
    exact ⟨by first|rfl|(simp [errW_none,errW_some] <;> rfl)|(simp [*,errW_none,errW_some] <;> rfl),by repeat (first|(with_reducible first|exact HB.out|apply below_alloc|apply pw_below_drewN|apply below_drew1|refine below_set ?_ GE313.out)|exact HB.out)⟩
   ·rw [if_neg c5] at H
    exact absurd H (by simp)
  ·rw [if_neg c4] at H
   have c4b0:((l0_2.length:Int) == 1)=false:=beq_eq_false_iff_ne.mpr c4
   have c4b1:((l0_2.length:Int) != 1)=true:=bne_iff_ne.mpr c4
   have H':=Aside0.mk H
   clear H
   go_enter Tryd.func35,Tryd.ntmps35
   go_wp2_with (first|((with_reducible refine gate_dst (N:=1) rfl ?_);refine box_event ?hg (N:=1) ?hd (cs:=#[.int .i64 a0_0,.slice A0_1 l0_1.length c0_1,.slice A0_2 l0_2.length c0_2]) (t:=27) ?hr ?_;(case hd=>rfl);(case hg=>rfl);(case hr=>first|(go_simp;done)|(go_simp;rfl));intro gb313 hg w10 hbox hb;have n0_:=Aside0.mk (below_step (by repeat (first|(with_reducible first|exact HB.out|apply below_alloc|apply pw_below_drewN|apply below_drew1)|exact HB.out)) hb);have n1_:=Aside0.mk (hbox);have n2_:=Aside0.mk ((by rw [hg];exact (below_size (by repeat (first|(with_reducible first|exact HB.out|apply below_alloc|apply pw_below_drewN|apply below_drew1)|exact HB.out))):w.heap.size≤gb313));have n3_:=Aside0.mk ((by rw [hg];exact (below_size (by repeat (first|(with_reducible first|exact HB.out|apply below_alloc|apply pw_below_drewN|apply below_drew1)|exact HB.out))):w.heap.size≤gb313));clear HB;have HB:=n0_;have BK313:=n1_;have GW313:=n2_;have GE313:=n3_;clear n0_ n1_ n2_ n3_;clear hb hbox hg;have hcz11_0:w10.cell? ⟨gb313,0,none⟩=some (.int .i64 a0_0):=(blk_cell BK313.out 0).trans rfl;have hcz11_1:w10.cell? ⟨gb313,1,none⟩=some (.slice A0_1 l0_1.length c0_1):=(blk_cell BK313.out 1).trans rfl;have hcz11_2:w10.cell? ⟨gb313,2,none⟩=some (.slice A0_2 l0_2.length c0_2):=(blk_cell BK313.out 2).trans rfl;have hfz11_0:=blk_frozen BK313.out 0;have hfz11_1:=blk_frozen BK313.out 1;have hfz11_2:=blk_frozen BK313.out 2)|((with_reducible refine gate_callee (f:=17) rfl ?_);refine goesL_ (some 11) rfl rfl Tryd.func17 (by kernel_rfl) rfl #[.agg #[.int .i64 a0_0,.slice A0_1 l0_1.length c0_1,.slice A0_2 l0_2.length c0_2]] rfl (by (try simp only [List.map_toArray,List.map_cons,List.map_nil]);first|done|rfl|(simp only [List.length_drop,List.length_take];rfl)) ?_;(with_reducible refine (heard_Check.calls k a0_0 _ _ l0_1 _ _ l0_2 t314 _ ?side1 ?side2 ?side3 ?side4 A2.out).mono ?_);(case side1=>repeat (first|exact (Kd.C_below HR0_1.out HB.out)|(with_reducible refine Kd.C_alloc ?_ _)|(with_reducible refine Kd.C_drewN ?_ _)|(with_reducible refine Kd.C_drew ?_)));(case side2=>exact HC0_1.out);(case side3=>repeat (first|exact (Kd.C_below HR0_2.out HB.out)|(with_reducible refine Kd.C_alloc ?_ _)|(with_reducible refine Kd.C_drewN ?_ _)|(with_reducible refine Kd.C_drew ?_)));(case side4=>exact HC0_2.out);rintro e w12 ⟨rfl,hb⟩;refine ⟨_,rfl,?_⟩;have n0_:=Aside0.mk (blk_below (g:=gb313) (o:=.cells #[.int .i64 a0_0,.slice A0_1 l0_1.length c0_1,.slice A0_2 l0_2.length c0_2] 27 (0,0)) (by (with_reducible repeat (first|refine blk_drewN ?_ _|refine blk_drew ?_|refine blk_alloc ?_ _));exact BK313.out) hb);have n1_:=Aside0.mk (below_step (by repeat (first|(with_reducible first|exact HB.out|apply below_alloc|apply pw_below_drewN|apply below_drew1|refine below_set ?_ GE313.out)|exact HB.out)) hb);clear BK313;clear HB;have BK313:=n0_;have HB:=n1_;clear n0_ n1_;(try clear hb);(try clear hb2);(try clear hk);(try clear hi);have hcz13_0:w12.cell? ⟨gb313,0,none⟩=some (.int .i64 a0_0):=(blk_cell BK313.out 0).trans rfl;have hcz13_1:w12.cell? ⟨gb313,1,none⟩=some (.slice A0_1 l0_1.length c0_1):=(blk_cell BK313.out 1).trans rfl;have hcz13_2:w12.cell? ⟨gb313,2,none⟩=some (.slice A0_2 l0_2.length c0_2):=(blk_cell BK313.out 2).trans rfl;have hfz13_0:=blk_frozen BK313.out 0;have hfz13_1:=blk_frozen BK313.out 1;have hfz13_2:=blk_frozen BK313.out 2))
   go_loopg [5,28] k (fun kq v5 v28 w'=>∃ (x5_1:Int) (x28_1:Int),v5=.int .i64 x5_1∧v28=.int .i64 x28_1∧Aside0 (heard_Known.l0 kq x5_1 l0_2 (l0_2.length:Int) x28_1 a0_0 l0_1 l0_2=some (r1,r2))∧Aside0 (kq≤k)∧Aside0 (w'.heap[gb313]?=some (.cells #[.int .i64 a0_0,(.slice A0_1 l0_1.length c0_1),(.slice A0_2 l0_2.length c0_2)] 27 (0,0)))∧Aside0 (Below w.heap.size w w'))
   case atStart=>exact ⟨(1000),(0),(by first|rfl|(simp;done)|(simp [*];done)),(by first|rfl|(simp;done)|(simp [*];done)),H',⟨Nat.le_refl _⟩,⟨by (with_reducible repeat (first|refine blk_drewN ?_ _|refine blk_drew ?_|refine blk_alloc ?_ _));exact BK313.out⟩,⟨by repeat (first|(with_reducible first|exact HB.out|apply below_alloc|apply pw_below_drewN|apply below_drew1|refine below_set ?_ GE313.out)|exact HB.out)⟩⟩
   case round =>
    clear H'
    try clear c1
    try clear p2
    try clear c3
    try clear c3b0
    try clear c3b1
    try clear p3
    try clear q3
    try clear hx3
    try clear qi3
    try clear c4
    try clear c4b0
    try clear c4b1
    try clear c5
    try clear c5b0
    try clear c5b1
    try clear hcz11_0
    try clear hcz11_1
    try clear hcz11_2
    try clear hcz13_0
    try clear hcz13_1
    try clear hcz13_2
    try clear hcz7_0
    try clear hcz7_1
    try clear hcz7_2
    try clear hcz9_0
    try clear hcz9_1
    try clear hcz9_2
    try clear hfz11_0
    try clear hfz11_1
    try clear hfz11_2
    try clear hfz13_0
    try clear hfz13_1
    try clear hfz13_2
    try clear hfz7_0
    try clear hfz7_1
    try clear hfz7_2
    try clear hfz9_0
    try clear hfz9_1
    try clear hfz9_2
    try clear hx315_0
    try clear hx315_1
    try clear p315
    try clear q315
    obtain ⟨x5_1,x28_1,rfl,rfl,HA,HK1,BK313,HB⟩:=hrel
    cases gk with
    | zero=>exact absurd HA.out (by simp [heard_Known.l0])
    | succ k1 =>
     have H:=HA.out
     clear HA
     simp only [heard_Known.l0] at H
     by_cases c14:x28_1<(l0_2.length:Int)
     ·rw [if_pos c14] at H
      have c14b0:decide (x28_1<(l0_2.length:Int))=true:=decide_eq_true c14
      clear c14
      by_cases c15:0≤x28_1
      ·rw [if_pos c15] at H
       have c15b0:decide (0≤x28_1)=true:=decide_eq_true c15
       clear c15
       by_cases c16:x28_1<(l0_2.length:Int)
       ·rw [if_pos c16] at H
        have c16b0:decide (x28_1<(l0_2.length:Int))=true:=decide_eq_true c16
        clear c16
        have c17b0:=eq_true (of_decide_eq_true (by first|(with_reducible assumption)|assumption):0≤x28_1)
        by_cases c18:x28_1≤(l0_2.length:Int)
        ·rw [if_pos c18] at H
         have c18b0:=eq_true c18
         have c18b1:decide (x28_1≤(l0_2.length:Int))=true:=decide_eq_true c18
         clear c18
         obtain ⟨y318,hy318⟩:∃ y_:List (S62),y_=(l0_2.take (x28_1:Int).toNat):=⟨_,rfl⟩
         replace H:(heard_Known.l1 k1 x5_1 l0_2 (l0_2.length:Int) x28_1 y318 (y318.length:Int) 0 a0_0 l0_1 l0_2 ((rd_T62 l0_2 x28_1).f0) ((rd_T62 l0_2 x28_1).f1))=some (r1,r2):=by first|(rw [hy318];with_reducible exact H)|(have H2_:=(Option.bind_some _ _).symm.trans H;rw [hy318];with_reducible exact H2_)|(have H2_:=(Option.bind_some _ _).symm.trans H;with_reducible exact H2_)|with_reducible exact H|(rw [hy318];exact H)|exact H
         have Ny318:=Aside0.mk hy318
         clear hy318
         have H':=Aside0.mk H
         clear H
         have p316:0≤(x28_1:Int):=of_decide_eq_true (by first|(with_reducible assumption)|assumption)
         have q316:x28_1<(l0_2.length:Int):=of_decide_eq_true (by first|(with_reducible assumption)|assumption)
         obtain ⟨ad316,A316_1,c316_1,e316,hx316_0,hx316_1,hl316_1,hi316_1⟩:=at_T62 HR0_2.out x28_1 p316 q316
         cases e316
         replace hx316_0:=(HB.out.cell (World.block_lt_of_cell? w _ hx316_0)).trans hx316_0
         replace hx316_1:=(HB.out.cell (World.block_lt_of_cell? w _ hx316_1)).trans hx316_1
         have HR316_1:=Aside0.mk hi316_1
         have HC316_1:=Aside0.mk hl316_1
         clear hi316_1 hl316_1
         replace p316:=eq_true p316
         replace q316:=eq_true q316
         go_wp2_with (first|((with_reducible refine gate_dst (N:=7) rfl ?_);refine box_event ?hg (N:=7) ?hd (cs:=#[.int .i64 0,.slice none 0 0]) (t:=62) ?hr ?_;(case hd=>rfl);(case hg=>rfl);(case hr=>first|(go_simp;done)|(go_simp;rfl));intro gb317 hg w19 hbox hb;have n0_:=Aside0.mk (blk_below (g:=gb313) (o:=.cells #[.int .i64 a0_0,.slice A0_1 l0_1.length c0_1,.slice (some ad316) l0_2.length c0_2] 27 (0,0)) (by (with_reducible repeat (first|refine blk_drewN ?_ _|refine blk_drew ?_|refine blk_alloc ?_ _));exact BK313.out) hb);have n1_:=Aside0.mk (below_step (by repeat (first|(with_reducible first|exact HB.out|apply below_alloc|apply pw_below_drewN|apply below_drew1|refine below_set ?_ GE313.out)|exact HB.out)) hb);have n2_:=Aside0.mk (hbox);have n3_:=Aside0.mk ((by rw [hg];exact (below_size (by repeat (first|(with_reducible first|exact HB.out|apply below_alloc|apply pw_below_drewN|apply below_drew1|refine below_set ?_ GE313.out)|exact HB.out))):w.heap.size≤gb317));have n4_:=Aside0.mk ((by rw [hg];exact (below_size (by repeat (first|(with_reducible first|exact HB.out|apply below_alloc|apply pw_below_drewN|apply below_drew1|refine below_set ?_ GE313.out)|exact HB.out))):w.heap.size≤gb317));have n5_:=Aside0.mk ((by rw [hg];exact Nat.ne_of_lt (blk_lt (g:=gb313) (o:=.cells #[.int .i64 a0_0,.slice A0_1 l0_1.length c0_1,.slice (some ad316) l0_2.length c0_2] 27 (0,0)) (by (with_reducible repeat (first|refine blk_drewN ?_ _|refine blk_drew ?_|refine blk_alloc ?_ _));exact BK313.out)):gb313≠gb317));have n6_:=Aside0.mk ((by rw [hg];exact Nat.ne_of_gt (blk_lt (g:=gb313) (o:=.cells #[.int .i64 a0_0,.slice A0_1 l0_1.length c0_1,.slice (some ad316) l0_2.length c0_2] 27 (0,0)) (by (with_reducible repeat (first|refine blk_drewN ?_ _|refine blk_drew ?_|refine blk_alloc ?_ _));exact BK313.out)):gb317≠gb313));clear BK313;clear HB;have BK313:=n0_;have HB:=n1_;have BK317:=n2_;have GW317:=n3_;have GE317:=n4_;have NB313_317:=n5_;have NB317_313:=n6_;clear n0_ n1_ n2_ n3_ n4_ n5_ n6_;clear hb hbox hg;have hnb20:=NB317_313.out;have hnc20:=NB313_317.out;have hcz21_0:w19.cell? ⟨gb317,0,none⟩=some (.int .i64 0):=(blk_cell BK317.out 0).trans rfl;have hcz21_1:w19.cell? ⟨gb317,1,none⟩=some (.slice none 0 0):=(blk_cell BK317.out 1).trans rfl;have hfz21_0:=blk_frozen BK317.out 0;have hfz21_1:=blk_frozen BK317.out 1)|((with_reducible refine gate_store (t:=62) (p:=7) rfl ?_);refine store_event (t:=62) (p:=7) (v:=?vo_w22) (w1:=((w19.setCell ⟨gb317,0,none⟩ (.int .i64 ((rd_T62 l0_2 x28_1).f0))).setCell ⟨gb317,1,none⟩ (.slice A316_1 ((rd_T62 l0_2 x28_1).f1).length c316_1))) ?hg ?ho ?hn ?hr ?_;(case ho=>rfl);(case hg=>rfl);(case hn=>rfl);(case hr=>first|(go_simp;done)|(go_simp;rfl));intro w22 hw;have n0_:Aside0 (w22.heap[gb313]?=some (.cells #[.int .i64 a0_0,.slice A0_1 l0_1.length c0_1,.slice (some ad316) l0_2.length c0_2] 27 (0,0))):=⟨(by rw [hw];exact (by (with_reducible repeat (first|refine blk_drewN ?_ _|refine blk_drew ?_|refine blk_alloc ?_ _));refine blk_far ?_ NB313_317.out _;(with_reducible repeat (first|refine blk_drewN ?_ _|refine blk_drew ?_|refine blk_alloc ?_ _));refine blk_far ?_ NB313_317.out _;(with_reducible repeat (first|refine blk_drewN ?_ _|refine blk_drew ?_|refine blk_alloc ?_ _));exact BK313.out))⟩;have n1_:Aside0 (w22.heap[gb317]?=some (.cells #[.int .i64 ((rd_T62 l0_2 x28_1).f0),.slice A316_1 ((rd_T62 l0_2 x28_1).f1).length c316_1] 62 (0,0))):=⟨(by rw [hw];exact (by (with_reducible repeat (first|refine blk_drewN ?_ _|refine blk_drew ?_|refine blk_alloc ?_ _));refine blk_put (cs:=#[.int .i64 ((rd_T62 l0_2 x28_1).f0),.slice none 0 0]) ?_ 1 _ rfl;(with_reducible repeat (first|refine blk_drewN ?_ _|refine blk_drew ?_|refine blk_alloc ?_ _));refine blk_put (cs:=#[.int .i64 0,.slice none 0 0]) ?_ 0 _ rfl;(with_reducible repeat (first|refine blk_drewN ?_ _|refine blk_drew ?_|refine blk_alloc ?_ _));exact BK317.out))⟩;have n2_:Aside0 (Below w.heap.size w w22):=⟨(by rw [hw];exact (by repeat (first|(with_reducible first|exact HB.out|apply below_alloc|apply pw_below_drewN|apply below_drew1|refine below_set ?_ GE313.out|refine below_set ?_ GE317.out)|exact HB.out)))⟩;clear hw;clear BK313;clear BK317;clear HB;have BK313:=n0_;have BK317:=n1_;have HB:=n2_;clear n0_ n1_ n2_;have hcz23_0:w22.cell? ⟨gb313,0,none⟩=some (.int .i64 a0_0):=(blk_cell BK313.out 0).trans rfl;have hcz23_1:w22.cell? ⟨gb313,1,none⟩=some (.slice A0_1 l0_1.length c0_1):=(blk_cell BK313.out 1).trans rfl;have hcz23_2:w22.cell? ⟨gb313,2,none⟩=some (.slice (some ad316) l0_2.length c0_2):=(blk_cell BK313.out 2).trans rfl;have hfz23_0:=blk_frozen BK313.out 0;have hfz23_1:=blk_frozen BK313.out 1;have hfz23_2:=blk_frozen BK313.out 2;have q24:(x28_1:Int)≤((l0_2.length:Int):Int):=of_decide_eq_true (by first|(with_reducible assumption)|assumption);obtain ⟨i024,hi024,_,hsz24,_⟩:=info_parts info62;have hroom24:l0_2.length≤c0_2:=HC0_2.out;have hC24:Kd.C k62 _ (some ad316) l0_2.length l0_2:=HR0_2.out;have hcut24:=cut_to (P:=Tryd.prog) 25 62 .i64 Tryd.underlying25 hi024 (some ad316) l0_2.length c0_2 x28_1 (of_decide_eq_true (by first|(with_reducible assumption)|assumption)) q24 hroom24;have hr24:=Kd.C_take (m:=(x28_1:Int).toNat) hC24 (by omega);have hy24:y318.length=(x28_1:Int).toNat:=(by rw [Ny318.out,List.length_take];omega);rw [← Ny318.out] at hr24;rw [← hy24] at hcut24;have HR321:=Aside0.mk hr24;have HC321:=Aside0.mk (show y318.length≤c0_2 from by omega);clear hr24 hC24 hroom24 hi024 hsz24;have KY24:=Aside0.mk hy24;clear hy24;replace q24:=eq_true q24))
         go_loopg [5,38] k1 (fun kq v5 v38 w'=>∃ (x5_2:Int) (x38_2:Int),v5=.int .i64 x5_2∧v38=.int .i64 x38_2∧Aside0 (heard_Known.l1 kq x5_2 l0_2 (l0_2.length:Int) x28_1 y318 (y318.length:Int) x38_2 a0_0 l0_1 l0_2 ((rd_T62 l0_2 x28_1).f0) ((rd_T62 l0_2 x28_1).f1)=some (r1,r2))∧Aside0 (kq≤k1)∧Aside0 (w'.heap[gb313]?=some (.cells #[.int .i64 a0_0,(.slice A0_1 l0_1.length c0_1),(.slice (some ad316) l0_2.length c0_2)] 27 (0,0)))∧Aside0 (w'.heap[gb317]?=some (.cells #[.int .i64 ((rd_T62 l0_2 x28_1).f0),(.slice A316_1 ((rd_T62 l0_2 x28_1).f1).length c316_1)] 62 (0,0)))∧Aside0 (Below w.heap.size w w'))
         case atStart=>exact ⟨(x5_1),(0),(by first|rfl|(simp;done)|(simp [*];done)),(by first|rfl|(simp;done)|(simp [*];done)),H',⟨Nat.le_refl _⟩,⟨by (with_reducible repeat (first|refine blk_drewN ?_ _|refine blk_drew ?_|refine blk_alloc ?_ _));exact BK313.out⟩,⟨by (with_reducible repeat (first|refine blk_drewN ?_ _|refine blk_drew ?_|refine blk_alloc ?_ _));exact BK317.out⟩,⟨by repeat (first|(with_reducible first|exact HB.out|apply below_alloc|apply pw_below_drewN|apply below_drew1|refine below_set ?_ GE313.out|refine below_set ?_ GE317.out)|exact HB.out)⟩⟩
         case round =>
          clear H'
          try clear c1
          try clear c2
          try clear p2
          try clear q2
          try clear c3
          try clear c3b0
          try clear c3b1
          try clear p3
          try clear q3
          try clear hx3
          try clear qi3
          try clear c4
          try clear c4b0
          try clear c4b1
          try clear c5
          try clear c5b0
          try clear c5b1
          try clear c14
          try clear c14b0
          try clear c15
          try clear c15b0
          try clear c16
          try clear c16b0
          try clear c17
          try clear c17b0
          try clear c18
          try clear c18b0
          try clear c18b1
          try clear c20
          try clear q24
          try clear hcz11_0
          try clear hcz11_1
          try clear hcz11_2
          try clear hcz13_0
          try clear hcz13_1
          try clear hcz13_2
          try clear hcz21_0
          try clear hcz21_1
          try clear hcz23_0
          try clear hcz23_1
          try clear hcz23_2
          try clear hcz7_0
          try clear hcz7_1
          try clear hcz7_2
          try clear hcz9_0
          try clear hcz9_1
          try clear hcz9_2
          try clear hfz11_0
          try clear hfz11_1
          try clear hfz11_2
          try clear hfz13_0
          try clear hfz13_1
          try clear hfz13_2
          try clear hfz21_0
          try clear hfz21_1
          try clear hfz23_0
          try clear hfz23_1
          try clear hfz23_2
          try clear hfz7_0
          try clear hfz7_1
          try clear hfz7_2
          try clear hfz9_0
          try clear hfz9_1
          try clear hfz9_2
          try clear hx315_0
          try clear hx315_1
          try clear hx316_0
          try clear hx316_1
          try clear p2
          try clear p3
          try clear p315
          try clear p316
          try clear q24
          try clear q3
          try clear q315
          try clear q316
          obtain ⟨x5_2,x38_2,rfl,rfl,HA,HK2,BK313,BK317,HB⟩:=hrel
          cases gk with
          | zero=>exact absurd HA.out (by simp [heard_Known.l1])
          | succ k2 =>
           have H:=HA.out
           clear HA
           simp only [heard_Known.l1] at H
           by_cases c25:x38_2<(y318.length:Int)
           ·rw [if_pos c25] at H
            have c25b0:decide (x38_2<(y318.length:Int))=true:=decide_eq_true c25
            clear c25
            by_cases c26:0≤x38_2
            ·rw [if_pos c26] at H
             have c26b0:decide (0≤x38_2)=true:=decide_eq_true c26
             clear c26
             by_cases c27:x38_2<(y318.length:Int)
             ·rw [if_pos c27] at H
              have c27b0:decide (x38_2<(y318.length:Int))=true:=decide_eq_true c27
              clear c27
              obtain ⟨y324,hy324⟩:∃ y_:List Int,y_=(([(((rd_T62 y318 x38_2).f1).length:Int)]:List Int)):=⟨_,rfl⟩
              replace H:((heard_greatest_int.f k2 (((rd_T62 l0_2 x28_1).f1).length:Int) y324).bind fun t327=>((heard_common.f ((rd_T62 l0_2 x28_1).f1) ((rd_T62 y318 x38_2).f1)).bind fun t328=>((heard_least_int.f k2 x5_2 (([wrap64 (t327 - t328)]:List Int))).bind fun t332=>(heard_Known.l1 k2 t332 l0_2 (l0_2.length:Int) x28_1 y318 (y318.length:Int) (wrap64 (x38_2+1)) a0_0 l0_1 l0_2 ((rd_T62 l0_2 x28_1).f0) ((rd_T62 l0_2 x28_1).f1)))))=some (r1,r2):=by first|(rw [hy324];with_reducible exact H)|(have H2_:=(Option.bind_some _ _).symm.trans H;rw [hy324];with_reducible exact H2_)|(have H2_:=(Option.bind_some _ _).symm.trans H;with_reducible exact H2_)|with_reducible exact H|(rw [hy324];exact H)|exact H
              have Ny324:=Aside0.mk hy324
              clear hy324
              replace H:=Option.bind_eq_some_iff.mp H
              obtain ⟨t327,A280,H⟩:=H
              try dsimp only at H
              have A28:=Aside0.mk A280
              clear A280
              replace H:=Option.bind_eq_some_iff.mp H
              obtain ⟨t328,A290,H⟩:=H
              try dsimp only at H
              have A29:=Aside0.mk A290
              clear A290
              obtain ⟨y329,hy329⟩:∃ y_:List Int,y_=(([wrap64 (t327 - t328)]:List Int)):=⟨_,rfl⟩
              replace H:((heard_least_int.f k2 x5_2 y329).bind fun t332=>(heard_Known.l1 k2 t332 l0_2 (l0_2.length:Int) x28_1 y318 (y318.length:Int) (wrap64 (x38_2+1)) a0_0 l0_1 l0_2 ((rd_T62 l0_2 x28_1).f0) ((rd_T62 l0_2 x28_1).f1)))=some (r1,r2):=by first|(rw [hy329];with_reducible exact H)|(have H2_:=(Option.bind_some _ _).symm.trans H;rw [hy329];with_reducible exact H2_)|(have H2_:=(Option.bind_some _ _).symm.trans H;with_reducible exact H2_)|with_reducible exact H|(rw [hy329];exact H)|exact H
              have Ny329:=Aside0.mk hy329
              clear hy329
              replace H:=Option.bind_eq_some_iff.mp H
              obtain ⟨t332,A300,H⟩:=H
              try dsimp only at H
              have A30:=Aside0.mk A300
              clear A300
              have H':=Aside0.mk H
              clear H
              have p322:0≤(x38_2:Int):=of_decide_eq_true (by first|(with_reducible assumption)|assumption)
              have q322:x38_2<(y318.length:Int):=of_decide_eq_true (by first|(with_reducible assumption)|assumption)
              obtain ⟨ad322,A322_1,c322_1,e322,hx322_0,hx322_1,hl322_1,hi322_1⟩:=at_T62 HR321.out x38_2 p322 q322
              obtain rfl:ad316=ad322:=(by injection e322)
              replace hx322_0:=(HB.out.cell (World.block_lt_of_cell? w _ hx322_0)).trans hx322_0
              replace hx322_1:=(HB.out.cell (World.block_lt_of_cell? w _ hx322_1)).trans hx322_1
              have HR322_1:=Aside0.mk hi322_1
              have HC322_1:=Aside0.mk hl322_1
              clear hi322_1 hl322_1
              replace p322:=eq_true p322
              replace q322:=eq_true q322
              try go_wp2_with (first|((with_reducible refine gate_dst (N:=9) rfl ?_);refine box_event ?hg (N:=9) ?hd (cs:=#[.int .i64 0,.slice none 0 0]) (t:=62) ?hr ?_;(case hd=>rfl);(case hg=>rfl);(case hr=>first|(go_simp;done)|(go_simp;rfl));intro gb323 hg w31 hbox hb;have n0_:=Aside0.mk (blk_below (g:=gb313) (o:=.cells #[.int .i64 a0_0,.slice A0_1 l0_1.length c0_1,.slice (some ad316) l0_2.length c0_2] 27 (0,0)) (by (with_reducible repeat (first|refine blk_drewN ?_ _|refine blk_drew ?_|refine blk_alloc ?_ _));exact BK313.out) hb);have n1_:=Aside0.mk (blk_below (g:=gb317) (o:=.cells #[.int .i64 ((rd_T62 l0_2 x28_1).f0),.slice A316_1 ((rd_T62 l0_2 x28_1).f1).length c316_1] 62 (0,0)) (by (with_reducible repeat (first|refine blk_drewN ?_ _|refine blk_drew ?_|refine blk_alloc ?_ _));exact BK317.out) hb);have n2_:=Aside0.mk (below_step (by repeat (first|(with_reducible first|exact HB.out|apply below_alloc|apply pw_below_drewN|apply below_drew1|refine below_set ?_ GE313.out|refine below_set ?_ GE317.out)|exact HB.out)) hb);have n3_:=Aside0.mk (hbox);have n4_:=Aside0.mk ((by rw [hg];exact (below_size (by repeat (first|(with_reducible first|exact HB.out|apply below_alloc|apply pw_below_drewN|apply below_drew1|refine below_set ?_ GE313.out|refine below_set ?_ GE317.out)|exact HB.out))):w.heap.size≤gb323));have n5_:=Aside0.mk ((by rw [hg];exact (below_size (by repeat (first|(with_reducible first|exact HB.out|apply below_alloc|apply pw_below_drewN|apply below_drew1|refine below_set ?_ GE313.out|refine below_set ?_ GE317.out)|exact HB.out))):w.heap.size≤gb323));have n6_:=Aside0.mk ((by rw [hg];exact Nat.ne_of_lt (blk_lt (g:=gb313) (o:=.cells #[.int .i64 a0_0,.slice A0_1 l0_1.length c0_1,.slice (some ad316) l0_2.length c0_2] 27 (0,0)) (by (with_reducible repeat (first|refine blk_drewN ?_ _|refine blk_drew ?_|refine blk_alloc ?_ _));exact BK313.out)):gb313≠gb323));have n7_:=Aside0.mk ((by rw [hg];exact Nat.ne_of_gt (blk_lt (g:=gb313) (o:=.cells #[.int .i64 a0_0,.slice A0_1 l0_1.length c0_1,.slice (some ad316) l0_2.length c0_2] 27 (0,0)) (by (with_reducible repeat (first|refine blk_drewN ?_ _|refine blk_drew ?_|refine blk_alloc ?_ _));exact BK313.out)):gb323≠gb313));have n8_:=Aside0.mk ((by rw [hg];exact Nat.ne_of_lt (blk_lt (g:=gb317) (o:=.cells #[.int .i64 ((rd_T62 l0_2 x28_1).f0),.slice A316_1 ((rd_T62 l0_2 x28_1).f1).length c316_1] 62 (0,0)) (by (with_reducible repeat (first|refine blk_drewN ?_ _|refine blk_drew ?_|refine blk_alloc ?_ _));exact BK317.out)):gb317≠gb323));have n9_:=Aside0.mk ((by rw [hg];exact Nat.ne_of_gt (blk_lt (g:=gb317) (o:=.cells #[.int .i64 ((rd_T62 l0_2 x28_1).f0),.slice A316_1 ((rd_T62 l0_2 x28_1).f1).length c316_1] 62 (0,0)) (by (with_reducible repeat (first|refine blk_drewN ?_ _|refine blk_drew ?_|refine blk_alloc ?_ _));exact BK317.out)):gb323≠gb317));clear BK313;clear BK317;clear HB;have BK313:=n0_;have BK317:=n1_;have HB:=n2_;have BK323:=n3_;have GW323:=n4_;have GE323:=n5_;have NB313_323:=n6_;have NB323_313:=n7_;have NB317_323:=n8_;have NB323_317:=n9_;clear n0_ n1_ n2_ n3_ n4_ n5_ n6_ n7_ n8_ n9_;clear hb hbox hg;have hnb32:=NB323_313.out;have hnc32:=NB313_323.out;have hnb33:=NB323_317.out;have hnc33:=NB317_323.out;have hcz34_0:w31.cell? ⟨gb323,0,none⟩=some (.int .i64 0):=(blk_cell BK323.out 0).trans rfl;have hcz34_1:w31.cell? ⟨gb323,1,none⟩=some (.slice none 0 0):=(blk_cell BK323.out 1).trans rfl;have hfz34_0:=blk_frozen BK323.out 0;have hfz34_1:=blk_frozen BK323.out 1))
              have n0_:Aside0 (((w31.setCell ⟨gb323,0,none⟩ (.int .i64 ((rd_T62 y318 x38_2).f0))).setCell ⟨gb323,1,none⟩ (.slice A322_1 ((rd_T62 y318 x38_2).f1).length c322_1)).heap[gb313]?=some (.cells #[.int .i64 a0_0,.slice A0_1 l0_1.length c0_1,.slice (some ad316) l0_2.length c0_2] 27 (0,0))):=⟨by (with_reducible repeat (first|refine blk_drewN ?_ _|refine blk_drew ?_|refine blk_alloc ?_ _));refine blk_far ?_ NB313_323.out _;(with_reducible repeat (first|refine blk_drewN ?_ _|refine blk_drew ?_|refine blk_alloc ?_ _));refine blk_far ?_ NB313_323.out _;(with_reducible repeat (first|refine blk_drewN ?_ _|refine blk_drew ?_|refine blk_alloc ?_ _));exact BK313.out⟩
              have n1_:Aside0 (((w31.setCell ⟨gb323,0,none⟩ (.int .i64 ((rd_T62 y318 x38_2).f0))).setCell ⟨gb323,1,none⟩ (.slice A322_1 ((rd_T62 y318 x38_2).f1).length c322_1)).heap[gb317]?=some (.cells #[.int .i64 ((rd_T62 l0_2 x28_1).f0),.slice A316_1 ((rd_T62 l0_2 x28_1).f1).length c316_1] 62 (0,0))):=⟨by (with_reducible repeat (first|refine blk_drewN ?_ _|refine blk_drew ?_|refine blk_alloc ?_ _));refine blk_far ?_ NB317_323.out _;(with_reducible repeat (first|refine blk_drewN ?_ _|refine blk_drew ?_|refine blk_alloc ?_ _));refine blk_far ?_ NB317_323.out _;(with_reducible repeat (first|refine blk_drewN ?_ _|refine blk_drew ?_|refine blk_alloc ?_ _));exact BK317.out⟩
              have n2_:Aside0 (((w31.setCell ⟨gb323,0,none⟩ (.int .i64 ((rd_T62 y318 x38_2).f0))).setCell ⟨gb323,1,none⟩ (.slice A322_1 ((rd_T62 y318 x38_2).f1).length c322_1)).heap[gb323]?=some (.cells #[.int .i64 ((rd_T62 y318 x38_2).f0),.slice A322_1 ((rd_T62 y318 x38_2).f1).length c322_1] 62 (0,0))):=⟨by (with_reducible repeat (first|refine blk_drewN ?_ _|refine blk_drew ?_|refine blk_alloc ?_ _));refine blk_put (cs:=#[.int .i64 ((rd_T62 y318 x38_2).f0),.slice none 0 0]) ?_ 1 _ rfl;(with_reducible repeat (first|refine blk_drewN ?_ _|refine blk_drew ?_|refine blk_alloc ?_ _));refine blk_put (cs:=#[.int .i64 0,.slice none 0 0]) ?_ 0 _ rfl;(with_reducible repeat (first|refine blk_drewN ?_ _|refine blk_drew ?_|refine blk_alloc ?_ _));exact BK323.out⟩
              have n3_:Aside0 (Below w.heap.size w ((w31.setCell ⟨gb323,0,none⟩ (.int .i64 ((rd_T62 y318 x38_2).f0))).setCell ⟨gb323,1,none⟩ (.slice A322_1 ((rd_T62 y318 x38_2).f1).length c322_1))):=⟨by repeat (first|(with_reducible first|exact HB.out|apply below_alloc|apply pw_below_drewN|apply below_drew1|refine below_set ?_ GE313.out|refine below_set ?_ GE317.out|refine below_set ?_ GE323.out)|exact HB.out)⟩
              (try clear BK313)
              (try clear BK317)
              (try clear BK323)
              (try clear HB)
              generalize ((w31.setCell ⟨gb323,0,none⟩ (.int .i64 ((rd_T62 y318 x38_2).f0))).setCell ⟨gb323,1,none⟩ (.slice A322_1 ((rd_T62 y318 x38_2).f1).length c322_1))=w35 at n0_ n1_ n2_ n3_ ⊢
              have BK313:=n0_
              have BK317:=n1_
              have BK323:=n2_
              have HB:=n3_
              clear n0_ n1_ n2_ n3_
              have n0_:=Aside0.mk (blk_drew BK313.out)
              have n1_:=Aside0.mk (blk_drew BK317.out)
              have n2_:=Aside0.mk (blk_drew BK323.out)
              have n3_:=Aside0.mk (below_drew1 HB.out)
              clear BK313
              clear BK317
              clear BK323
              clear HB
              have BK313:=n0_
              have BK317:=n1_
              have BK323:=n2_
              have HB:=n3_
              clear n0_ n1_ n2_ n3_
              refine start_ (n:=18) (S:=fun w'=>w'.cell? ⟨gb317,0,none⟩=some (.int .i64 ((rd_T62 l0_2 x28_1).f0))∧w'.cell? ⟨gb317,1,none⟩=some (.slice A316_1 ((rd_T62 l0_2 x28_1).f1).length c316_1)∧w'.cell? ⟨gb323,0,none⟩=some (.int .i64 ((rd_T62 y318 x38_2).f0))∧w'.cell? ⟨gb323,1,none⟩=some (.slice A322_1 ((rd_T62 y318 x38_2).f1).length c322_1)) (ds:=[]) #[false,false,false,false,false,false,false,false,false,false,false,false,false,false,false,false,false,false] (by kernel_rfl) rfl rfl ⟨(blk_cell BK317.out 0).trans rfl,(blk_cell BK317.out 1).trans rfl,(blk_cell BK323.out 0).trans rfl,(blk_cell BK323.out 1).trans rfl⟩ (fun hHeld=>?_);refine with_tabW heard_Known.tab13 heard_Known.bits13 (fun HT_ HW_=>?_)
              generalize w35.drew=w36 at BK313 BK317 BK323 HB hHeld ⊢
              refine pure_ (i:=0) (N:=some 42) (v:=?_) (a':=?_) #[true,false,false,false,false,false,false,false,false,false,false,false,false,false,false,false,false,false] rfl rfl (any_of HT_.out (by kernel_rfl)) (fun _ _ _ h=>h) (Or.inl ⟨by rfl,?_⟩) ?_ ?_
              rotate_left
              ·intro w'
               go_simp
               with_reducible rfl
              rotate_left
              ·simp only [Act.put,List.setIfInBounds_toArray,List.set_cons_zero,List.set_cons_succ,i64_w,i32_w]
               rfl
              refine pure_ (i:=1) (N:=some 43) (v:=?_) (a':=?_) #[true,true,false,false,false,false,false,false,false,false,false,false,false,false,false,false,false,false] rfl rfl (any_of HT_.out (by kernel_rfl)) (fun _ _ _ h=>h) (Or.inl ⟨by rfl,?_⟩) ?_ ?_
              rotate_left
              ·intro w'
               go_simp
               with_reducible rfl
              rotate_left
              ·simp only [Act.put,List.setIfInBounds_toArray,List.set_cons_zero,List.set_cons_succ,i64_w,i32_w]
               rfl
              refine pure_ (i:=4) (N:=some 46) (v:=?_) (a':=?_) #[true,true,false,false,true,false,false,false,false,false,false,false,false,false,false,false,false,false] rfl rfl (any_of HT_.out (by kernel_rfl)) (fun _ _ _ h=>h) (Or.inl ⟨by rfl,?_⟩) ?_ ?_
              rotate_left
              ·intro w'
               go_simp
               with_reducible rfl
              rotate_left
              ·simp only [Act.put,List.setIfInBounds_toArray,List.set_cons_zero,List.set_cons_succ,i64_w,i32_w]
               rfl
              refine pure_ (i:=9) (N:=some 51) (v:=?_) (a':=?_) #[true,true,false,false,true,false,false,false,false,true,false,false,false,false,false,false,false,false] rfl rfl (any_of HT_.out (by kernel_rfl)) (fun _ _ _ h=>h) (Or.inl ⟨by rfl,?_⟩) ?_ ?_
              rotate_left
              ·intro w'
               go_simp
               with_reducible rfl
              rotate_left
              ·simp only [Act.put,List.setIfInBounds_toArray,List.set_cons_zero,List.set_cons_succ,i64_w,i32_w]
               rfl
              refine pure_ (i:=11) (N:=some 53) (v:=?_) (a':=?_) #[true,true,false,false,true,false,false,false,false,true,false,true,false,false,false,false,false,false] rfl rfl (any_of HT_.out (by kernel_rfl)) (fun _ _ _ h=>h) (Or.inl ⟨by rfl,?_⟩) ?_ ?_
              rotate_left
              ·intro w'
               go_simp
               with_reducible rfl
              rotate_left
              ·simp only [Act.put,List.setIfInBounds_toArray,List.set_cons_zero,List.set_cons_succ,i64_w,i32_w]
               rfl
              refine take_ (i:=2) (N:=some 44) (v:=?_) (a':=?_) #[true,true,true,false,true,false,false,false,false,true,false,true,false,false,false,false,false,false] rfl rfl (take_ofW HT_.out HW_.out (by kernel_rfl)) (fun _ _ _ h=>h) (Or.inl ⟨by rfl,?_⟩) hHeld ?_ ?_
              rotate_left
              ·rintro w' ⟨s0,s1,s2,s3⟩
               go_simp
               with_reducible rfl
              rotate_left
              ·simp only [Act.put,List.setIfInBounds_toArray,List.set_cons_zero,List.set_cons_succ,i64_w,i32_w]
               rfl
              refine pure_ (i:=3) (N:=some 45) (v:=?_) (a':=?_) #[true,true,true,true,true,false,false,false,false,true,false,true,false,false,false,false,false,false] rfl rfl (any_of HT_.out (by kernel_rfl)) (fun _ _ _ h=>h) (Or.inl ⟨by rfl,?_⟩) ?_ ?_
              rotate_left
              ·intro w'
               go_simp
               with_reducible rfl
              rotate_left
              ·simp only [Act.put,List.setIfInBounds_toArray,List.set_cons_zero,List.set_cons_succ,i64_w,i32_w]
               rfl
              refine take_ (i:=5) (N:=some 47) (v:=?_) (a':=?_) #[true,true,true,true,true,true,false,false,false,true,false,true,false,false,false,false,false,false] rfl rfl (take_ofW HT_.out HW_.out (by kernel_rfl)) (fun _ _ _ h=>h) (Or.inl ⟨by rfl,?_⟩) hHeld ?_ ?_
              rotate_left
              ·rintro w' ⟨s0,s1,s2,s3⟩
               go_simp
               with_reducible rfl
              rotate_left
              ·simp only [Act.put,List.setIfInBounds_toArray,List.set_cons_zero,List.set_cons_succ,i64_w,i32_w]
               rfl
              refine pure_ (i:=6) (N:=some 48) (v:=?_) (a':=?_) #[true,true,true,true,true,true,true,false,false,true,false,true,false,false,false,false,false,false] rfl rfl (any_of HT_.out (by kernel_rfl)) (fun _ _ _ h=>h) (Or.inl ⟨by rfl,?_⟩) ?_ ?_
              rotate_left
              ·intro w'
               go_simp
               with_reducible rfl
              rotate_left
              ·simp only [Act.put,List.setIfInBounds_toArray,List.set_cons_zero,List.set_cons_succ,i64_w,i32_w]
               rfl
              refine take_ (i:=10) (N:=some 52) (v:=?_) (a':=?_) #[true,true,true,true,true,true,true,false,false,true,true,true,false,false,false,false,false,false] rfl rfl (take_ofW HT_.out HW_.out (by kernel_rfl)) (fun _ _ _ h=>h) (Or.inl ⟨by rfl,?_⟩) hHeld ?_ ?_
              rotate_left
              ·rintro w' ⟨s0,s1,s2,s3⟩
               go_simp
               with_reducible rfl
              rotate_left
              ·simp only [Act.put,List.setIfInBounds_toArray,List.set_cons_zero,List.set_cons_succ,i64_w,i32_w]
               rfl
              refine take_ (i:=12) (N:=some 54) (v:=?_) (a':=?_) #[true,true,true,true,true,true,true,false,false,true,true,true,true,false,false,false,false,false] rfl rfl (take_ofW HT_.out HW_.out (by kernel_rfl)) (fun _ _ _ h=>h) (Or.inl ⟨by rfl,?_⟩) hHeld ?_ ?_
              rotate_left
              ·rintro w' ⟨s0,s1,s2,s3⟩
               go_simp
               with_reducible rfl
              rotate_left
              ·simp only [Act.put,List.setIfInBounds_toArray,List.set_cons_zero,List.set_cons_succ,i64_w,i32_w]
               rfl
              refine one_ (i:=7) (N:=some 49) #[true,true,true,true,true,true,true,true,false,true,true,true,true,false,false,false,false,false] rfl rfl (one_of HT_.out (by kernel_rfl)) (by decide) (fun K hK=>?_)
              refine Kd.R_lit_step (Kd.int .i64) _ 3 ?hg (N:=49) ?hd (xs:=([(((rd_T62 y318 x38_2).f1).length:Int)]:List Int)) (inner:=[.int .i64 (((rd_T62 y318 x38_2).f1).length:Int)]) (ok:=fun _=>True) (okp:=fun _=>True) ?hr ?hp (fun _ hk=>hk) trivial (Below.refl _ _) (Nat.le_refl _) (by simp) ?_;(case hd=>rfl);(case hg=>rfl);(case hr=>first|(go_simp;done)|(go_simp;rfl));(case hp=>exact (Reps.one (show Kd.M (Kd.int .i64) _ _ _ (((rd_T62 y318 x38_2).f1).length:Int) [.int .i64 (((rd_T62 y318 x38_2).f1).length:Int)] from rfl) (Reps.none _ _)))
              intro v325 w37 ho38 hb hg_ hnew_
              clear hg_ hnew_
              (first|rw [← Ny324.out] at ho38|(simp only [Int.reduceToNat] at ho38;rw [← Ny324.out] at ho38))
              have n0_:=Aside0.mk (Kd.R_lower ho38 (below_size (by repeat (first|(with_reducible first|exact HB.out|apply below_alloc|apply pw_below_drewN|apply below_drew1|refine below_set ?_ GE313.out|refine below_set ?_ GE317.out|refine below_set ?_ GE323.out)|exact HB.out))))
              have n1_:=Aside0.mk (blk_below (g:=gb313) (o:=.cells #[.int .i64 a0_0,.slice A0_1 l0_1.length c0_1,.slice (some ad316) l0_2.length c0_2] 27 (0,0)) (by (with_reducible repeat (first|refine blk_drewN ?_ _|refine blk_drew ?_|refine blk_alloc ?_ _));exact BK313.out) hb)
              have n2_:=Aside0.mk (blk_below (g:=gb317) (o:=.cells #[.int .i64 ((rd_T62 l0_2 x28_1).f0),.slice A316_1 ((rd_T62 l0_2 x28_1).f1).length c316_1] 62 (0,0)) (by (with_reducible repeat (first|refine blk_drewN ?_ _|refine blk_drew ?_|refine blk_alloc ?_ _));exact BK317.out) hb)
              have n3_:=Aside0.mk (blk_below (g:=gb323) (o:=.cells #[.int .i64 ((rd_T62 y318 x38_2).f0),.slice A322_1 ((rd_T62 y318 x38_2).f1).length c322_1] 62 (0,0)) (by (with_reducible repeat (first|refine blk_drewN ?_ _|refine blk_drew ?_|refine blk_alloc ?_ _));exact BK323.out) hb)
              have n4_:=Aside0.mk (below_step (by repeat (first|(with_reducible first|exact HB.out|apply below_alloc|apply pw_below_drewN|apply below_drew1|refine below_set ?_ GE313.out|refine below_set ?_ GE317.out|refine below_set ?_ GE323.out)|exact HB.out)) hb)
              clear BK313
              clear BK317
              clear BK323
              clear HB
              have HO326:=n0_
              have BK313:=n1_
              have BK317:=n2_
              have BK323:=n3_
              have HB:=n4_
              clear n0_ n1_ n2_ n3_ n4_
              clear hb ho38
              obtain ⟨Ao39,co39,eo39⟩:=Kd.R_slice HO326.out
              (first|subst eo39|(injection eo39 with f1_ f2_ f3_;have f4_:=f1_.symm;have f5_:=f3_.symm;clear f1_ f2_ f3_;subst f4_;subst f5_))
              refine hK.out _ _ ⟨(blk_cell BK317.out 0).trans rfl,(blk_cell BK317.out 1).trans rfl,(blk_cell BK323.out 0).trans rfl,(blk_cell BK323.out 1).trans rfl⟩ (fun hHeld=>?_)
              clear hK K
              refine norm_ (a':=?_) ?_ ?_
              rotate_left
              ·show Act.put _ (some 49) _=_
               simp only [Act.put,List.setIfInBounds_toArray,List.set_cons_zero,List.set_cons_succ,i64_w,i32_w]
               rfl
              refine one_ (i:=8) (N:=some 50) #[true,true,true,true,true,true,true,true,true,true,true,true,true,false,false,false,false,false] rfl rfl (one_of HT_.out (by kernel_rfl)) (by decide) (fun K hK=>?_)
              refine goes_ Tryd.func81 (by kernel_rfl) rfl #[.int .i64 (((rd_T62 l0_2 x28_1).f1).length:Int),.slice Ao39 y324.length co39] (by rfl) rfl rfl (by (try simp only [List.map_toArray,List.map_cons,List.map_nil]);first|done|rfl|(simp only [List.length_drop,List.length_take];rfl)) ?_
              with_reducible refine (heard_greatest_int.calls k2 (((rd_T62 l0_2 x28_1).f1).length:Int) _ _ y324 t327 _ ?side1 ?side2 A28.out).mono ?_
              (case side1=>repeat (first|exact (Kd.R_reads' HO326.out).2.2|(with_reducible refine Kd.C_alloc ?_ _)|(with_reducible refine Kd.C_drewN ?_ _)|(with_reducible refine Kd.C_drew ?_)))
              (case side2=>exact (Kd.R_reads' HO326.out).2.1)
              rintro e w40 ⟨rfl,hb⟩
              refine ⟨_,rfl,?_⟩
              have n0_:=Aside0.mk (Kd.R_below (by (with_reducible repeat (first|apply Kd.R_alloc|apply Kd.R_drewN|apply Kd.R_drew));exact HO326.out) hb)
              have n1_:=Aside0.mk (blk_below (g:=gb313) (o:=.cells #[.int .i64 a0_0,.slice A0_1 l0_1.length c0_1,.slice (some ad316) l0_2.length c0_2] 27 (0,0)) (by (with_reducible repeat (first|refine blk_drewN ?_ _|refine blk_drew ?_|refine blk_alloc ?_ _));exact BK313.out) hb)
              have n2_:=Aside0.mk (blk_below (g:=gb317) (o:=.cells #[.int .i64 ((rd_T62 l0_2 x28_1).f0),.slice A316_1 ((rd_T62 l0_2 x28_1).f1).length c316_1] 62 (0,0)) (by (with_reducible repeat (first|refine blk_drewN ?_ _|refine blk_drew ?_|refine blk_alloc ?_ _));exact BK317.out) hb)
              have n3_:=Aside0.mk (blk_below (g:=gb323) (o:=.cells #[.int .i64 ((rd_T62 y318 x38_2).f0),.slice A322_1 ((rd_T62 y318 x38_2).f1).length c322_1] 62 (0,0)) (by (with_reducible repeat (first|refine blk_drewN ?_ _|refine blk_drew ?_|refine blk_alloc ?_ _));exact BK323.out) hb)
              have n4_:=Aside0.mk (below_step (by repeat (first|(with_reducible first|exact HB.out|apply below_alloc|apply pw_below_drewN|apply below_drew1|refine below_set ?_ GE313.out|refine below_set ?_ GE317.out|refine below_set ?_ GE323.out)|exact HB.out)) hb)
              clear HO326
              clear BK313
              clear BK317
              clear BK323
              clear HB
              have HO326:=n0_
              have BK313:=n1_
              have BK317:=n2_
              have BK323:=n3_
              have HB:=n4_
              clear n0_ n1_ n2_ n3_ n4_
              (try clear hb)
              (try clear hb2)
              (try clear hk)
              (try clear hi)
              refine hK.out _ _ ⟨(blk_cell BK317.out 0).trans rfl,(blk_cell BK317.out 1).trans rfl,(blk_cell BK323.out 0).trans rfl,(blk_cell BK323.out 1).trans rfl⟩ (fun hHeld=>?_)
              clear hK K
              refine norm_ (a':=?_) ?_ ?_
              rotate_left
              ·show Act.put _ (some 50) _=_
               simp only [Act.put,List.setIfInBounds_toArray,List.set_cons_zero,List.set_cons_succ,i64_w,i32_w]
               rfl
              refine one_ (i:=13) (N:=some 55) #[true,true,true,true,true,true,true,true,true,true,true,true,true,true,false,false,false,false] rfl rfl (one_of HT_.out (by kernel_rfl)) (by decide) (fun K hK=>?_)
              refine goes_ Tryd.func78 (by kernel_rfl) rfl #[.slice A316_1 ((rd_T62 l0_2 x28_1).f1).length c316_1,.slice A322_1 ((rd_T62 y318 x38_2).f1).length c322_1] (by rfl) rfl rfl (by (try simp only [List.map_toArray,List.map_cons,List.map_nil]);first|done|rfl|(simp only [List.length_drop,List.length_take];rfl)) ?_
              with_reducible refine (heard_common.calls _ _ ((rd_T62 l0_2 x28_1).f1) _ _ ((rd_T62 y318 x38_2).f1) t328 _ ?side1 ?side2 ?side3 ?side4 A29.out).mono ?_
              (case side1=>repeat (first|exact (Kd.C_below HR316_1.out HB.out)|(with_reducible refine Kd.C_alloc ?_ _)|(with_reducible refine Kd.C_drewN ?_ _)|(with_reducible refine Kd.C_drew ?_)))
              (case side2=>exact HC316_1.out)
              (case side3=>repeat (first|exact (Kd.C_below HR322_1.out HB.out)|(with_reducible refine Kd.C_alloc ?_ _)|(with_reducible refine Kd.C_drewN ?_ _)|(with_reducible refine Kd.C_drew ?_)))
              (case side4=>exact HC322_1.out)
              rintro e w41 ⟨rfl,hb⟩
              refine ⟨_,rfl,?_⟩
              have n0_:=Aside0.mk (Kd.R_below (by (with_reducible repeat (first|apply Kd.R_alloc|apply Kd.R_drewN|apply Kd.R_drew));exact HO326.out) hb)
              have n1_:=Aside0.mk (blk_below (g:=gb313) (o:=.cells #[.int .i64 a0_0,.slice A0_1 l0_1.length c0_1,.slice (some ad316) l0_2.length c0_2] 27 (0,0)) (by (with_reducible repeat (first|refine blk_drewN ?_ _|refine blk_drew ?_|refine blk_alloc ?_ _));exact BK313.out) hb)
              have n2_:=Aside0.mk (blk_below (g:=gb317) (o:=.cells #[.int .i64 ((rd_T62 l0_2 x28_1).f0),.slice A316_1 ((rd_T62 l0_2 x28_1).f1).length c316_1] 62 (0,0)) (by (with_reducible repeat (first|refine blk_drewN ?_ _|refine blk_drew ?_|refine blk_alloc ?_ _));exact BK317.out) hb)
              have n3_:=Aside0.mk (blk_below (g:=gb323) (o:=.cells #[.int .i64 ((rd_T62 y318 x38_2).f0),.slice A322_1 ((rd_T62 y318 x38_2).f1).length c322_1] 62 (0,0)) (by (with_reducible repeat (first|refine blk_drewN ?_ _|refine blk_drew ?_|refine blk_alloc ?_ _));exact BK323.out) hb)
              have n4_:=Aside0.mk (below_step (by repeat (first|(with_reducible first|exact HB.out|apply below_alloc|apply pw_below_drewN|apply below_drew1|refine below_set ?_ GE313.out|refine below_set ?_ GE317.out|refine below_set ?_ GE323.out)|exact HB.out)) hb)
              clear HO326
              clear BK313
              clear BK317
              clear BK323
              clear HB
              have HO326:=n0_
              have BK313:=n1_
              have BK317:=n2_
              have BK323:=n3_
              have HB:=n4_
              clear n0_ n1_ n2_ n3_ n4_
              (try clear hb)
              (try clear hb2)
              (try clear hk)
              (try clear hi)
              refine hK.out _ _ ⟨(blk_cell BK317.out 0).trans rfl,(blk_cell BK317.out 1).trans rfl,(blk_cell BK323.out 0).trans rfl,(blk_cell BK323.out 1).trans rfl⟩ (fun hHeld=>?_)
              clear hK K
              refine norm_ (a':=?_) ?_ ?_
              rotate_left
              ·show Act.put _ (some 55) _=_
               simp only [Act.put,List.setIfInBounds_toArray,List.set_cons_zero,List.set_cons_succ,i64_w,i32_w]
               rfl
              refine pure_ (i:=14) (N:=some 56) (v:=?_) (a':=?_) #[true,true,true,true,true,true,true,true,true,true,true,true,true,true,true,false,false,false] rfl rfl (any_of HT_.out (by kernel_rfl)) (fun _ _ _ h=>h) (Or.inl ⟨by rfl,?_⟩) ?_ ?_
              rotate_left
              ·intro w'
               go_simp
               with_reducible rfl
              rotate_left
              ·simp only [Act.put,List.setIfInBounds_toArray,List.set_cons_zero,List.set_cons_succ,i64_w,i32_w]
               rfl
              refine one_ (i:=15) (N:=some 57) #[true,true,true,true,true,true,true,true,true,true,true,true,true,true,true,true,false,false] rfl rfl (one_of HT_.out (by kernel_rfl)) (by decide) (fun K hK=>?_)
              refine Kd.R_lit_step (Kd.int .i64) _ 3 ?hg (N:=57) ?hd (xs:=([wrap64 (t327 - t328)]:List Int)) (inner:=[.int .i64 (wrap64 (t327 - t328))]) (ok:=fun _=>True) (okp:=fun _=>True) ?hr ?hp (fun _ hk=>hk) trivial (Below.refl _ _) (Nat.le_refl _) (by simp) ?_;(case hd=>rfl);(case hg=>rfl);(case hr=>first|(go_simp;done)|(go_simp;rfl));(case hp=>exact (Reps.one (show Kd.M (Kd.int .i64) _ _ _ (wrap64 (t327 - t328)) [.int .i64 (wrap64 (t327 - t328))] from rfl) (Reps.none _ _)))
              intro v330 w42 ho43 hb hg_ hnew_
              clear hg_ hnew_
              (first|rw [← Ny329.out] at ho43|(simp only [Int.reduceToNat] at ho43;rw [← Ny329.out] at ho43))
              have n0_:=Aside0.mk (Kd.R_elder' (by (with_reducible repeat (first|apply Kd.R_alloc|apply Kd.R_drewN|apply Kd.R_drew));exact HO326.out) (Kd.R_base ho43) hb)
              have n1_:=Aside0.mk (Kd.R_lower (Kd.R_new' ho43 (Kd.R_lt (by (with_reducible repeat (first|apply Kd.R_alloc|apply Kd.R_drewN|apply Kd.R_drew));exact HO326.out))) (below_size (by repeat (first|(with_reducible first|exact HB.out|apply below_alloc|apply pw_below_drewN|apply below_drew1|refine below_set ?_ GE313.out|refine below_set ?_ GE317.out|refine below_set ?_ GE323.out)|exact HB.out))))
              have n2_:=Aside0.mk (blk_below (g:=gb313) (o:=.cells #[.int .i64 a0_0,.slice A0_1 l0_1.length c0_1,.slice (some ad316) l0_2.length c0_2] 27 (0,0)) (by (with_reducible repeat (first|refine blk_drewN ?_ _|refine blk_drew ?_|refine blk_alloc ?_ _));exact BK313.out) hb)
              have n3_:=Aside0.mk (blk_below (g:=gb317) (o:=.cells #[.int .i64 ((rd_T62 l0_2 x28_1).f0),.slice A316_1 ((rd_T62 l0_2 x28_1).f1).length c316_1] 62 (0,0)) (by (with_reducible repeat (first|refine blk_drewN ?_ _|refine blk_drew ?_|refine blk_alloc ?_ _));exact BK317.out) hb)
              have n4_:=Aside0.mk (blk_below (g:=gb323) (o:=.cells #[.int .i64 ((rd_T62 y318 x38_2).f0),.slice A322_1 ((rd_T62 y318 x38_2).f1).length c322_1] 62 (0,0)) (by (with_reducible repeat (first|refine blk_drewN ?_ _|refine blk_drew ?_|refine blk_alloc ?_ _));exact BK323.out) hb)
              have n5_:=Aside0.mk (below_step (by repeat (first|(with_reducible first|exact HB.out|apply below_alloc|apply pw_below_drewN|apply below_drew1|refine below_set ?_ GE313.out|refine below_set ?_ GE317.out|refine below_set ?_ GE323.out)|exact HB.out)) hb)
              clear HO326
              clear BK313
              clear BK317
              clear BK323
              clear HB
              have HO326:=n0_
              have HO331:=n1_
              have BK313:=n2_
              have BK317:=n3_
              have BK323:=n4_
              have HB:=n5_
              clear n0_ n1_ n2_ n3_ n4_ n5_
              clear hb ho43
              obtain ⟨Ao44,co44,eo44⟩:=Kd.R_slice HO331.out
              (first|subst eo44|(injection eo44 with f1_ f2_ f3_;have f4_:=f1_.symm;have f5_:=f3_.symm;clear f1_ f2_ f3_;subst f4_;subst f5_))
              refine hK.out _ _ ⟨(blk_cell BK317.out 0).trans rfl,(blk_cell BK317.out 1).trans rfl,(blk_cell BK323.out 0).trans rfl,(blk_cell BK323.out 1).trans rfl⟩ (fun hHeld=>?_)
              clear hK K
              refine norm_ (a':=?_) ?_ ?_
              rotate_left
              ·show Act.put _ (some 57) _=_
               simp only [Act.put,List.setIfInBounds_toArray,List.set_cons_zero,List.set_cons_succ,i64_w,i32_w]
               rfl
              refine one_ (i:=16) (N:=some 58) #[true,true,true,true,true,true,true,true,true,true,true,true,true,true,true,true,true,false] rfl rfl (one_of HT_.out (by kernel_rfl)) (by decide) (fun K hK=>?_)
              refine goes_ Tryd.func80 (by kernel_rfl) rfl #[.int .i64 x5_2,.slice Ao44 y329.length co44] (by rfl) rfl rfl (by (try simp only [List.map_toArray,List.map_cons,List.map_nil]);first|done|rfl|(simp only [List.length_drop,List.length_take];rfl)) ?_
              with_reducible refine (heard_least_int.calls k2 x5_2 _ _ y329 t332 _ ?side1 ?side2 A30.out).mono ?_
              (case side1=>repeat (first|exact (Kd.R_reads' HO331.out).2.2|(with_reducible refine Kd.C_alloc ?_ _)|(with_reducible refine Kd.C_drewN ?_ _)|(with_reducible refine Kd.C_drew ?_)))
              (case side2=>exact (Kd.R_reads' HO331.out).2.1)
              rintro e w45 ⟨rfl,hb⟩
              refine ⟨_,rfl,?_⟩
              have n0_:=Aside0.mk (Kd.R_below (by (with_reducible repeat (first|apply Kd.R_alloc|apply Kd.R_drewN|apply Kd.R_drew));exact HO326.out) hb)
              have n1_:=Aside0.mk (Kd.R_below (by (with_reducible repeat (first|apply Kd.R_alloc|apply Kd.R_drewN|apply Kd.R_drew));exact HO331.out) hb)
              have n2_:=Aside0.mk (blk_below (g:=gb313) (o:=.cells #[.int .i64 a0_0,.slice A0_1 l0_1.length c0_1,.slice (some ad316) l0_2.length c0_2] 27 (0,0)) (by (with_reducible repeat (first|refine blk_drewN ?_ _|refine blk_drew ?_|refine blk_alloc ?_ _));exact BK313.out) hb)
              have n3_:=Aside0.mk (blk_below (g:=gb317) (o:=.cells #[.int .i64 ((rd_T62 l0_2 x28_1).f0),.slice A316_1 ((rd_T62 l0_2 x28_1).f1).length c316_1] 62 (0,0)) (by (with_reducible repeat (first|refine blk_drewN ?_ _|refine blk_drew ?_|refine blk_alloc ?_ _));exact BK317.out) hb)
              have n4_:=Aside0.mk (blk_below (g:=gb323) (o:=.cells #[.int .i64 ((rd_T62 y318 x38_2).f0),.slice A322_1 ((rd_T62 y318 x38_2).f1).length c322_1] 62 (0,0)) (by (with_reducible repeat (first|refine blk_drewN ?_ _|refine blk_drew ?_|refine blk_alloc ?_ _));exact BK323.out) hb)
              have n5_:=Aside0.mk (below_step (by repeat (first|(with_reducible first|exact HB.out|apply below_alloc|apply pw_below_drewN|apply below_drew1|refine below_set ?_ GE313.out|refine below_set ?_ GE317.out|refine below_set ?_ GE323.out)|exact HB.out)) hb)
              clear HO326
              clear HO331
              clear BK313
              clear BK317
              clear BK323
              clear HB
              have HO326:=n0_
              have HO331:=n1_
              have BK313:=n2_
              have BK317:=n3_
              have BK323:=n4_
              have HB:=n5_
              clear n0_ n1_ n2_ n3_ n4_ n5_
              (try clear hb)
              (try clear hb2)
              (try clear hk)
              (try clear hi)
              refine hK.out _ _ ⟨(blk_cell BK317.out 0).trans rfl,(blk_cell BK317.out 1).trans rfl,(blk_cell BK323.out 0).trans rfl,(blk_cell BK323.out 1).trans rfl⟩ (fun hHeld=>?_)
              clear hK K
              refine norm_ (a':=?_) ?_ ?_
              rotate_left
              ·show Act.put _ (some 58) _=_
               simp only [Act.put,List.setIfInBounds_toArray,List.set_cons_zero,List.set_cons_succ,i64_w,i32_w]
               rfl
              refine pure_ (i:=17) (N:=some 5) (v:=?_) (a':=?_) #[true,true,true,true,true,true,true,true,true,true,true,true,true,true,true,true,true,true] rfl rfl (any_of HT_.out (by kernel_rfl)) (fun _ _ _ h=>h) (Or.inl ⟨by rfl,?_⟩) ?_ ?_
              rotate_left
              ·intro w'
               go_simp
               with_reducible rfl
              rotate_left
              ·simp only [Act.put,List.setIfInBounds_toArray,List.set_cons_zero,List.set_cons_succ,i64_w,i32_w]
               rfl
              refine done_ (done_of HT_.out (by kernel_rfl)) ?_
              try go_wp2
              go_roundg k2
              case measure=>have:=HK1.out;have:=HK2.out;omega
              case rel=>exact ⟨(t332),(wrap64 (x38_2+1)),(by first|rfl|(simp;done)|(simp [*];done)),(by first|rfl|(simp;done)|(simp [*];done)),H',⟨by have:=HK1.out;have:=HK2.out;omega⟩,⟨by (with_reducible repeat (first|refine blk_drewN ?_ _|refine blk_drew ?_|refine blk_alloc ?_ _));exact BK313.out⟩,⟨by (with_reducible repeat (first|refine blk_drewN ?_ _|refine blk_drew ?_|refine blk_alloc ?_ _));exact BK317.out⟩,⟨by repeat (first|(with_reducible first|exact HB.out|apply below_alloc|apply pw_below_drewN|apply below_drew1|refine below_set ?_ GE313.out|refine below_set ?_ GE317.out|refine below_set ?_ GE323.out)|exact HB.out)⟩⟩
             ·rw [if_neg c27] at H
              exact absurd H (by simp)
            ·rw [if_neg c26] at H
             exact absurd H (by simp)
           ·rw [if_neg c25] at H
            have c25b0:decide (x38_2<(y318.length:Int))=false:=decide_eq_false c25
            clear c25
            have H':=Aside0.mk H
            clear H
            go_wp2
            go_roundg k2
            case measure=>have:=HK1.out;have:=HK2.out;omega
            case rel=>exact ⟨(x5_2),(wrap64 (x28_1+1)),(by first|rfl|(simp;done)|(simp [*];done)),(by first|rfl|(simp;done)|(simp [*];done)),H',⟨by have:=HK1.out;have:=HK2.out;omega⟩,⟨by (with_reducible repeat (first|refine blk_drewN ?_ _|refine blk_drew ?_|refine blk_alloc ?_ _));exact BK313.out⟩,⟨by repeat (first|(with_reducible first|exact HB.out|apply below_alloc|apply pw_below_drewN|apply below_drew1|refine below_set ?_ GE313.out|refine below_set ?_ GE317.out)|exact HB.out)⟩⟩
        ·rw [if_neg c18] at H
         exact absurd H (by simp)
       ·rw [if_neg c16] at H
        exact absurd H (by simp)
      ·rw [if_neg c15] at H
       exact absurd H (by simp)
     ·rw [if_neg c14] at H
      have c14b0:decide (x28_1<(l0_2.length:Int))=false:=decide_eq_false c14
      clear c14
      by_cases c46:x5_1=0
      ·rw [if_pos c46] at H
       have c46b0:(x5_1 == 0)=true:=beq_iff_eq.mpr c46
       have c46b1:(x5_1 != 0)=false:=bne_eq_false_iff_eq.mpr c46
       clear c46
       simp only [Option.some.injEq,Prod.mk.injEq] at H
       obtain ⟨rfl,rfl⟩:=H
       go_wp2
       go_ret2
       exact ⟨by first|rfl|(simp [errW_none,errW_some] <;> rfl)|(simp [*,errW_none,errW_some] <;> rfl),by repeat (first|(with_reducible first|exact HB.out|apply below_alloc|apply pw_below_drewN|apply below_drew1|refine below_set ?_ GE313.out)|exact HB.out)⟩
      ·rw [if_neg c46] at H
       have c46b0:(x5_1 == 0)=false:=beq_eq_false_iff_ne.mpr c46
       have c46b1:(x5_1 != 0)=true:=bne_iff_ne.mpr c46
       simp only [Option.some.injEq,Prod.mk.injEq] at H
       obtain ⟨rfl,rfl⟩:=H
       go_wp2
       go_ret2
       exact ⟨by first|rfl|(simp [errW_none,errW_some] <;> rfl)|(simp [*,errW_none,errW_some] <;> rfl),by repeat (first|(with_reducible first|exact HB.out|apply below_alloc|apply pw_below_drewN|apply below_drew1|refine below_set ?_ GE313.out)|exact HB.out)⟩
 ·rw [if_neg c3] at H
  have c3b0:(t314 == 0)=false:=beq_eq_false_iff_ne.mpr c3
  have c3b1:(t314 != 0)=true:=bne_iff_ne.mpr c3
  simp only [Option.some.injEq,Prod.mk.injEq] at H
  obtain ⟨rfl,rfl⟩:=H
  go_enter Tryd.func35,Tryd.ntmps35
  go_wp2_with (first|((with_reducible refine gate_dst (N:=1) rfl ?_);refine box_event ?hg (N:=1) ?hd (cs:=#[.int .i64 a0_0,.slice A0_1 l0_1.length c0_1,.slice A0_2 l0_2.length c0_2]) (t:=27) ?hr ?_;(case hd=>rfl);(case hg=>rfl);(case hr=>first|(go_simp;done)|(go_simp;rfl));intro gb313 hg w47 hbox hb;have n0_:=Aside0.mk (below_step (by repeat (first|(with_reducible first|exact HB.out|apply below_alloc|apply pw_below_drewN|apply below_drew1)|exact HB.out)) hb);have n1_:=Aside0.mk (hbox);have n2_:=Aside0.mk ((by rw [hg];exact (below_size (by repeat (first|(with_reducible first|exact HB.out|apply below_alloc|apply pw_below_drewN|apply below_drew1)|exact HB.out))):w.heap.size≤gb313));have n3_:=Aside0.mk ((by rw [hg];exact (below_size (by repeat (first|(with_reducible first|exact HB.out|apply below_alloc|apply pw_below_drewN|apply below_drew1)|exact HB.out))):w.heap.size≤gb313));clear HB;have HB:=n0_;have BK313:=n1_;have GW313:=n2_;have GE313:=n3_;clear n0_ n1_ n2_ n3_;clear hb hbox hg;have hcz48_0:w47.cell? ⟨gb313,0,none⟩=some (.int .i64 a0_0):=(blk_cell BK313.out 0).trans rfl;have hcz48_1:w47.cell? ⟨gb313,1,none⟩=some (.slice A0_1 l0_1.length c0_1):=(blk_cell BK313.out 1).trans rfl;have hcz48_2:w47.cell? ⟨gb313,2,none⟩=some (.slice A0_2 l0_2.length c0_2):=(blk_cell BK313.out 2).trans rfl;have hfz48_0:=blk_frozen BK313.out 0;have hfz48_1:=blk_frozen BK313.out 1;have hfz48_2:=blk_frozen BK313.out 2)|((with_reducible refine gate_callee (f:=17) rfl ?_);refine goesL_ (some 11) rfl rfl Tryd.func17 (by kernel_rfl) rfl #[.agg #[.int .i64 a0_0,.slice A0_1 l0_1.length c0_1,.slice A0_2 l0_2.length c0_2]] rfl (by (try simp only [List.map_toArray,List.map_cons,List.map_nil]);first|done|rfl|(simp only [List.length_drop,List.length_take];rfl)) ?_;(with_reducible refine (heard_Check.calls k a0_0 _ _ l0_1 _ _ l0_2 t314 _ ?side1 ?side2 ?side3 ?side4 A2.out).mono ?_);(case side1=>repeat (first|exact (Kd.C_below HR0_1.out HB.out)|(with_reducible refine Kd.C_alloc ?_ _)|(with_reducible refine Kd.C_drewN ?_ _)|(with_reducible refine Kd.C_drew ?_)));(case side2=>exact HC0_1.out);(case side3=>repeat (first|exact (Kd.C_below HR0_2.out HB.out)|(with_reducible refine Kd.C_alloc ?_ _)|(with_reducible refine Kd.C_drewN ?_ _)|(with_reducible refine Kd.C_drew ?_)));(case side4=>exact HC0_2.out);rintro e w49 ⟨rfl,hb⟩;refine ⟨_,rfl,?_⟩;have n0_:=Aside0.mk (blk_below (g:=gb313) (o:=.cells #[.int .i64 a0_0,.slice A0_1 l0_1.length c0_1,.slice A0_2 l0_2.length c0_2] 27 (0,0)) (by (with_reducible repeat (first|refine blk_drewN ?_ _|refine blk_drew ?_|refine blk_alloc ?_ _));exact BK313.out) hb);have n1_:=Aside0.mk (below_step (by repeat (first|(with_reducible first|exact HB.out|apply below_alloc|apply pw_below_drewN|apply below_drew1|refine below_set ?_ GE313.out)|exact HB.out)) hb);clear BK313;clear HB;have BK313:=n0_;have HB:=n1_;clear n0_ n1_;(try clear hb);(try clear hb2);(try clear hk);(try clear hi)))
  go_ret2
  exact ⟨by first|rfl|(simp [errW_none,errW_some] <;> rfl)|(simp [*,errW_none,errW_some] <;> rfl),by repeat (first|(with_reducible first|exact HB.out|apply below_alloc|apply pw_below_drewN|apply below_drew1|refine below_set ?_ GE313.out)|exact HB.out)⟩
end Go.Proofs.YthnilelmhpmanaaDoor.PHeardFits
end
