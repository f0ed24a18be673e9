/- A part of the proof: contracts and laws. -/
import Derived.Test.YthnilelmhpmanaaDoorWxq18
section
namespace Go.Proofs.YthnilelmhpmanaaDoor.PHeardFits
open Go.RowKit Go.Proofs.YthnilelmhpmanaaDoorW.PrintWords Go.Proofs.YthnilelmhpmanaaDoorW.PrintLast Go.Proofs.YthnilelmhpmanaaDoorW.PrintMore
attribute [local go_sem] max2_int min2_int max_two min_two max_three min_three max_four min_four
set_option linter.unusedVariables false
set_option linter.unusedSimpArgs false
def saronref09_Common.f (k:Nat) (a0_0:Int) (l0_1:List (S85)) (l0_2:List (S62)) (a1:Int) (a2:Int):Option (Int×Int):=(saronref09_isPiece.f a0_0 l0_1 l0_2 a1).bind fun t508=>(if t508=true then ((saronref09_isPiece.f a0_0 l0_1 l0_2 a2).bind fun t509=>((saronref09_asked.f k a0_0 l0_1 l0_2 t509).bind fun t510=>(if t510=0 then (if 0≤a1 then (if a1<(l0_2.length:Int) then (if 0≤a2 then (if a2<(l0_2.length:Int) then ((saronref09_share.f k ((rd_T62 l0_2 a1).f1) ((rd_T62 l0_2 a2).f1)).bind fun t513=>(some (t513,0))) else (none)) else (none)) else (none)) else (none)) else (some (0,t510))))) else ((saronref09_asked.f k a0_0 l0_1 l0_2 false).bind fun t514=>(if t514=0 then (if 0≤a1 then (if a1<(l0_2.length:Int) then (if 0≤a2 then (if a2<(l0_2.length:Int) then ((saronref09_share.f k ((rd_T62 l0_2 a1).f1) ((rd_T62 l0_2 a2).f1)).bind fun t517=>(some (t517,0))) else (none)) else (none)) else (none)) else (none)) else (some (0,t514)))))
def saronref09_Common.T1:Bool×List (List Nat×List Nat):=(true,[([],[]),([],[]),([],[]),([1,2],[1,2]),([3,3],[3]),([4],[4]),([4],[4]),([5,6,4,4],[4,5,6]),([4,7],[4,7]),([0,8,7],[0,8]),([9,9,0,1,2,3,4,5,6,7,8,9],[9])])
def saronref09_Common.B1:List Nat:=[0,0,0,6,14,30,30,126,254,511,1023]
theorem saronref09_Common.tab1:rtab .any (opsOf Tryd.f32 1)=saronref09_Common.T1:=by kernel_rfl
theorem saronref09_Common.bits1:waitsOk saronref09_Common.T1.2 saronref09_Common.B1=true:=by kernel_rfl
def saronref09_Common.T4:Bool×List (List Nat×List Nat):=(true,[([],[]),([0],[0]),([],[]),([1,2],[1,2]),([3],[3]),([4],[4]),([],[]),([6],[6]),([],[]),([7,8],[7,8]),([9],[9]),([10],[10]),([5,11],[5,11]),([12,12,0,1,2,3,4,5,6,7,8,9,10,11,12],[12]),([13,0,1,2,3,4,5,6,7,8,9,10,11,12,13],[])])
def saronref09_Common.B4:List Nat:=[0,1,0,7,15,31,0,64,0,448,960,1984,4095,8191,16383]
theorem saronref09_Common.tab4:rtab .any (opsOf Tryd.f32 4)=saronref09_Common.T4:=by kernel_rfl
theorem saronref09_Common.bits4:waitsOk saronref09_Common.T4.2 saronref09_Common.B4=true:=by kernel_rfl
set_option maxHeartbeats 8000000 in
set_option maxRecDepth 100000 in
theorem saronref09_Common.calls (k:Nat) (a0_0:Int) (A0_1:Option Addr) (c0_1:Nat) (l0_1:List (S85)) (A0_2:Option Addr) (c0_2:Nat) (l0_2:List (S62)) (a1:Int) (a2:Int) (r1:Int) (r2:Int) (w:World) (hr0_1:Kd.C k85 w A0_1 l0_1.length l0_1) (hc0_1:l0_1.length≤c0_1) (hr0_2:Kd.C k62 w A0_2 l0_2.length l0_2) (hc0_2:l0_2.length≤c0_2) (h:saronref09_Common.f k a0_0 l0_1 l0_2 a1 a2=some (r1,r2)) :
  Calls Tryd.prog 32 #[.agg #[.int .i64 a0_0,.slice A0_1 l0_1.length c0_1,.slice A0_2 l0_2.length c0_2],.int .i64 a1,.int .i64 a2] w fun e w'=>e=.returned (.tuple #[.int .i64 r1,.int .i64 r2])∧Below w.heap.size w w':=by
 have hu27:=Tryd.underlying27
 have HR0_1:=Aside0.mk hr0_1
 have HC0_1:=Aside0.mk hc0_1
 clear hr0_1 hc0_1
 have HR0_2:=Aside0.mk hr0_2
 have HC0_2:=Aside0.mk hc0_2
 clear hr0_2 hc0_2
 have HB:=Aside0.mk (Below.refl w.heap.size w)
 have H:((saronref09_isPiece.f a0_0 l0_1 l0_2 a1).bind fun t508=>(if t508=true then ((saronref09_isPiece.f a0_0 l0_1 l0_2 a2).bind fun t509=>((saronref09_asked.f k a0_0 l0_1 l0_2 t509).bind fun t510=>(if t510=0 then (if 0≤a1 then (if a1<(l0_2.length:Int) then (if 0≤a2 then (if a2<(l0_2.length:Int) then ((saronref09_share.f k ((rd_T62 l0_2 a1).f1) ((rd_T62 l0_2 a2).f1)).bind fun t513=>(some (t513,0))) else (none)) else (none)) else (none)) else (none)) else (some (0,t510))))) else ((saronref09_asked.f k a0_0 l0_1 l0_2 false).bind fun t514=>(if t514=0 then (if 0≤a1 then (if a1<(l0_2.length:Int) then (if 0≤a2 then (if a2<(l0_2.length:Int) then ((saronref09_share.f k ((rd_T62 l0_2 a1).f1) ((rd_T62 l0_2 a2).f1)).bind fun t517=>(some (t517,0))) else (none)) else (none)) else (none)) else (none)) else (some (0,t514))))))=some (r1,r2):=h
 clear h
 replace H:=Option.bind_eq_some_iff.mp H
 obtain ⟨t508,A40,H⟩:=H
 try dsimp only at H
 have A4:=Aside0.mk A40
 clear A40
 by_cases c5:t508=true
 ·subst c5
  rw [if_pos rfl] at H
  replace H:=Option.bind_eq_some_iff.mp H
  obtain ⟨t509,A60,H⟩:=H
  try dsimp only at H
  have A6:=Aside0.mk A60
  clear A60
  replace H:=Option.bind_eq_some_iff.mp H
  obtain ⟨t510,A70,H⟩:=H
  try dsimp only at H
  have A7:=Aside0.mk A70
  clear A70
  by_cases c8:t510=0
  ·rw [if_pos c8] at H
   have c8b0:(t510 == 0)=true:=beq_iff_eq.mpr c8
   have c8b1:(t510 != 0)=false:=bne_eq_false_iff_eq.mpr c8
   clear c8
   by_cases c9:0≤a1
   ·rw [if_pos c9] at H
    have c9b0:decide (0≤a1)=true:=decide_eq_true c9
    clear c9
    by_cases c10:a1<(l0_2.length:Int)
    ·rw [if_pos c10] at H
     have c10b0:decide (a1<(l0_2.length:Int))=true:=decide_eq_true c10
     clear c10
     by_cases c11:0≤a2
     ·rw [if_pos c11] at H
      have c11b0:decide (0≤a2)=true:=decide_eq_true c11
      clear c11
      by_cases c12:a2<(l0_2.length:Int)
      ·rw [if_pos c12] at H
       have c12b0:decide (a2<(l0_2.length:Int))=true:=decide_eq_true c12
       clear c12
       replace H:=Option.bind_eq_some_iff.mp H
       obtain ⟨t513,A130,H⟩:=H
       try dsimp only at H
       have A13:=Aside0.mk A130
       clear A130
       simp only [Option.some.injEq,Prod.mk.injEq] at H
       obtain ⟨rfl,rfl⟩:=H
       go_enter Tryd.func32,Tryd.ntmps32
       try go_wp2_with (first|((with_reducible refine gate_dst (N:=3) rfl ?_);refine box_event ?hg (N:=3) ?hd (cs:=#[.int .i64 a0_0,.slice A0_1 l0_1.length c0_1,.slice A0_2 l0_2.length c0_2]) (t:=27) ?hr ?_;(case hd=>rfl);(case hg=>rfl);(case hr=>first|(go_simp;done)|(go_simp;rfl));intro gb507 hg w14 hbox hb;have n0_:=Aside0.mk (below_step (by repeat (first|(with_reducible first|exact HB.out|apply below_alloc|apply pw_below_drewN|apply below_drew1)|exact HB.out)) hb);have n1_:=Aside0.mk (hbox);have n2_:=Aside0.mk ((by rw [hg];exact (below_size (by repeat (first|(with_reducible first|exact HB.out|apply below_alloc|apply pw_below_drewN|apply below_drew1)|exact HB.out))):w.heap.size≤gb507));have n3_:=Aside0.mk ((by rw [hg];exact (below_size (by repeat (first|(with_reducible first|exact HB.out|apply below_alloc|apply pw_below_drewN|apply below_drew1)|exact HB.out))):w.heap.size≤gb507));clear HB;have HB:=n0_;have BK507:=n1_;have GW507:=n2_;have GE507:=n3_;clear n0_ n1_ n2_ n3_;clear hb hbox hg))
       have n0_:=Aside0.mk (blk_drew BK507.out)
       have n1_:=Aside0.mk (below_drew1 HB.out)
       clear BK507
       clear HB
       have BK507:=n0_
       have HB:=n1_
       clear n0_ n1_
       refine start_ (n:=11) (S:=fun w'=>w'.cell? ⟨gb507,0,none⟩=some (.int .i64 a0_0)∧w'.cell? ⟨gb507,1,none⟩=some (.slice A0_1 l0_1.length c0_1)∧w'.cell? ⟨gb507,2,none⟩=some (.slice A0_2 l0_2.length c0_2)) (ds:=[]) #[false,false,false,false,false,false,false,false,false,false,false] (by kernel_rfl) rfl rfl ⟨(blk_cell BK507.out 0).trans rfl,(blk_cell BK507.out 1).trans rfl,(blk_cell BK507.out 2).trans rfl⟩ (fun hHeld=>?_);refine with_tabW saronref09_Common.tab1 saronref09_Common.bits1 (fun HT_ HW_=>?_)
       generalize w14.drew=w15 at BK507 HB hHeld ⊢
       refine pure_ (i:=2) (N:=some 11) (v:=?_) (a':=?_) #[false,false,true,false,false,false,false,false,false,false,false] rfl rfl (any_of HT_.out (by kernel_rfl)) (fun _ _ _ h=>h) (Or.inl ⟨by rfl,?_⟩) ?_ ?_
       rotate_left
       ·intro w'
        go_simp
        with_reducible rfl
       rotate_left
       ·simp only [Act.put,List.setIfInBounds_toArray,List.set_cons_zero,List.set_cons_succ,i64_w,i32_w]
        rfl
       refine take_ (i:=0) (N:=some 9) (v:=?_) (a':=?_) #[true,false,true,false,false,false,false,false,false,false,false] rfl rfl (take_ofW HT_.out HW_.out (by kernel_rfl)) (fun _ _ _ h=>h) (Or.inl ⟨by rfl,?_⟩) hHeld ?_ ?_
       rotate_left
       ·rintro w' ⟨s0,s1,s2⟩
        go_simp
        with_reducible rfl
       rotate_left
       ·simp only [Act.put,List.setIfInBounds_toArray,List.set_cons_zero,List.set_cons_succ,i64_w,i32_w]
        rfl
       refine take_ (i:=1) (N:=some 10) (v:=?_) (a':=?_) #[true,true,true,false,false,false,false,false,false,false,false] rfl rfl (take_ofW HT_.out HW_.out (by kernel_rfl)) (fun _ _ _ h=>h) (Or.inl ⟨by rfl,?_⟩) hHeld ?_ ?_
       rotate_left
       ·rintro w' ⟨s0,s1,s2⟩
        go_simp
        with_reducible rfl
       rotate_left
       ·simp only [Act.put,List.setIfInBounds_toArray,List.set_cons_zero,List.set_cons_succ,i64_w,i32_w]
        rfl
       refine one_ (i:=3) (N:=some 12) #[true,true,true,true,false,false,false,false,false,false,false] rfl rfl (one_of HT_.out (by kernel_rfl)) (by decide) (fun K hK=>?_)
       refine goes_ Tryd.func61 (by kernel_rfl) rfl #[.agg #[.int .i64 a0_0,.slice A0_1 l0_1.length c0_1,.slice A0_2 l0_2.length c0_2],.int .i64 a1] (by rfl) rfl rfl (by (try simp only [List.map_toArray,List.map_cons,List.map_nil]);first|done|rfl|(simp only [List.length_drop,List.length_take];rfl)) ?_
       with_reducible refine (saronref09_isPiece.calls a0_0 _ _ l0_1 _ _ l0_2 a1 true _ ?side1 ?side2 ?side3 ?side4 A4.out).mono ?_
       (case side1=>repeat (first|exact (Kd.C_below HR0_1.out HB.out)|(with_reducible refine Kd.C_alloc ?_ _)|(with_reducible refine Kd.C_drewN ?_ _)|(with_reducible refine Kd.C_drew ?_)))
       (case side2=>exact HC0_1.out)
       (case side3=>repeat (first|exact (Kd.C_below HR0_2.out HB.out)|(with_reducible refine Kd.C_alloc ?_ _)|(with_reducible refine Kd.C_drewN ?_ _)|(with_reducible refine Kd.C_drew ?_)))
       (case side4=>exact HC0_2.out)
       rintro e w16 ⟨rfl,hb⟩
       refine ⟨_,rfl,?_⟩
       have n0_:=Aside0.mk (blk_below (g:=gb507) (o:=.cells #[.int .i64 a0_0,.slice A0_1 l0_1.length c0_1,.slice A0_2 l0_2.length c0_2] 27 (0,0)) (by (with_reducible repeat (first|refine blk_drewN ?_ _|refine blk_drew ?_|refine blk_alloc ?_ _));exact BK507.out) hb)
       have n1_:=Aside0.mk (below_step (by repeat (first|(with_reducible first|exact HB.out|apply below_alloc|apply pw_below_drewN|apply below_drew1|refine below_set ?_ GE507.out)|exact HB.out)) hb)
       clear BK507
       clear HB
       have BK507:=n0_
       have HB:=n1_
       clear n0_ n1_
       (try clear hb)
       (try clear hb2)
       (try clear hk)
       (try clear hi)
       refine hK.out _ _ ⟨(blk_cell BK507.out 0).trans rfl,(blk_cell BK507.out 1).trans rfl,(blk_cell BK507.out 2).trans rfl⟩ (fun hHeld=>?_)
       clear hK K
       refine norm_ (a':=?_) ?_ ?_
       rotate_left
       ·show Act.put _ (some 12) _=_
        simp only [Act.put,List.setIfInBounds_toArray,List.set_cons_zero,List.set_cons_succ,i64_w,i32_w]
        rfl
       refine pure_ (i:=4) (N:=some 13) (v:=?_) (a':=?_) #[true,true,true,true,true,false,false,false,false,false,false] rfl rfl (any_of HT_.out (by kernel_rfl)) (fun _ _ _ h=>h) (Or.inl ⟨by rfl,?_⟩) ?_ ?_
       rotate_left
       ·intro w'
        go_simp
        with_reducible rfl
       rotate_left
       ·simp only [Act.put,List.setIfInBounds_toArray,List.set_cons_zero,List.set_cons_succ,i64_w,i32_w]
        rfl
       refine pure_ (i:=6) (N:=some 15) (v:=?_) (a':=?_) #[true,true,true,true,true,false,true,false,false,false,false] rfl rfl (any_of HT_.out (by kernel_rfl)) (fun _ _ _ h=>h) (Or.inl ⟨by rfl,?_⟩) ?_ ?_
       rotate_left
       ·intro w'
        go_simp
        with_reducible rfl
       rotate_left
       ·simp only [Act.put,List.setIfInBounds_toArray,List.set_cons_zero,List.set_cons_succ,i64_w,i32_w]
        rfl
       refine take_ (i:=5) (N:=some 14) (v:=?_) (a':=?_) #[true,true,true,true,true,true,true,false,false,false,false] rfl rfl (take_ofW HT_.out HW_.out (by kernel_rfl)) (fun _ _ _ h=>h) (Or.inl ⟨by rfl,?_⟩) hHeld ?_ ?_
       rotate_left
       ·rintro w' ⟨s0,s1,s2⟩
        go_simp
        with_reducible rfl
       rotate_left
       ·simp only [Act.put,List.setIfInBounds_toArray,List.set_cons_zero,List.set_cons_succ,i64_w,i32_w]
        rfl
       refine one_ (i:=7) (N:=some 16) #[true,true,true,true,true,true,true,true,false,false,false] rfl rfl (one_of HT_.out (by kernel_rfl)) (by decide) (fun K hK=>?_)
       refine goes_ Tryd.func61 (by kernel_rfl) rfl #[.agg #[.int .i64 a0_0,.slice A0_1 l0_1.length c0_1,.slice A0_2 l0_2.length c0_2],.int .i64 a2] (by rfl) rfl rfl (by (try simp only [List.map_toArray,List.map_cons,List.map_nil]);first|done|rfl|(simp only [List.length_drop,List.length_take];rfl)) ?_
       with_reducible refine (saronref09_isPiece.calls a0_0 _ _ l0_1 _ _ l0_2 a2 t509 _ ?side1 ?side2 ?side3 ?side4 A6.out).mono ?_
       (case side1=>repeat (first|exact (Kd.C_below HR0_1.out HB.out)|(with_reducible refine Kd.C_alloc ?_ _)|(with_reducible refine Kd.C_drewN ?_ _)|(with_reducible refine Kd.C_drew ?_)))
       (case side2=>exact HC0_1.out)
       (case side3=>repeat (first|exact (Kd.C_below HR0_2.out HB.out)|(with_reducible refine Kd.C_alloc ?_ _)|(with_reducible refine Kd.C_drewN ?_ _)|(with_reducible refine Kd.C_drew ?_)))
       (case side4=>exact HC0_2.out)
       rintro e w17 ⟨rfl,hb⟩
       refine ⟨_,rfl,?_⟩
       have n0_:=Aside0.mk (blk_below (g:=gb507) (o:=.cells #[.int .i64 a0_0,.slice A0_1 l0_1.length c0_1,.slice A0_2 l0_2.length c0_2] 27 (0,0)) (by (with_reducible repeat (first|refine blk_drewN ?_ _|refine blk_drew ?_|refine blk_alloc ?_ _));exact BK507.out) hb)
       have n1_:=Aside0.mk (below_step (by repeat (first|(with_reducible first|exact HB.out|apply below_alloc|apply pw_below_drewN|apply below_drew1|refine below_set ?_ GE507.out)|exact HB.out)) hb)
       clear BK507
       clear HB
       have BK507:=n0_
       have HB:=n1_
       clear n0_ n1_
       (try clear hb)
       (try clear hb2)
       (try clear hk)
       (try clear hi)
       refine hK.out _ _ ⟨(blk_cell BK507.out 0).trans rfl,(blk_cell BK507.out 1).trans rfl,(blk_cell BK507.out 2).trans rfl⟩ (fun hHeld=>?_)
       clear hK K
       refine norm_ (a':=?_) ?_ ?_
       rotate_left
       ·show Act.put _ (some 16) _=_
        simp only [Act.put,List.setIfInBounds_toArray,List.set_cons_zero,List.set_cons_succ,i64_w,i32_w]
        rfl
       refine pure_ (i:=8) (N:=some 17) (v:=?_) (a':=?_) #[true,true,true,true,true,true,true,true,true,false,false] rfl rfl (any_of HT_.out (by kernel_rfl)) (fun _ _ _ h=>h) (Or.inl ⟨by rfl,?_⟩) ?_ ?_
       rotate_left
       ·intro w'
        go_simp
        with_reducible rfl
       rotate_left
       ·simp only [Act.put,List.setIfInBounds_toArray,List.set_cons_zero,List.set_cons_succ,i64_w,i32_w]
        rfl
       refine one_ (i:=9) (N:=some 18) #[true,true,true,true,true,true,true,true,true,true,false] rfl rfl (one_of HT_.out (by kernel_rfl)) (by decide) (fun K hK=>?_)
       refine goes_ Tryd.func60 (by kernel_rfl) rfl #[.agg #[.int .i64 a0_0,.slice A0_1 l0_1.length c0_1,.slice A0_2 l0_2.length c0_2],.bool t509] (by rfl) rfl rfl (by (try simp only [List.map_toArray,List.map_cons,List.map_nil]);first|done|rfl|(simp only [List.length_drop,List.length_take];rfl)) ?_
       with_reducible refine (saronref09_asked.calls k a0_0 _ _ l0_1 _ _ l0_2 t509 t510 _ ?side1 ?side2 ?side3 ?side4 A7.out).mono ?_
       (case side1=>repeat (first|exact (Kd.C_below HR0_1.out HB.out)|(with_reducible refine Kd.C_alloc ?_ _)|(with_reducible refine Kd.C_drewN ?_ _)|(with_reducible refine Kd.C_drew ?_)))
       (case side2=>exact HC0_1.out)
       (case side3=>repeat (first|exact (Kd.C_below HR0_2.out HB.out)|(with_reducible refine Kd.C_alloc ?_ _)|(with_reducible refine Kd.C_drewN ?_ _)|(with_reducible refine Kd.C_drew ?_)))
       (case side4=>exact HC0_2.out)
       rintro e w18 ⟨rfl,hb⟩
       refine ⟨_,rfl,?_⟩
       have n0_:=Aside0.mk (blk_below (g:=gb507) (o:=.cells #[.int .i64 a0_0,.slice A0_1 l0_1.length c0_1,.slice A0_2 l0_2.length c0_2] 27 (0,0)) (by (with_reducible repeat (first|refine blk_drewN ?_ _|refine blk_drew ?_|refine blk_alloc ?_ _));exact BK507.out) hb)
       have n1_:=Aside0.mk (below_step (by repeat (first|(with_reducible first|exact HB.out|apply below_alloc|apply pw_below_drewN|apply below_drew1|refine below_set ?_ GE507.out)|exact HB.out)) hb)
       clear BK507
       clear HB
       have BK507:=n0_
       have HB:=n1_
       clear n0_ n1_
       (try clear hb)
       (try clear hb2)
       (try clear hk)
       (try clear hi)
       refine hK.out _ _ ⟨(blk_cell BK507.out 0).trans rfl,(blk_cell BK507.out 1).trans rfl,(blk_cell BK507.out 2).trans rfl⟩ (fun hHeld=>?_)
       clear hK K
       refine norm_ (a':=?_) ?_ ?_
       rotate_left
       ·show Act.put _ (some 18) _=_
        simp only [Act.put,List.setIfInBounds_toArray,List.set_cons_zero,List.set_cons_succ,i64_w,i32_w]
        rfl
       refine pure_ (i:=10) (N:=some 8) (v:=?_) (a':=?_) #[true,true,true,true,true,true,true,true,true,true,true] rfl rfl (any_of HT_.out (by kernel_rfl)) (fun _ _ _ h=>h) (Or.inl ⟨by rfl,?_⟩) ?_ ?_
       rotate_left
       ·intro w'
        go_simp
        with_reducible rfl
       rotate_left
       ·simp only [Act.put,List.setIfInBounds_toArray,List.set_cons_zero,List.set_cons_succ,i64_w,i32_w]
        rfl
       refine done_ (done_of HT_.out (by kernel_rfl)) ?_
       try go_wp2
       have n0_:=Aside0.mk (blk_drew BK507.out)
       have n1_:=Aside0.mk (below_drew1 HB.out)
       clear BK507
       clear HB
       have BK507:=n0_
       have HB:=n1_
       clear n0_ n1_
       have p511:0≤(a1:Int):=of_decide_eq_true (by first|(with_reducible assumption)|assumption)
       have q511:a1<(l0_2.length:Int):=of_decide_eq_true (by first|(with_reducible assumption)|assumption)
       obtain ⟨ad511,A511_1,c511_1,e511,hx511_0,hx511_1,hl511_1,hi511_1⟩:=at_T62 HR0_2.out a1 p511 q511
       have hw511_1:=hx511_1
       have hw511_0:=hx511_0
       cases e511
       replace hx511_0:=(HB.out.cell (World.block_lt_of_cell? w _ hx511_0)).trans hx511_0
       replace hx511_1:=(HB.out.cell (World.block_lt_of_cell? w _ hx511_1)).trans hx511_1
       have HR511_1:=Aside0.mk hi511_1
       have HC511_1:=Aside0.mk hl511_1
       clear hi511_1 hl511_1
       replace p511:=eq_true p511
       replace q511:=eq_true q511
       have p512:0≤(a2:Int):=of_decide_eq_true (by first|(with_reducible assumption)|assumption)
       have q512:a2<(l0_2.length:Int):=of_decide_eq_true (by first|(with_reducible assumption)|assumption)
       obtain ⟨ad512,A512_1,c512_1,e512,hx512_0,hx512_1,hl512_1,hi512_1⟩:=at_T62 HR0_2.out a2 p512 q512
       have hw512_1:=hx512_1
       have hw512_0:=hx512_0
       obtain rfl:ad511=ad512:=(by injection e512)
       replace hx512_0:=(HB.out.cell (World.block_lt_of_cell? w _ hx512_0)).trans hx512_0
       replace hx512_1:=(HB.out.cell (World.block_lt_of_cell? w _ hx512_1)).trans hx512_1
       have HR512_1:=Aside0.mk hi512_1
       have HC512_1:=Aside0.mk hl512_1
       clear hi512_1 hl512_1
       replace p512:=eq_true p512
       replace q512:=eq_true q512
       refine start_ (n:=15) (S:=fun w'=>w'.cell? ⟨gb507,0,none⟩=some (.int .i64 a0_0)∧w'.cell? ⟨gb507,1,none⟩=some (.slice A0_1 l0_1.length c0_1)∧w'.cell? ⟨gb507,2,none⟩=some (.slice (some ad511) l0_2.length c0_2)∧w'.cell? (ad511.add ((a1).toNat * 2))=some (.int .i64 ((rd_T62 l0_2 a1).f0))∧w'.cell? ⟨(ad511.add ((a1).toNat * 2)).block,(ad511.add ((a1).toNat * 2)).off+1,none⟩=some (.slice A511_1 ((rd_T62 l0_2 a1).f1).length c511_1)∧w'.cell? (ad511.add ((a2).toNat * 2))=some (.int .i64 ((rd_T62 l0_2 a2).f0))∧w'.cell? ⟨(ad511.add ((a2).toNat * 2)).block,(ad511.add ((a2).toNat * 2)).off+1,none⟩=some (.slice A512_1 ((rd_T62 l0_2 a2).f1).length c512_1)) (ds:=[]) #[false,false,false,false,false,false,false,false,false,false,false,false,false,false,false] (by kernel_rfl) rfl rfl ⟨(blk_cell BK507.out 0).trans rfl,(blk_cell BK507.out 1).trans rfl,(blk_cell BK507.out 2).trans rfl,((HB.out.cell (World.block_lt_of_cell? w _ hw511_0)).trans hw511_0),((HB.out.cell (World.block_lt_of_cell? w _ hw511_1)).trans hw511_1),((HB.out.cell (World.block_lt_of_cell? w _ hw512_0)).trans hw512_0),((HB.out.cell (World.block_lt_of_cell? w _ hw512_1)).trans hw512_1)⟩ (fun hHeld=>?_);refine with_tabW saronref09_Common.tab4 saronref09_Common.bits4 (fun HT_ HW_=>?_)
       generalize w18.drew=w19 at BK507 HB HR511_1 HR512_1 hx511_0 hx511_1 hx512_0 hx512_1 hHeld ⊢
       refine pure_ (i:=0) (N:=some 22) (v:=?_) (a':=?_) #[true,false,false,false,false,false,false,false,false,false,false,false,false,false,false] rfl rfl (any_of HT_.out (by kernel_rfl)) (fun _ _ _ h=>h) (Or.inl ⟨by rfl,?_⟩) ?_ ?_
       rotate_left
       ·intro w'
        go_simp
        with_reducible rfl
       rotate_left
       ·simp only [Act.put,List.setIfInBounds_toArray,List.set_cons_zero,List.set_cons_succ,i64_w,i32_w]
        rfl
       refine pure_ (i:=2) (N:=some 24) (v:=?_) (a':=?_) #[true,false,true,false,false,false,false,false,false,false,false,false,false,false,false] rfl rfl (any_of HT_.out (by kernel_rfl)) (fun _ _ _ h=>h) (Or.inl ⟨by rfl,?_⟩) ?_ ?_
       rotate_left
       ·intro w'
        go_simp
        with_reducible rfl
       rotate_left
       ·simp only [Act.put,List.setIfInBounds_toArray,List.set_cons_zero,List.set_cons_succ,i64_w,i32_w]
        rfl
       refine pure_ (i:=6) (N:=some 28) (v:=?_) (a':=?_) #[true,false,true,false,false,false,true,false,false,false,false,false,false,false,false] rfl rfl (any_of HT_.out (by kernel_rfl)) (fun _ _ _ h=>h) (Or.inl ⟨by rfl,?_⟩) ?_ ?_
       rotate_left
       ·intro w'
        go_simp
        with_reducible rfl
       rotate_left
       ·simp only [Act.put,List.setIfInBounds_toArray,List.set_cons_zero,List.set_cons_succ,i64_w,i32_w]
        rfl
       refine pure_ (i:=8) (N:=some 30) (v:=?_) (a':=?_) #[true,false,true,false,false,false,true,false,true,false,false,false,false,false,false] rfl rfl (any_of HT_.out (by kernel_rfl)) (fun _ _ _ h=>h) (Or.inl ⟨by rfl,?_⟩) ?_ ?_
       rotate_left
       ·intro w'
        go_simp
        with_reducible rfl
       rotate_left
       ·simp only [Act.put,List.setIfInBounds_toArray,List.set_cons_zero,List.set_cons_succ,i64_w,i32_w]
        rfl
       refine take_ (i:=1) (N:=some 23) (v:=?_) (a':=?_) #[true,true,true,false,false,false,true,false,true,false,false,false,false,false,false] rfl rfl (take_ofW HT_.out HW_.out (by kernel_rfl)) (fun _ _ _ h=>h) (Or.inl ⟨by rfl,?_⟩) hHeld ?_ ?_
       rotate_left
       ·rintro w' ⟨s0,s1,s2,s3,s4,s5,s6⟩
        go_simp
        with_reducible rfl
       rotate_left
       ·simp only [Act.put,List.setIfInBounds_toArray,List.set_cons_zero,List.set_cons_succ,i64_w,i32_w]
        rfl
       refine pure_ (i:=3) (N:=some 25) (v:=?_) (a':=?_) #[true,true,true,true,false,false,true,false,true,false,false,false,false,false,false] rfl rfl (any_of HT_.out (by kernel_rfl)) (fun _ _ _ h=>h) (Or.inl ⟨by rfl,?_⟩) ?_ ?_
       rotate_left
       ·intro w'
        go_simp
        with_reducible rfl
       rotate_left
       ·simp only [Act.put,List.setIfInBounds_toArray,List.set_cons_zero,List.set_cons_succ,i64_w,i32_w]
        rfl
       refine pure_ (i:=4) (N:=some 26) (v:=?_) (a':=?_) #[true,true,true,true,true,false,true,false,true,false,false,false,false,false,false] rfl rfl (any_of HT_.out (by kernel_rfl)) (fun _ _ _ h=>h) (Or.inl ⟨by rfl,?_⟩) ?_ ?_
       rotate_left
       ·intro w'
        go_simp
        with_reducible rfl
       rotate_left
       ·simp only [Act.put,List.setIfInBounds_toArray,List.set_cons_zero,List.set_cons_succ,i64_w,i32_w]
        rfl
       refine take_ (i:=5) (N:=some 27) (v:=?_) (a':=?_) #[true,true,true,true,true,true,true,false,true,false,false,false,false,false,false] rfl rfl (take_ofW HT_.out HW_.out (by kernel_rfl)) (fun _ _ _ h=>h) (Or.inl ⟨by rfl,?_⟩) hHeld ?_ ?_
       rotate_left
       ·rintro w' ⟨s0,s1,s2,s3,s4,s5,s6⟩
        go_simp
        with_reducible rfl
       rotate_left
       ·simp only [Act.put,List.setIfInBounds_toArray,List.set_cons_zero,List.set_cons_succ,i64_w,i32_w]
        rfl
       refine take_ (i:=7) (N:=some 29) (v:=?_) (a':=?_) #[true,true,true,true,true,true,true,true,true,false,false,false,false,false,false] rfl rfl (take_ofW HT_.out HW_.out (by kernel_rfl)) (fun _ _ _ h=>h) (Or.inl ⟨by rfl,?_⟩) hHeld ?_ ?_
       rotate_left
       ·rintro w' ⟨s0,s1,s2,s3,s4,s5,s6⟩
        go_simp
        with_reducible rfl
       rotate_left
       ·simp only [Act.put,List.setIfInBounds_toArray,List.set_cons_zero,List.set_cons_succ,i64_w,i32_w]
        rfl
       refine pure_ (i:=9) (N:=some 31) (v:=?_) (a':=?_) #[true,true,true,true,true,true,true,true,true,true,false,false,false,false,false] rfl rfl (any_of HT_.out (by kernel_rfl)) (fun _ _ _ h=>h) (Or.inl ⟨by rfl,?_⟩) ?_ ?_
       rotate_left
       ·intro w'
        go_simp
        with_reducible rfl
       rotate_left
       ·simp only [Act.put,List.setIfInBounds_toArray,List.set_cons_zero,List.set_cons_succ,i64_w,i32_w]
        rfl
       refine pure_ (i:=10) (N:=some 32) (v:=?_) (a':=?_) #[true,true,true,true,true,true,true,true,true,true,true,false,false,false,false] rfl rfl (any_of HT_.out (by kernel_rfl)) (fun _ _ _ h=>h) (Or.inl ⟨by rfl,?_⟩) ?_ ?_
       rotate_left
       ·intro w'
        go_simp
        with_reducible rfl
       rotate_left
       ·simp only [Act.put,List.setIfInBounds_toArray,List.set_cons_zero,List.set_cons_succ,i64_w,i32_w]
        rfl
       refine take_ (i:=11) (N:=some 33) (v:=?_) (a':=?_) #[true,true,true,true,true,true,true,true,true,true,true,true,false,false,false] rfl rfl (take_ofW HT_.out HW_.out (by kernel_rfl)) (fun _ _ _ h=>h) (Or.inl ⟨by rfl,?_⟩) hHeld ?_ ?_
       rotate_left
       ·rintro w' ⟨s0,s1,s2,s3,s4,s5,s6⟩
        go_simp
        with_reducible rfl
       rotate_left
       ·simp only [Act.put,List.setIfInBounds_toArray,List.set_cons_zero,List.set_cons_succ,i64_w,i32_w]
        rfl
       refine one_ (i:=12) (N:=some 34) #[true,true,true,true,true,true,true,true,true,true,true,true,true,false,false] rfl rfl (one_of HT_.out (by kernel_rfl)) (by decide) (fun K hK=>?_)
       refine goes_ Tryd.func79 (by kernel_rfl) rfl #[.slice A511_1 ((rd_T62 l0_2 a1).f1).length c511_1,.slice A512_1 ((rd_T62 l0_2 a2).f1).length c512_1] (by rfl) rfl rfl (by (try simp only [List.map_toArray,List.map_cons,List.map_nil]);first|done|rfl|(simp only [List.length_drop,List.length_take];rfl)) ?_
       with_reducible refine (saronref09_share.calls k _ _ ((rd_T62 l0_2 a1).f1) _ _ ((rd_T62 l0_2 a2).f1) t513 _ ?side1 ?side2 ?side3 ?side4 A13.out).mono ?_
       (case side1=>repeat (first|exact (Kd.C_below HR511_1.out HB.out)|(with_reducible refine Kd.C_alloc ?_ _)|(with_reducible refine Kd.C_drewN ?_ _)|(with_reducible refine Kd.C_drew ?_)))
       (case side2=>exact HC511_1.out)
       (case side3=>repeat (first|exact (Kd.C_below HR512_1.out HB.out)|(with_reducible refine Kd.C_alloc ?_ _)|(with_reducible refine Kd.C_drewN ?_ _)|(with_reducible refine Kd.C_drew ?_)))
       (case side4=>exact HC512_1.out)
       rintro e w20 ⟨rfl,hb⟩
       refine ⟨_,rfl,?_⟩
       have n0_:=Aside0.mk (blk_below (g:=gb507) (o:=.cells #[.int .i64 a0_0,.slice A0_1 l0_1.length c0_1,.slice (some ad511) l0_2.length c0_2] 27 (0,0)) (by (with_reducible repeat (first|refine blk_drewN ?_ _|refine blk_drew ?_|refine blk_alloc ?_ _));exact BK507.out) hb)
       have n1_:=Aside0.mk (below_step (by repeat (first|(with_reducible first|exact HB.out|apply below_alloc|apply pw_below_drewN|apply below_drew1|refine below_set ?_ GE507.out)|exact HB.out)) hb)
       clear BK507
       clear HB
       have BK507:=n0_
       have HB:=n1_
       clear n0_ n1_
       (try clear hb)
       (try clear hb2)
       (try clear hk)
       (try clear hi)
       refine hK.out _ _ ⟨(blk_cell BK507.out 0).trans rfl,(blk_cell BK507.out 1).trans rfl,(blk_cell BK507.out 2).trans rfl,((HB.out.cell (World.block_lt_of_cell? w _ hw511_0)).trans hw511_0),((HB.out.cell (World.block_lt_of_cell? w _ hw511_1)).trans hw511_1),((HB.out.cell (World.block_lt_of_cell? w _ hw512_0)).trans hw512_0),((HB.out.cell (World.block_lt_of_cell? w _ hw512_1)).trans hw512_1)⟩ (fun hHeld=>?_)
       clear hK K
       refine norm_ (a':=?_) ?_ ?_
       rotate_left
       ·show Act.put _ (some 34) _=_
        simp only [Act.put,List.setIfInBounds_toArray,List.set_cons_zero,List.set_cons_succ,i64_w,i32_w]
        rfl
       refine pure_ (i:=13) (N:=some 6) (v:=?_) (a':=?_) #[true,true,true,true,true,true,true,true,true,true,true,true,true,true,false] rfl rfl (any_of HT_.out (by kernel_rfl)) (fun _ _ _ h=>h) (Or.inl ⟨by rfl,?_⟩) ?_ ?_
       rotate_left
       ·intro w'
        go_simp
        with_reducible rfl
       rotate_left
       ·simp only [Act.put,List.setIfInBounds_toArray,List.set_cons_zero,List.set_cons_succ,i64_w,i32_w]
        rfl
       refine pure_ (i:=14) (N:=some 7) (v:=?_) (a':=?_) #[true,true,true,true,true,true,true,true,true,true,true,true,true,true,true] rfl rfl (any_of HT_.out (by kernel_rfl)) (fun _ _ _ h=>h) (Or.inl ⟨by rfl,?_⟩) ?_ ?_
       rotate_left
       ·intro w'
        go_simp
        with_reducible rfl
       rotate_left
       ·simp only [Act.put,List.setIfInBounds_toArray,List.set_cons_zero,List.set_cons_succ,i64_w,i32_w]
        rfl
       refine done_ (done_of HT_.out (by kernel_rfl)) ?_
       try go_wp2
       go_ret2
       exact ⟨by first|rfl|(simp [errW_none,errW_some] <;> rfl)|(simp [*,errW_none,errW_some] <;> rfl),by repeat (first|(with_reducible first|exact HB.out|apply below_alloc|apply pw_below_drewN|apply below_drew1|refine below_set ?_ GE507.out)|exact HB.out)⟩
      ·rw [if_neg c12] at H
       exact absurd H (by simp)
     ·rw [if_neg c11] at H
      exact absurd H (by simp)
    ·rw [if_neg c10] at H
     exact absurd H (by simp)
   ·rw [if_neg c9] at H
    exact absurd H (by simp)
  ·rw [if_neg c8] at H
   have c8b0:(t510 == 0)=false:=beq_eq_false_iff_ne.mpr c8
   have c8b1:(t510 != 0)=true:=bne_iff_ne.mpr c8
   simp only [Option.some.injEq,Prod.mk.injEq] at H
   obtain ⟨rfl,rfl⟩:=H
   go_enter Tryd.func32,Tryd.ntmps32
   try go_wp2_with (first|((with_reducible refine gate_dst (N:=3) rfl ?_);refine box_event ?hg (N:=3) ?hd (cs:=#[.int .i64 a0_0,.slice A0_1 l0_1.length c0_1,.slice A0_2 l0_2.length c0_2]) (t:=27) ?hr ?_;(case hd=>rfl);(case hg=>rfl);(case hr=>first|(go_simp;done)|(go_simp;rfl));intro gb507 hg w21 hbox hb;have n0_:=Aside0.mk (below_step (by repeat (first|(with_reducible first|exact HB.out|apply below_alloc|apply pw_below_drewN|apply below_drew1)|exact HB.out)) hb);have n1_:=Aside0.mk (hbox);have n2_:=Aside0.mk ((by rw [hg];exact (below_size (by repeat (first|(with_reducible first|exact HB.out|apply below_alloc|apply pw_below_drewN|apply below_drew1)|exact HB.out))):w.heap.size≤gb507));have n3_:=Aside0.mk ((by rw [hg];exact (below_size (by repeat (first|(with_reducible first|exact HB.out|apply below_alloc|apply pw_below_drewN|apply below_drew1)|exact HB.out))):w.heap.size≤gb507));clear HB;have HB:=n0_;have BK507:=n1_;have GW507:=n2_;have GE507:=n3_;clear n0_ n1_ n2_ n3_;clear hb hbox hg))
   have n0_:=Aside0.mk (blk_drew BK507.out)
   have n1_:=Aside0.mk (below_drew1 HB.out)
   clear BK507
   clear HB
   have BK507:=n0_
   have HB:=n1_
   clear n0_ n1_
   refine start_ (n:=11) (S:=fun w'=>w'.cell? ⟨gb507,0,none⟩=some (.int .i64 a0_0)∧w'.cell? ⟨gb507,1,none⟩=some (.slice A0_1 l0_1.length c0_1)∧w'.cell? ⟨gb507,2,none⟩=some (.slice A0_2 l0_2.length c0_2)) (ds:=[]) #[false,false,false,false,false,false,false,false,false,false,false] (by kernel_rfl) rfl rfl ⟨(blk_cell BK507.out 0).trans rfl,(blk_cell BK507.out 1).trans rfl,(blk_cell BK507.out 2).trans rfl⟩ (fun hHeld=>?_);refine with_tabW saronref09_Common.tab1 saronref09_Common.bits1 (fun HT_ HW_=>?_)
   generalize w21.drew=w22 at BK507 HB hHeld ⊢
   refine pure_ (i:=2) (N:=some 11) (v:=?_) (a':=?_) #[false,false,true,false,false,false,false,false,false,false,false] rfl rfl (any_of HT_.out (by kernel_rfl)) (fun _ _ _ h=>h) (Or.inl ⟨by rfl,?_⟩) ?_ ?_
   rotate_left
   ·intro w'
    go_simp
    with_reducible rfl
   rotate_left
   ·simp only [Act.put,List.setIfInBounds_toArray,List.set_cons_zero,List.set_cons_succ,i64_w,i32_w]
    rfl
   refine take_ (i:=0) (N:=some 9) (v:=?_) (a':=?_) #[true,false,true,false,false,false,false,false,false,false,false] rfl rfl (take_ofW HT_.out HW_.out (by kernel_rfl)) (fun _ _ _ h=>h) (Or.inl ⟨by rfl,?_⟩) hHeld ?_ ?_
   rotate_left
   ·rintro w' ⟨s0,s1,s2⟩
    go_simp
    with_reducible rfl
   rotate_left
   ·simp only [Act.put,List.setIfInBounds_toArray,List.set_cons_zero,List.set_cons_succ,i64_w,i32_w]
    rfl
   refine take_ (i:=1) (N:=some 10) (v:=?_) (a':=?_) #[true,true,true,false,false,false,false,false,false,false,false] rfl rfl (take_ofW HT_.out HW_.out (by kernel_rfl)) (fun _ _ _ h=>h) (Or.inl ⟨by rfl,?_⟩) hHeld ?_ ?_
   rotate_left
   ·rintro w' ⟨s0,s1,s2⟩
    go_simp
    with_reducible rfl
   rotate_left
   ·simp only [Act.put,List.setIfInBounds_toArray,List.set_cons_zero,List.set_cons_succ,i64_w,i32_w]
    rfl
   refine one_ (i:=3) (N:=some 12) #[true,true,true,true,false,false,false,false,false,false,false] rfl rfl (one_of HT_.out (by kernel_rfl)) (by decide) (fun K hK=>?_)
   refine goes_ Tryd.func61 (by kernel_rfl) rfl #[.agg #[.int .i64 a0_0,.slice A0_1 l0_1.length c0_1,.slice A0_2 l0_2.length c0_2],.int .i64 a1] (by rfl) rfl rfl (by (try simp only [List.map_toArray,List.map_cons,List.map_nil]);first|done|rfl|(simp only [List.length_drop,List.length_take];rfl)) ?_
   with_reducible refine (saronref09_isPiece.calls a0_0 _ _ l0_1 _ _ l0_2 a1 true _ ?side1 ?side2 ?side3 ?side4 A4.out).mono ?_
   (case side1=>repeat (first|exact (Kd.C_below HR0_1.out HB.out)|(with_reducible refine Kd.C_alloc ?_ _)|(with_reducible refine Kd.C_drewN ?_ _)|(with_reducible refine Kd.C_drew ?_)))
   (case side2=>exact HC0_1.out)
   (case side3=>repeat (first|exact (Kd.C_below HR0_2.out HB.out)|(with_reducible refine Kd.C_alloc ?_ _)|(with_reducible refine Kd.C_drewN ?_ _)|(with_reducible refine Kd.C_drew ?_)))
   (case side4=>exact HC0_2.out)
   rintro e w23 ⟨rfl,hb⟩
   refine ⟨_,rfl,?_⟩
   have n0_:=Aside0.mk (blk_below (g:=gb507) (o:=.cells #[.int .i64 a0_0,.slice A0_1 l0_1.length c0_1,.slice A0_2 l0_2.length c0_2] 27 (0,0)) (by (with_reducible repeat (first|refine blk_drewN ?_ _|refine blk_drew ?_|refine blk_alloc ?_ _));exact BK507.out) hb)
   have n1_:=Aside0.mk (below_step (by repeat (first|(with_reducible first|exact HB.out|apply below_alloc|apply pw_below_drewN|apply below_drew1|refine below_set ?_ GE507.out)|exact HB.out)) hb)
   clear BK507
   clear HB
   have BK507:=n0_
   have HB:=n1_
   clear n0_ n1_
   (try clear hb)
   (try clear hb2)
   (try clear hk)
   (try clear hi)
   refine hK.out _ _ ⟨(blk_cell BK507.out 0).trans rfl,(blk_cell BK507.out 1).trans rfl,(blk_cell BK507.out 2).trans rfl⟩ (fun hHeld=>?_)
   clear hK K
   refine norm_ (a':=?_) ?_ ?_
   rotate_left
   ·show Act.put _ (some 12) _=_
    simp only [Act.put,List.setIfInBounds_toArray,List.set_cons_zero,List.set_cons_succ,i64_w,i32_w]
    rfl
   refine pure_ (i:=4) (N:=some 13) (v:=?_) (a':=?_) #[true,true,true,true,true,false,false,false,false,false,false] rfl rfl (any_of HT_.out (by kernel_rfl)) (fun _ _ _ h=>h) (Or.inl ⟨by rfl,?_⟩) ?_ ?_
   rotate_left
   ·intro w'
    go_simp
    with_reducible rfl
   rotate_left
   ·simp only [Act.put,List.setIfInBounds_toArray,List.set_cons_zero,List.set_cons_succ,i64_w,i32_w]
    rfl
   refine pure_ (i:=6) (N:=some 15) (v:=?_) (a':=?_) #[true,true,true,true,true,false,true,false,false,false,false] rfl rfl (any_of HT_.out (by kernel_rfl)) (fun _ _ _ h=>h) (Or.inl ⟨by rfl,?_⟩) ?_ ?_
   rotate_left
   ·intro w'
    go_simp
    with_reducible rfl
   rotate_left
   ·simp only [Act.put,List.setIfInBounds_toArray,List.set_cons_zero,List.set_cons_succ,i64_w,i32_w]
    rfl
   refine take_ (i:=5) (N:=some 14) (v:=?_) (a':=?_) #[true,true,true,true,true,true,true,false,false,false,false] rfl rfl (take_ofW HT_.out HW_.out (by kernel_rfl)) (fun _ _ _ h=>h) (Or.inl ⟨by rfl,?_⟩) hHeld ?_ ?_
   rotate_left
   ·rintro w' ⟨s0,s1,s2⟩
    go_simp
    with_reducible rfl
   rotate_left
   ·simp only [Act.put,List.setIfInBounds_toArray,List.set_cons_zero,List.set_cons_succ,i64_w,i32_w]
    rfl
   refine one_ (i:=7) (N:=some 16) #[true,true,true,true,true,true,true,true,false,false,false] rfl rfl (one_of HT_.out (by kernel_rfl)) (by decide) (fun K hK=>?_)
   refine goes_ Tryd.func61 (by kernel_rfl) rfl #[.agg #[.int .i64 a0_0,.slice A0_1 l0_1.length c0_1,.slice A0_2 l0_2.length c0_2],.int .i64 a2] (by rfl) rfl rfl (by (try simp only [List.map_toArray,List.map_cons,List.map_nil]);first|done|rfl|(simp only [List.length_drop,List.length_take];rfl)) ?_
   with_reducible refine (saronref09_isPiece.calls a0_0 _ _ l0_1 _ _ l0_2 a2 t509 _ ?side1 ?side2 ?side3 ?side4 A6.out).mono ?_
   (case side1=>repeat (first|exact (Kd.C_below HR0_1.out HB.out)|(with_reducible refine Kd.C_alloc ?_ _)|(with_reducible refine Kd.C_drewN ?_ _)|(with_reducible refine Kd.C_drew ?_)))
   (case side2=>exact HC0_1.out)
   (case side3=>repeat (first|exact (Kd.C_below HR0_2.out HB.out)|(with_reducible refine Kd.C_alloc ?_ _)|(with_reducible refine Kd.C_drewN ?_ _)|(with_reducible refine Kd.C_drew ?_)))
   (case side4=>exact HC0_2.out)
   rintro e w24 ⟨rfl,hb⟩
   refine ⟨_,rfl,?_⟩
   have n0_:=Aside0.mk (blk_below (g:=gb507) (o:=.cells #[.int .i64 a0_0,.slice A0_1 l0_1.length c0_1,.slice A0_2 l0_2.length c0_2] 27 (0,0)) (by (with_reducible repeat (first|refine blk_drewN ?_ _|refine blk_drew ?_|refine blk_alloc ?_ _));exact BK507.out) hb)
   have n1_:=Aside0.mk (below_step (by repeat (first|(with_reducible first|exact HB.out|apply below_alloc|apply pw_below_drewN|apply below_drew1|refine below_set ?_ GE507.out)|exact HB.out)) hb)
   clear BK507
   clear HB
   have BK507:=n0_
   have HB:=n1_
   clear n0_ n1_
   (try clear hb)
   (try clear hb2)
   (try clear hk)
   (try clear hi)
   refine hK.out _ _ ⟨(blk_cell BK507.out 0).trans rfl,(blk_cell BK507.out 1).trans rfl,(blk_cell BK507.out 2).trans rfl⟩ (fun hHeld=>?_)
   clear hK K
   refine norm_ (a':=?_) ?_ ?_
   rotate_left
   ·show Act.put _ (some 16) _=_
    simp only [Act.put,List.setIfInBounds_toArray,List.set_cons_zero,List.set_cons_succ,i64_w,i32_w]
    rfl
   refine pure_ (i:=8) (N:=some 17) (v:=?_) (a':=?_) #[true,true,true,true,true,true,true,true,true,false,false] rfl rfl (any_of HT_.out (by kernel_rfl)) (fun _ _ _ h=>h) (Or.inl ⟨by rfl,?_⟩) ?_ ?_
   rotate_left
   ·intro w'
    go_simp
    with_reducible rfl
   rotate_left
   ·simp only [Act.put,List.setIfInBounds_toArray,List.set_cons_zero,List.set_cons_succ,i64_w,i32_w]
    rfl
   refine one_ (i:=9) (N:=some 18) #[true,true,true,true,true,true,true,true,true,true,false] rfl rfl (one_of HT_.out (by kernel_rfl)) (by decide) (fun K hK=>?_)
   refine goes_ Tryd.func60 (by kernel_rfl) rfl #[.agg #[.int .i64 a0_0,.slice A0_1 l0_1.length c0_1,.slice A0_2 l0_2.length c0_2],.bool t509] (by rfl) rfl rfl (by (try simp only [List.map_toArray,List.map_cons,List.map_nil]);first|done|rfl|(simp only [List.length_drop,List.length_take];rfl)) ?_
   with_reducible refine (saronref09_asked.calls k a0_0 _ _ l0_1 _ _ l0_2 t509 t510 _ ?side1 ?side2 ?side3 ?side4 A7.out).mono ?_
   (case side1=>repeat (first|exact (Kd.C_below HR0_1.out HB.out)|(with_reducible refine Kd.C_alloc ?_ _)|(with_reducible refine Kd.C_drewN ?_ _)|(with_reducible refine Kd.C_drew ?_)))
   (case side2=>exact HC0_1.out)
   (case side3=>repeat (first|exact (Kd.C_below HR0_2.out HB.out)|(with_reducible refine Kd.C_alloc ?_ _)|(with_reducible refine Kd.C_drewN ?_ _)|(with_reducible refine Kd.C_drew ?_)))
   (case side4=>exact HC0_2.out)
   rintro e w25 ⟨rfl,hb⟩
   refine ⟨_,rfl,?_⟩
   have n0_:=Aside0.mk (blk_below (g:=gb507) (o:=.cells #[.int .i64 a0_0,.slice A0_1 l0_1.length c0_1,.slice A0_2 l0_2.length c0_2] 27 (0,0)) (by (with_reducible repeat (first|refine blk_drewN ?_ _|refine blk_drew ?_|refine blk_alloc ?_ _));exact BK507.out) hb)
   have n1_:=Aside0.mk (below_step (by repeat (first|(with_reducible first|exact HB.out|apply below_alloc|apply pw_below_drewN|apply below_drew1|refine below_set ?_ GE507.out)|exact HB.out)) hb)
   clear BK507
   clear HB
   have BK507:=n0_
   have HB:=n1_
   clear n0_ n1_
   (try clear hb)
   (try clear hb2)
   (try clear hk)
   (try clear hi)
   refine hK.out _ _ ⟨(blk_cell BK507.out 0).trans rfl,(blk_cell BK507.out 1).trans rfl,(blk_cell BK507.out 2).trans rfl⟩ (fun hHeld=>?_)
   clear hK K
   refine norm_ (a':=?_) ?_ ?_
   rotate_left
   ·show Act.put _ (some 18) _=_
    simp only [Act.put,List.setIfInBounds_toArray,List.set_cons_zero,List.set_cons_succ,i64_w,i32_w]
    rfl
   refine pure_ (i:=10) (N:=some 8) (v:=?_) (a':=?_) #[true,true,true,true,true,true,true,true,true,true,true] rfl rfl (any_of HT_.out (by kernel_rfl)) (fun _ _ _ h=>h) (Or.inl ⟨by rfl,?_⟩) ?_ ?_
   rotate_left
   ·intro w'
    go_simp
    with_reducible rfl
   rotate_left
   ·simp only [Act.put,List.setIfInBounds_toArray,List.set_cons_zero,List.set_cons_succ,i64_w,i32_w]
    rfl
   refine done_ (done_of HT_.out (by kernel_rfl)) ?_
   try go_wp2
   go_ret2
   exact ⟨by first|rfl|(simp [errW_none,errW_some] <;> rfl)|(simp [*,errW_none,errW_some] <;> rfl),by repeat (first|(with_reducible first|exact HB.out|apply below_alloc|apply pw_below_drewN|apply below_drew1|refine below_set ?_ GE507.out)|exact HB.out)⟩
 ·replace c5:=Bool.eq_false_iff.mpr c5
  subst c5
  rw [if_neg (show ¬ (false=true) by decide)] at H
  replace H:=Option.bind_eq_some_iff.mp H
  obtain ⟨t514,A260,H⟩:=H
  try dsimp only at H
  have A26:=Aside0.mk A260
  clear A260
  by_cases c27:t514=0
  ·rw [if_pos c27] at H
   have c27b0:(t514 == 0)=true:=beq_iff_eq.mpr c27
   have c27b1:(t514 != 0)=false:=bne_eq_false_iff_eq.mpr c27
   clear c27
   by_cases c28:0≤a1
   ·rw [if_pos c28] at H
    have c28b0:decide (0≤a1)=true:=decide_eq_true c28
    clear c28
    by_cases c29:a1<(l0_2.length:Int)
    ·rw [if_pos c29] at H
     have c29b0:decide (a1<(l0_2.length:Int))=true:=decide_eq_true c29
     clear c29
     by_cases c30:0≤a2
     ·rw [if_pos c30] at H
      have c30b0:decide (0≤a2)=true:=decide_eq_true c30
      clear c30
      by_cases c31:a2<(l0_2.length:Int)
      ·rw [if_pos c31] at H
       have c31b0:decide (a2<(l0_2.length:Int))=true:=decide_eq_true c31
       clear c31
       replace H:=Option.bind_eq_some_iff.mp H
       obtain ⟨t517,A320,H⟩:=H
       try dsimp only at H
       have A32:=Aside0.mk A320
       clear A320
       simp only [Option.some.injEq,Prod.mk.injEq] at H
       obtain ⟨rfl,rfl⟩:=H
       go_enter Tryd.func32,Tryd.ntmps32
       try go_wp2_with (first|((with_reducible refine gate_dst (N:=3) rfl ?_);refine box_event ?hg (N:=3) ?hd (cs:=#[.int .i64 a0_0,.slice A0_1 l0_1.length c0_1,.slice A0_2 l0_2.length c0_2]) (t:=27) ?hr ?_;(case hd=>rfl);(case hg=>rfl);(case hr=>first|(go_simp;done)|(go_simp;rfl));intro gb507 hg w33 hbox hb;have n0_:=Aside0.mk (below_step (by repeat (first|(with_reducible first|exact HB.out|apply below_alloc|apply pw_below_drewN|apply below_drew1)|exact HB.out)) hb);have n1_:=Aside0.mk (hbox);have n2_:=Aside0.mk ((by rw [hg];exact (below_size (by repeat (first|(with_reducible first|exact HB.out|apply below_alloc|apply pw_below_drewN|apply below_drew1)|exact HB.out))):w.heap.size≤gb507));have n3_:=Aside0.mk ((by rw [hg];exact (below_size (by repeat (first|(with_reducible first|exact HB.out|apply below_alloc|apply pw_below_drewN|apply below_drew1)|exact HB.out))):w.heap.size≤gb507));clear HB;have HB:=n0_;have BK507:=n1_;have GW507:=n2_;have GE507:=n3_;clear n0_ n1_ n2_ n3_;clear hb hbox hg))
       have n0_:=Aside0.mk (blk_drew BK507.out)
       have n1_:=Aside0.mk (below_drew1 HB.out)
       clear BK507
       clear HB
       have BK507:=n0_
       have HB:=n1_
       clear n0_ n1_
       refine start_ (n:=11) (S:=fun w'=>w'.cell? ⟨gb507,0,none⟩=some (.int .i64 a0_0)∧w'.cell? ⟨gb507,1,none⟩=some (.slice A0_1 l0_1.length c0_1)∧w'.cell? ⟨gb507,2,none⟩=some (.slice A0_2 l0_2.length c0_2)) (ds:=[]) #[false,false,false,false,false,false,false,false,false,false,false] (by kernel_rfl) rfl rfl ⟨(blk_cell BK507.out 0).trans rfl,(blk_cell BK507.out 1).trans rfl,(blk_cell BK507.out 2).trans rfl⟩ (fun hHeld=>?_);refine with_tabW saronref09_Common.tab1 saronref09_Common.bits1 (fun HT_ HW_=>?_)
       generalize w33.drew=w34 at BK507 HB hHeld ⊢
       refine pure_ (i:=2) (N:=some 11) (v:=?_) (a':=?_) #[false,false,true,false,false,false,false,false,false,false,false] rfl rfl (any_of HT_.out (by kernel_rfl)) (fun _ _ _ h=>h) (Or.inl ⟨by rfl,?_⟩) ?_ ?_
       rotate_left
       ·intro w'
        go_simp
        with_reducible rfl
       rotate_left
       ·simp only [Act.put,List.setIfInBounds_toArray,List.set_cons_zero,List.set_cons_succ,i64_w,i32_w]
        rfl
       refine take_ (i:=0) (N:=some 9) (v:=?_) (a':=?_) #[true,false,true,false,false,false,false,false,false,false,false] rfl rfl (take_ofW HT_.out HW_.out (by kernel_rfl)) (fun _ _ _ h=>h) (Or.inl ⟨by rfl,?_⟩) hHeld ?_ ?_
       rotate_left
       ·rintro w' ⟨s0,s1,s2⟩
        go_simp
        with_reducible rfl
       rotate_left
       ·simp only [Act.put,List.setIfInBounds_toArray,List.set_cons_zero,List.set_cons_succ,i64_w,i32_w]
        rfl
       refine take_ (i:=1) (N:=some 10) (v:=?_) (a':=?_) #[true,true,true,false,false,false,false,false,false,false,false] rfl rfl (take_ofW HT_.out HW_.out (by kernel_rfl)) (fun _ _ _ h=>h) (Or.inl ⟨by rfl,?_⟩) hHeld ?_ ?_
       rotate_left
       ·rintro w' ⟨s0,s1,s2⟩
        go_simp
        with_reducible rfl
       rotate_left
       ·simp only [Act.put,List.setIfInBounds_toArray,List.set_cons_zero,List.set_cons_succ,i64_w,i32_w]
        rfl
       refine one_ (i:=3) (N:=some 12) #[true,true,true,true,false,false,false,false,false,false,false] rfl rfl (one_of HT_.out (by kernel_rfl)) (by decide) (fun K hK=>?_)
       refine goes_ Tryd.func61 (by kernel_rfl) rfl #[.agg #[.int .i64 a0_0,.slice A0_1 l0_1.length c0_1,.slice A0_2 l0_2.length c0_2],.int .i64 a1] (by rfl) rfl rfl (by (try simp only [List.map_toArray,List.map_cons,List.map_nil]);first|done|rfl|(simp only [List.length_drop,List.length_take];rfl)) ?_
       with_reducible refine (saronref09_isPiece.calls a0_0 _ _ l0_1 _ _ l0_2 a1 false _ ?side1 ?side2 ?side3 ?side4 A4.out).mono ?_
       (case side1=>repeat (first|exact (Kd.C_below HR0_1.out HB.out)|(with_reducible refine Kd.C_alloc ?_ _)|(with_reducible refine Kd.C_drewN ?_ _)|(with_reducible refine Kd.C_drew ?_)))
       (case side2=>exact HC0_1.out)
       (case side3=>repeat (first|exact (Kd.C_below HR0_2.out HB.out)|(with_reducible refine Kd.C_alloc ?_ _)|(with_reducible refine Kd.C_drewN ?_ _)|(with_reducible refine Kd.C_drew ?_)))
       (case side4=>exact HC0_2.out)
       rintro e w35 ⟨rfl,hb⟩
       refine ⟨_,rfl,?_⟩
       have n0_:=Aside0.mk (blk_below (g:=gb507) (o:=.cells #[.int .i64 a0_0,.slice A0_1 l0_1.length c0_1,.slice A0_2 l0_2.length c0_2] 27 (0,0)) (by (with_reducible repeat (first|refine blk_drewN ?_ _|refine blk_drew ?_|refine blk_alloc ?_ _));exact BK507.out) hb)
       have n1_:=Aside0.mk (below_step (by repeat (first|(with_reducible first|exact HB.out|apply below_alloc|apply pw_below_drewN|apply below_drew1|refine below_set ?_ GE507.out)|exact HB.out)) hb)
       clear BK507
       clear HB
       have BK507:=n0_
       have HB:=n1_
       clear n0_ n1_
       (try clear hb)
       (try clear hb2)
       (try clear hk)
       (try clear hi)
       refine hK.out _ _ ⟨(blk_cell BK507.out 0).trans rfl,(blk_cell BK507.out 1).trans rfl,(blk_cell BK507.out 2).trans rfl⟩ (fun hHeld=>?_)
       clear hK K
       refine norm_ (a':=?_) ?_ ?_
       rotate_left
       ·show Act.put _ (some 12) _=_
        simp only [Act.put,List.setIfInBounds_toArray,List.set_cons_zero,List.set_cons_succ,i64_w,i32_w]
        rfl
       refine pure_ (i:=4) (N:=some 13) (v:=?_) (a':=?_) #[true,true,true,true,true,false,false,false,false,false,false] rfl rfl (any_of HT_.out (by kernel_rfl)) (fun _ _ _ h=>h) (Or.inl ⟨by rfl,?_⟩) ?_ ?_
       rotate_left
       ·intro w'
        go_simp
        with_reducible rfl
       rotate_left
       ·simp only [Act.put,List.setIfInBounds_toArray,List.set_cons_zero,List.set_cons_succ,i64_w,i32_w]
        rfl
       refine pure_ (i:=5) (N:=some 14) (v:=undef) (a':=?_) #[true,true,true,true,true,true,false,false,false,false,false] rfl rfl (any_of HT_.out (by kernel_rfl)) (fun _ _ _ h=>h) (Or.inr ⟨by rfl,rfl⟩) ?_ ?_
       rotate_left
       ·simp only [Act.put,List.setIfInBounds_toArray,List.set_cons_zero,List.set_cons_succ,i64_w,i32_w]
        rfl
       refine pure_ (i:=6) (N:=some 15) (v:=undef) (a':=?_) #[true,true,true,true,true,true,true,false,false,false,false] rfl rfl (any_of HT_.out (by kernel_rfl)) (fun _ _ _ h=>h) (Or.inr ⟨by rfl,rfl⟩) ?_ ?_
       rotate_left
       ·simp only [Act.put,List.setIfInBounds_toArray,List.set_cons_zero,List.set_cons_succ,i64_w,i32_w]
        rfl
       refine pure_ (i:=7) (N:=some 16) (v:=undef) (a':=?_) #[true,true,true,true,true,true,true,true,false,false,false] rfl rfl (any_of HT_.out (by kernel_rfl)) (fun _ _ _ h=>h) (Or.inr ⟨by rfl,rfl⟩) ?_ ?_
       rotate_left
       ·simp only [Act.put,List.setIfInBounds_toArray,List.set_cons_zero,List.set_cons_succ,i64_w,i32_w]
        rfl
       refine pure_ (i:=8) (N:=some 17) (v:=?_) (a':=?_) #[true,true,true,true,true,true,true,true,true,false,false] rfl rfl (any_of HT_.out (by kernel_rfl)) (fun _ _ _ h=>h) (Or.inl ⟨by rfl,?_⟩) ?_ ?_
       rotate_left
       ·intro w'
        go_simp
        with_reducible rfl
       rotate_left
       ·simp only [Act.put,List.setIfInBounds_toArray,List.set_cons_zero,List.set_cons_succ,i64_w,i32_w]
        rfl
       refine one_ (i:=9) (N:=some 18) #[true,true,true,true,true,true,true,true,true,true,false] rfl rfl (one_of HT_.out (by kernel_rfl)) (by decide) (fun K hK=>?_)
       refine goes_ Tryd.func60 (by kernel_rfl) rfl #[.agg #[.int .i64 a0_0,.slice A0_1 l0_1.length c0_1,.slice A0_2 l0_2.length c0_2],.bool false] (by rfl) rfl rfl (by (try simp only [List.map_toArray,List.map_cons,List.map_nil]);first|done|rfl|(simp only [List.length_drop,List.length_take];rfl)) ?_
       with_reducible refine (saronref09_asked.calls k a0_0 _ _ l0_1 _ _ l0_2 false t514 _ ?side1 ?side2 ?side3 ?side4 A26.out).mono ?_
       (case side1=>repeat (first|exact (Kd.C_below HR0_1.out HB.out)|(with_reducible refine Kd.C_alloc ?_ _)|(with_reducible refine Kd.C_drewN ?_ _)|(with_reducible refine Kd.C_drew ?_)))
       (case side2=>exact HC0_1.out)
       (case side3=>repeat (first|exact (Kd.C_below HR0_2.out HB.out)|(with_reducible refine Kd.C_alloc ?_ _)|(with_reducible refine Kd.C_drewN ?_ _)|(with_reducible refine Kd.C_drew ?_)))
       (case side4=>exact HC0_2.out)
       rintro e w36 ⟨rfl,hb⟩
       refine ⟨_,rfl,?_⟩
       have n0_:=Aside0.mk (blk_below (g:=gb507) (o:=.cells #[.int .i64 a0_0,.slice A0_1 l0_1.length c0_1,.slice A0_2 l0_2.length c0_2] 27 (0,0)) (by (with_reducible repeat (first|refine blk_drewN ?_ _|refine blk_drew ?_|refine blk_alloc ?_ _));exact BK507.out) hb)
       have n1_:=Aside0.mk (below_step (by repeat (first|(with_reducible first|exact HB.out|apply below_alloc|apply pw_below_drewN|apply below_drew1|refine below_set ?_ GE507.out)|exact HB.out)) hb)
       clear BK507
       clear HB
       have BK507:=n0_
       have HB:=n1_
       clear n0_ n1_
       (try clear hb)
       (try clear hb2)
       (try clear hk)
       (try clear hi)
       refine hK.out _ _ ⟨(blk_cell BK507.out 0).trans rfl,(blk_cell BK507.out 1).trans rfl,(blk_cell BK507.out 2).trans rfl⟩ (fun hHeld=>?_)
       clear hK K
       refine norm_ (a':=?_) ?_ ?_
       rotate_left
       ·show Act.put _ (some 18) _=_
        simp only [Act.put,List.setIfInBounds_toArray,List.set_cons_zero,List.set_cons_succ,i64_w,i32_w]
        rfl
       refine pure_ (i:=10) (N:=some 8) (v:=?_) (a':=?_) #[true,true,true,true,true,true,true,true,true,true,true] rfl rfl (any_of HT_.out (by kernel_rfl)) (fun _ _ _ h=>h) (Or.inl ⟨by rfl,?_⟩) ?_ ?_
       rotate_left
       ·intro w'
        go_simp
        with_reducible rfl
       rotate_left
       ·simp only [Act.put,List.setIfInBounds_toArray,List.set_cons_zero,List.set_cons_succ,i64_w,i32_w]
        rfl
       refine done_ (done_of HT_.out (by kernel_rfl)) ?_
       try go_wp2
       have n0_:=Aside0.mk (blk_drew BK507.out)
       have n1_:=Aside0.mk (below_drew1 HB.out)
       clear BK507
       clear HB
       have BK507:=n0_
       have HB:=n1_
       clear n0_ n1_
       have p515:0≤(a1:Int):=of_decide_eq_true (by first|(with_reducible assumption)|assumption)
       have q515:a1<(l0_2.length:Int):=of_decide_eq_true (by first|(with_reducible assumption)|assumption)
       obtain ⟨ad515,A515_1,c515_1,e515,hx515_0,hx515_1,hl515_1,hi515_1⟩:=at_T62 HR0_2.out a1 p515 q515
       have hw515_1:=hx515_1
       have hw515_0:=hx515_0
       cases e515
       replace hx515_0:=(HB.out.cell (World.block_lt_of_cell? w _ hx515_0)).trans hx515_0
       replace hx515_1:=(HB.out.cell (World.block_lt_of_cell? w _ hx515_1)).trans hx515_1
       have HR515_1:=Aside0.mk hi515_1
       have HC515_1:=Aside0.mk hl515_1
       clear hi515_1 hl515_1
       replace p515:=eq_true p515
       replace q515:=eq_true q515
       have p516:0≤(a2:Int):=of_decide_eq_true (by first|(with_reducible assumption)|assumption)
       have q516:a2<(l0_2.length:Int):=of_decide_eq_true (by first|(with_reducible assumption)|assumption)
       obtain ⟨ad516,A516_1,c516_1,e516,hx516_0,hx516_1,hl516_1,hi516_1⟩:=at_T62 HR0_2.out a2 p516 q516
       have hw516_1:=hx516_1
       have hw516_0:=hx516_0
       obtain rfl:ad515=ad516:=(by injection e516)
       replace hx516_0:=(HB.out.cell (World.block_lt_of_cell? w _ hx516_0)).trans hx516_0
       replace hx516_1:=(HB.out.cell (World.block_lt_of_cell? w _ hx516_1)).trans hx516_1
       have HR516_1:=Aside0.mk hi516_1
       have HC516_1:=Aside0.mk hl516_1
       clear hi516_1 hl516_1
       replace p516:=eq_true p516
       replace q516:=eq_true q516
       refine start_ (n:=15) (S:=fun w'=>w'.cell? ⟨gb507,0,none⟩=some (.int .i64 a0_0)∧w'.cell? ⟨gb507,1,none⟩=some (.slice A0_1 l0_1.length c0_1)∧w'.cell? ⟨gb507,2,none⟩=some (.slice (some ad515) l0_2.length c0_2)∧w'.cell? (ad515.add ((a1).toNat * 2))=some (.int .i64 ((rd_T62 l0_2 a1).f0))∧w'.cell? ⟨(ad515.add ((a1).toNat * 2)).block,(ad515.add ((a1).toNat * 2)).off+1,none⟩=some (.slice A515_1 ((rd_T62 l0_2 a1).f1).length c515_1)∧w'.cell? (ad515.add ((a2).toNat * 2))=some (.int .i64 ((rd_T62 l0_2 a2).f0))∧w'.cell? ⟨(ad515.add ((a2).toNat * 2)).block,(ad515.add ((a2).toNat * 2)).off+1,none⟩=some (.slice A516_1 ((rd_T62 l0_2 a2).f1).length c516_1)) (ds:=[]) #[false,false,false,false,false,false,false,false,false,false,false,false,false,false,false] (by kernel_rfl) rfl rfl ⟨(blk_cell BK507.out 0).trans rfl,(blk_cell BK507.out 1).trans rfl,(blk_cell BK507.out 2).trans rfl,((HB.out.cell (World.block_lt_of_cell? w _ hw515_0)).trans hw515_0),((HB.out.cell (World.block_lt_of_cell? w _ hw515_1)).trans hw515_1),((HB.out.cell (World.block_lt_of_cell? w _ hw516_0)).trans hw516_0),((HB.out.cell (World.block_lt_of_cell? w _ hw516_1)).trans hw516_1)⟩ (fun hHeld=>?_);refine with_tabW saronref09_Common.tab4 saronref09_Common.bits4 (fun HT_ HW_=>?_)
       generalize w36.drew=w37 at BK507 HB HR515_1 HR516_1 hx515_0 hx515_1 hx516_0 hx516_1 hHeld ⊢
       refine pure_ (i:=0) (N:=some 22) (v:=?_) (a':=?_) #[true,false,false,false,false,false,false,false,false,false,false,false,false,false,false] rfl rfl (any_of HT_.out (by kernel_rfl)) (fun _ _ _ h=>h) (Or.inl ⟨by rfl,?_⟩) ?_ ?_
       rotate_left
       ·intro w'
        go_simp
        with_reducible rfl
       rotate_left
       ·simp only [Act.put,List.setIfInBounds_toArray,List.set_cons_zero,List.set_cons_succ,i64_w,i32_w]
        rfl
       refine pure_ (i:=2) (N:=some 24) (v:=?_) (a':=?_) #[true,false,true,false,false,false,false,false,false,false,false,false,false,false,false] rfl rfl (any_of HT_.out (by kernel_rfl)) (fun _ _ _ h=>h) (Or.inl ⟨by rfl,?_⟩) ?_ ?_
       rotate_left
       ·intro w'
        go_simp
        with_reducible rfl
       rotate_left
       ·simp only [Act.put,List.setIfInBounds_toArray,List.set_cons_zero,List.set_cons_succ,i64_w,i32_w]
        rfl
       refine pure_ (i:=6) (N:=some 28) (v:=?_) (a':=?_) #[true,false,true,false,false,false,true,false,false,false,false,false,false,false,false] rfl rfl (any_of HT_.out (by kernel_rfl)) (fun _ _ _ h=>h) (Or.inl ⟨by rfl,?_⟩) ?_ ?_
       rotate_left
       ·intro w'
        go_simp
        with_reducible rfl
       rotate_left
       ·simp only [Act.put,List.setIfInBounds_toArray,List.set_cons_zero,List.set_cons_succ,i64_w,i32_w]
        rfl
       refine pure_ (i:=8) (N:=some 30) (v:=?_) (a':=?_) #[true,false,true,false,false,false,true,false,true,false,false,false,false,false,false] rfl rfl (any_of HT_.out (by kernel_rfl)) (fun _ _ _ h=>h) (Or.inl ⟨by rfl,?_⟩) ?_ ?_
       rotate_left
       ·intro w'
        go_simp
        with_reducible rfl
       rotate_left
       ·simp only [Act.put,List.setIfInBounds_toArray,List.set_cons_zero,List.set_cons_succ,i64_w,i32_w]
        rfl
       refine take_ (i:=1) (N:=some 23) (v:=?_) (a':=?_) #[true,true,true,false,false,false,true,false,true,false,false,false,false,false,false] rfl rfl (take_ofW HT_.out HW_.out (by kernel_rfl)) (fun _ _ _ h=>h) (Or.inl ⟨by rfl,?_⟩) hHeld ?_ ?_
       rotate_left
       ·rintro w' ⟨s0,s1,s2,s3,s4,s5,s6⟩
        go_simp
        with_reducible rfl
       rotate_left
       ·simp only [Act.put,List.setIfInBounds_toArray,List.set_cons_zero,List.set_cons_succ,i64_w,i32_w]
        rfl
       refine pure_ (i:=3) (N:=some 25) (v:=?_) (a':=?_) #[true,true,true,true,false,false,true,false,true,false,false,false,false,false,false] rfl rfl (any_of HT_.out (by kernel_rfl)) (fun _ _ _ h=>h) (Or.inl ⟨by rfl,?_⟩) ?_ ?_
       rotate_left
       ·intro w'
        go_simp
        with_reducible rfl
       rotate_left
       ·simp only [Act.put,List.setIfInBounds_toArray,List.set_cons_zero,List.set_cons_succ,i64_w,i32_w]
        rfl
       refine pure_ (i:=4) (N:=some 26) (v:=?_) (a':=?_) #[true,true,true,true,true,false,true,false,true,false,false,false,false,false,false] rfl rfl (any_of HT_.out (by kernel_rfl)) (fun _ _ _ h=>h) (Or.inl ⟨by rfl,?_⟩) ?_ ?_
       rotate_left
       ·intro w'
        go_simp
        with_reducible rfl
       rotate_left
       ·simp only [Act.put,List.setIfInBounds_toArray,List.set_cons_zero,List.set_cons_succ,i64_w,i32_w]
        rfl
       refine take_ (i:=5) (N:=some 27) (v:=?_) (a':=?_) #[true,true,true,true,true,true,true,false,true,false,false,false,false,false,false] rfl rfl (take_ofW HT_.out HW_.out (by kernel_rfl)) (fun _ _ _ h=>h) (Or.inl ⟨by rfl,?_⟩) hHeld ?_ ?_
       rotate_left
       ·rintro w' ⟨s0,s1,s2,s3,s4,s5,s6⟩
        go_simp
        with_reducible rfl
       rotate_left
       ·simp only [Act.put,List.setIfInBounds_toArray,List.set_cons_zero,List.set_cons_succ,i64_w,i32_w]
        rfl
       refine take_ (i:=7) (N:=some 29) (v:=?_) (a':=?_) #[true,true,true,true,true,true,true,true,true,false,false,false,false,false,false] rfl rfl (take_ofW HT_.out HW_.out (by kernel_rfl)) (fun _ _ _ h=>h) (Or.inl ⟨by rfl,?_⟩) hHeld ?_ ?_
       rotate_left
       ·rintro w' ⟨s0,s1,s2,s3,s4,s5,s6⟩
        go_simp
        with_reducible rfl
       rotate_left
       ·simp only [Act.put,List.setIfInBounds_toArray,List.set_cons_zero,List.set_cons_succ,i64_w,i32_w]
        rfl
       refine pure_ (i:=9) (N:=some 31) (v:=?_) (a':=?_) #[true,true,true,true,true,true,true,true,true,true,false,false,false,false,false] rfl rfl (any_of HT_.out (by kernel_rfl)) (fun _ _ _ h=>h) (Or.inl ⟨by rfl,?_⟩) ?_ ?_
       rotate_left
       ·intro w'
        go_simp
        with_reducible rfl
       rotate_left
       ·simp only [Act.put,List.setIfInBounds_toArray,List.set_cons_zero,List.set_cons_succ,i64_w,i32_w]
        rfl
       refine pure_ (i:=10) (N:=some 32) (v:=?_) (a':=?_) #[true,true,true,true,true,true,true,true,true,true,true,false,false,false,false] rfl rfl (any_of HT_.out (by kernel_rfl)) (fun _ _ _ h=>h) (Or.inl ⟨by rfl,?_⟩) ?_ ?_
       rotate_left
       ·intro w'
        go_simp
        with_reducible rfl
       rotate_left
       ·simp only [Act.put,List.setIfInBounds_toArray,List.set_cons_zero,List.set_cons_succ,i64_w,i32_w]
        rfl
       refine take_ (i:=11) (N:=some 33) (v:=?_) (a':=?_) #[true,true,true,true,true,true,true,true,true,true,true,true,false,false,false] rfl rfl (take_ofW HT_.out HW_.out (by kernel_rfl)) (fun _ _ _ h=>h) (Or.inl ⟨by rfl,?_⟩) hHeld ?_ ?_
       rotate_left
       ·rintro w' ⟨s0,s1,s2,s3,s4,s5,s6⟩
        go_simp
        with_reducible rfl
       rotate_left
       ·simp only [Act.put,List.setIfInBounds_toArray,List.set_cons_zero,List.set_cons_succ,i64_w,i32_w]
        rfl
       refine one_ (i:=12) (N:=some 34) #[true,true,true,true,true,true,true,true,true,true,true,true,true,false,false] rfl rfl (one_of HT_.out (by kernel_rfl)) (by decide) (fun K hK=>?_)
       refine goes_ Tryd.func79 (by kernel_rfl) rfl #[.slice A515_1 ((rd_T62 l0_2 a1).f1).length c515_1,.slice A516_1 ((rd_T62 l0_2 a2).f1).length c516_1] (by rfl) rfl rfl (by (try simp only [List.map_toArray,List.map_cons,List.map_nil]);first|done|rfl|(simp only [List.length_drop,List.length_take];rfl)) ?_
       with_reducible refine (saronref09_share.calls k _ _ ((rd_T62 l0_2 a1).f1) _ _ ((rd_T62 l0_2 a2).f1) t517 _ ?side1 ?side2 ?side3 ?side4 A32.out).mono ?_
       (case side1=>repeat (first|exact (Kd.C_below HR515_1.out HB.out)|(with_reducible refine Kd.C_alloc ?_ _)|(with_reducible refine Kd.C_drewN ?_ _)|(with_reducible refine Kd.C_drew ?_)))
       (case side2=>exact HC515_1.out)
       (case side3=>repeat (first|exact (Kd.C_below HR516_1.out HB.out)|(with_reducible refine Kd.C_alloc ?_ _)|(with_reducible refine Kd.C_drewN ?_ _)|(with_reducible refine Kd.C_drew ?_)))
       (case side4=>exact HC516_1.out)
       rintro e w38 ⟨rfl,hb⟩
       refine ⟨_,rfl,?_⟩
       have n0_:=Aside0.mk (blk_below (g:=gb507) (o:=.cells #[.int .i64 a0_0,.slice A0_1 l0_1.length c0_1,.slice (some ad515) l0_2.length c0_2] 27 (0,0)) (by (with_reducible repeat (first|refine blk_drewN ?_ _|refine blk_drew ?_|refine blk_alloc ?_ _));exact BK507.out) hb)
       have n1_:=Aside0.mk (below_step (by repeat (first|(with_reducible first|exact HB.out|apply below_alloc|apply pw_below_drewN|apply below_drew1|refine below_set ?_ GE507.out)|exact HB.out)) hb)
       clear BK507
       clear HB
       have BK507:=n0_
       have HB:=n1_
       clear n0_ n1_
       (try clear hb)
       (try clear hb2)
       (try clear hk)
       (try clear hi)
       refine hK.out _ _ ⟨(blk_cell BK507.out 0).trans rfl,(blk_cell BK507.out 1).trans rfl,(blk_cell BK507.out 2).trans rfl,((HB.out.cell (World.block_lt_of_cell? w _ hw515_0)).trans hw515_0),((HB.out.cell (World.block_lt_of_cell? w _ hw515_1)).trans hw515_1),((HB.out.cell (World.block_lt_of_cell? w _ hw516_0)).trans hw516_0),((HB.out.cell (World.block_lt_of_cell? w _ hw516_1)).trans hw516_1)⟩ (fun hHeld=>?_)
       clear hK K
       refine norm_ (a':=?_) ?_ ?_
       rotate_left
       ·show Act.put _ (some 34) _=_
        simp only [Act.put,List.setIfInBounds_toArray,List.set_cons_zero,List.set_cons_succ,i64_w,i32_w]
        rfl
       refine pure_ (i:=13) (N:=some 6) (v:=?_) (a':=?_) #[true,true,true,true,true,true,true,true,true,true,true,true,true,true,false] rfl rfl (any_of HT_.out (by kernel_rfl)) (fun _ _ _ h=>h) (Or.inl ⟨by rfl,?_⟩) ?_ ?_
       rotate_left
       ·intro w'
        go_simp
        with_reducible rfl
       rotate_left
       ·simp only [Act.put,List.setIfInBounds_toArray,List.set_cons_zero,List.set_cons_succ,i64_w,i32_w]
        rfl
       refine pure_ (i:=14) (N:=some 7) (v:=?_) (a':=?_) #[true,true,true,true,true,true,true,true,true,true,true,true,true,true,true] rfl rfl (any_of HT_.out (by kernel_rfl)) (fun _ _ _ h=>h) (Or.inl ⟨by rfl,?_⟩) ?_ ?_
       rotate_left
       ·intro w'
        go_simp
        with_reducible rfl
       rotate_left
       ·simp only [Act.put,List.setIfInBounds_toArray,List.set_cons_zero,List.set_cons_succ,i64_w,i32_w]
        rfl
       refine done_ (done_of HT_.out (by kernel_rfl)) ?_
       try go_wp2
       go_ret2
       exact ⟨by first|rfl|(simp [errW_none,errW_some] <;> rfl)|(simp [*,errW_none,errW_some] <;> rfl),by repeat (first|(with_reducible first|exact HB.out|apply below_alloc|apply pw_below_drewN|apply below_drew1|refine below_set ?_ GE507.out)|exact HB.out)⟩
      ·rw [if_neg c31] at H
       exact absurd H (by simp)
     ·rw [if_neg c30] at H
      exact absurd H (by simp)
    ·rw [if_neg c29] at H
     exact absurd H (by simp)
   ·rw [if_neg c28] at H
    exact absurd H (by simp)
  ·rw [if_neg c27] at H
   have c27b0:(t514 == 0)=false:=beq_eq_false_iff_ne.mpr c27
   have c27b1:(t514 != 0)=true:=bne_iff_ne.mpr c27
   simp only [Option.some.injEq,Prod.mk.injEq] at H
   obtain ⟨rfl,rfl⟩:=H
   go_enter Tryd.func32,Tryd.ntmps32
   try go_wp2_with (first|((with_reducible refine gate_dst (N:=3) rfl ?_);refine box_event ?hg (N:=3) ?hd (cs:=#[.int .i64 a0_0,.slice A0_1 l0_1.length c0_1,.slice A0_2 l0_2.length c0_2]) (t:=27) ?hr ?_;(case hd=>rfl);(case hg=>rfl);(case hr=>first|(go_simp;done)|(go_simp;rfl));intro gb507 hg w39 hbox hb;have n0_:=Aside0.mk (below_step (by repeat (first|(with_reducible first|exact HB.out|apply below_alloc|apply pw_below_drewN|apply below_drew1)|exact HB.out)) hb);have n1_:=Aside0.mk (hbox);have n2_:=Aside0.mk ((by rw [hg];exact (below_size (by repeat (first|(with_reducible first|exact HB.out|apply below_alloc|apply pw_below_drewN|apply below_drew1)|exact HB.out))):w.heap.size≤gb507));have n3_:=Aside0.mk ((by rw [hg];exact (below_size (by repeat (first|(with_reducible first|exact HB.out|apply below_alloc|apply pw_below_drewN|apply below_drew1)|exact HB.out))):w.heap.size≤gb507));clear HB;have HB:=n0_;have BK507:=n1_;have GW507:=n2_;have GE507:=n3_;clear n0_ n1_ n2_ n3_;clear hb hbox hg))
   have n0_:=Aside0.mk (blk_drew BK507.out)
   have n1_:=Aside0.mk (below_drew1 HB.out)
   clear BK507
   clear HB
   have BK507:=n0_
   have HB:=n1_
   clear n0_ n1_
   refine start_ (n:=11) (S:=fun w'=>w'.cell? ⟨gb507,0,none⟩=some (.int .i64 a0_0)∧w'.cell? ⟨gb507,1,none⟩=some (.slice A0_1 l0_1.length c0_1)∧w'.cell? ⟨gb507,2,none⟩=some (.slice A0_2 l0_2.length c0_2)) (ds:=[]) #[false,false,false,false,false,false,false,false,false,false,false] (by kernel_rfl) rfl rfl ⟨(blk_cell BK507.out 0).trans rfl,(blk_cell BK507.out 1).trans rfl,(blk_cell BK507.out 2).trans rfl⟩ (fun hHeld=>?_);refine with_tabW saronref09_Common.tab1 saronref09_Common.bits1 (fun HT_ HW_=>?_)
   generalize w39.drew=w40 at BK507 HB hHeld ⊢
   refine pure_ (i:=2) (N:=some 11) (v:=?_) (a':=?_) #[false,false,true,false,false,false,false,false,false,false,false] rfl rfl (any_of HT_.out (by kernel_rfl)) (fun _ _ _ h=>h) (Or.inl ⟨by rfl,?_⟩) ?_ ?_
   rotate_left
   ·intro w'
    go_simp
    with_reducible rfl
   rotate_left
   ·simp only [Act.put,List.setIfInBounds_toArray,List.set_cons_zero,List.set_cons_succ,i64_w,i32_w]
    rfl
   refine take_ (i:=0) (N:=some 9) (v:=?_) (a':=?_) #[true,false,true,false,false,false,false,false,false,false,false] rfl rfl (take_ofW HT_.out HW_.out (by kernel_rfl)) (fun _ _ _ h=>h) (Or.inl ⟨by rfl,?_⟩) hHeld ?_ ?_
   rotate_left
   ·rintro w' ⟨s0,s1,s2⟩
    go_simp
    with_reducible rfl
   rotate_left
   ·simp only [Act.put,List.setIfInBounds_toArray,List.set_cons_zero,List.set_cons_succ,i64_w,i32_w]
    rfl
   refine take_ (i:=1) (N:=some 10) (v:=?_) (a':=?_) #[true,true,true,false,false,false,false,false,false,false,false] rfl rfl (take_ofW HT_.out HW_.out (by kernel_rfl)) (fun _ _ _ h=>h) (Or.inl ⟨by rfl,?_⟩) hHeld ?_ ?_
   rotate_left
   ·rintro w' ⟨s0,s1,s2⟩
    go_simp
    with_reducible rfl
   rotate_left
   ·simp only [Act.put,List.setIfInBounds_toArray,List.set_cons_zero,List.set_cons_succ,i64_w,i32_w]
    rfl
   refine one_ (i:=3) (N:=some 12) #[true,true,true,true,false,false,false,false,false,false,false] rfl rfl (one_of HT_.out (by kernel_rfl)) (by decide) (fun K hK=>?_)
   refine goes_ Tryd.func61 (by kernel_rfl) rfl #[.agg #[.int .i64 a0_0,.slice A0_1 l0_1.length c0_1,.slice A0_2 l0_2.length c0_2],.int .i64 a1] (by rfl) rfl rfl (by (try simp only [List.map_toArray,List.map_cons,List.map_nil]);first|done|rfl|(simp only [List.length_drop,List.length_take];rfl)) ?_
   with_reducible refine (saronref09_isPiece.calls a0_0 _ _ l0_1 _ _ l0_2 a1 false _ ?side1 ?side2 ?side3 ?side4 A4.out).mono ?_
   (case side1=>repeat (first|exact (Kd.C_below HR0_1.out HB.out)|(with_reducible refine Kd.C_alloc ?_ _)|(with_reducible refine Kd.C_drewN ?_ _)|(with_reducible refine Kd.C_drew ?_)))
   (case side2=>exact HC0_1.out)
   (case side3=>repeat (first|exact (Kd.C_below HR0_2.out HB.out)|(with_reducible refine Kd.C_alloc ?_ _)|(with_reducible refine Kd.C_drewN ?_ _)|(with_reducible refine Kd.C_drew ?_)))
   (case side4=>exact HC0_2.out)
   rintro e w41 ⟨rfl,hb⟩
   refine ⟨_,rfl,?_⟩
   have n0_:=Aside0.mk (blk_below (g:=gb507) (o:=.cells #[.int .i64 a0_0,.slice A0_1 l0_1.length c0_1,.slice A0_2 l0_2.length c0_2] 27 (0,0)) (by (with_reducible repeat (first|refine blk_drewN ?_ _|refine blk_drew ?_|refine blk_alloc ?_ _));exact BK507.out) hb)
   have n1_:=Aside0.mk (below_step (by repeat (first|(with_reducible first|exact HB.out|apply below_alloc|apply pw_below_drewN|apply below_drew1|refine below_set ?_ GE507.out)|exact HB.out)) hb)
   clear BK507
   clear HB
   have BK507:=n0_
   have HB:=n1_
   clear n0_ n1_
   (try clear hb)
   (try clear hb2)
   (try clear hk)
   (try clear hi)
   refine hK.out _ _ ⟨(blk_cell BK507.out 0).trans rfl,(blk_cell BK507.out 1).trans rfl,(blk_cell BK507.out 2).trans rfl⟩ (fun hHeld=>?_)
   clear hK K
   refine norm_ (a':=?_) ?_ ?_
   rotate_left
   ·show Act.put _ (some 12) _=_
    simp only [Act.put,List.setIfInBounds_toArray,List.set_cons_zero,List.set_cons_succ,i64_w,i32_w]
    rfl
   refine pure_ (i:=4) (N:=some 13) (v:=?_) (a':=?_) #[true,true,true,true,true,false,false,false,false,false,false] rfl rfl (any_of HT_.out (by kernel_rfl)) (fun _ _ _ h=>h) (Or.inl ⟨by rfl,?_⟩) ?_ ?_
   rotate_left
   ·intro w'
    go_simp
    with_reducible rfl
   rotate_left
   ·simp only [Act.put,List.setIfInBounds_toArray,List.set_cons_zero,List.set_cons_succ,i64_w,i32_w]
    rfl
   refine pure_ (i:=5) (N:=some 14) (v:=undef) (a':=?_) #[true,true,true,true,true,true,false,false,false,false,false] rfl rfl (any_of HT_.out (by kernel_rfl)) (fun _ _ _ h=>h) (Or.inr ⟨by rfl,rfl⟩) ?_ ?_
   rotate_left
   ·simp only [Act.put,List.setIfInBounds_toArray,List.set_cons_zero,List.set_cons_succ,i64_w,i32_w]
    rfl
   refine pure_ (i:=6) (N:=some 15) (v:=undef) (a':=?_) #[true,true,true,true,true,true,true,false,false,false,false] rfl rfl (any_of HT_.out (by kernel_rfl)) (fun _ _ _ h=>h) (Or.inr ⟨by rfl,rfl⟩) ?_ ?_
   rotate_left
   ·simp only [Act.put,List.setIfInBounds_toArray,List.set_cons_zero,List.set_cons_succ,i64_w,i32_w]
    rfl
   refine pure_ (i:=7) (N:=some 16) (v:=undef) (a':=?_) #[true,true,true,true,true,true,true,true,false,false,false] rfl rfl (any_of HT_.out (by kernel_rfl)) (fun _ _ _ h=>h) (Or.inr ⟨by rfl,rfl⟩) ?_ ?_
   rotate_left
   ·simp only [Act.put,List.setIfInBounds_toArray,List.set_cons_zero,List.set_cons_succ,i64_w,i32_w]
    rfl
   refine pure_ (i:=8) (N:=some 17) (v:=?_) (a':=?_) #[true,true,true,true,true,true,true,true,true,false,false] rfl rfl (any_of HT_.out (by kernel_rfl)) (fun _ _ _ h=>h) (Or.inl ⟨by rfl,?_⟩) ?_ ?_
   rotate_left
   ·intro w'
    go_simp
    with_reducible rfl
   rotate_left
   ·simp only [Act.put,List.setIfInBounds_toArray,List.set_cons_zero,List.set_cons_succ,i64_w,i32_w]
    rfl
   refine one_ (i:=9) (N:=some 18) #[true,true,true,true,true,true,true,true,true,true,false] rfl rfl (one_of HT_.out (by kernel_rfl)) (by decide) (fun K hK=>?_)
   refine goes_ Tryd.func60 (by kernel_rfl) rfl #[.agg #[.int .i64 a0_0,.slice A0_1 l0_1.length c0_1,.slice A0_2 l0_2.length c0_2],.bool false] (by rfl) rfl rfl (by (try simp only [List.map_toArray,List.map_cons,List.map_nil]);first|done|rfl|(simp only [List.length_drop,List.length_take];rfl)) ?_
   with_reducible refine (saronref09_asked.calls k a0_0 _ _ l0_1 _ _ l0_2 false t514 _ ?side1 ?side2 ?side3 ?side4 A26.out).mono ?_
   (case side1=>repeat (first|exact (Kd.C_below HR0_1.out HB.out)|(with_reducible refine Kd.C_alloc ?_ _)|(with_reducible refine Kd.C_drewN ?_ _)|(with_reducible refine Kd.C_drew ?_)))
   (case side2=>exact HC0_1.out)
   (case side3=>repeat (first|exact (Kd.C_below HR0_2.out HB.out)|(with_reducible refine Kd.C_alloc ?_ _)|(with_reducible refine Kd.C_drewN ?_ _)|(with_reducible refine Kd.C_drew ?_)))
   (case side4=>exact HC0_2.out)
   rintro e w42 ⟨rfl,hb⟩
   refine ⟨_,rfl,?_⟩
   have n0_:=Aside0.mk (blk_below (g:=gb507) (o:=.cells #[.int .i64 a0_0,.slice A0_1 l0_1.length c0_1,.slice A0_2 l0_2.length c0_2] 27 (0,0)) (by (with_reducible repeat (first|refine blk_drewN ?_ _|refine blk_drew ?_|refine blk_alloc ?_ _));exact BK507.out) hb)
   have n1_:=Aside0.mk (below_step (by repeat (first|(with_reducible first|exact HB.out|apply below_alloc|apply pw_below_drewN|apply below_drew1|refine below_set ?_ GE507.out)|exact HB.out)) hb)
   clear BK507
   clear HB
   have BK507:=n0_
   have HB:=n1_
   clear n0_ n1_
   (try clear hb)
   (try clear hb2)
   (try clear hk)
   (try clear hi)
   refine hK.out _ _ ⟨(blk_cell BK507.out 0).trans rfl,(blk_cell BK507.out 1).trans rfl,(blk_cell BK507.out 2).trans rfl⟩ (fun hHeld=>?_)
   clear hK K
   refine norm_ (a':=?_) ?_ ?_
   rotate_left
   ·show Act.put _ (some 18) _=_
    simp only [Act.put,List.setIfInBounds_toArray,List.set_cons_zero,List.set_cons_succ,i64_w,i32_w]
    rfl
   refine pure_ (i:=10) (N:=some 8) (v:=?_) (a':=?_) #[true,true,true,true,true,true,true,true,true,true,true] rfl rfl (any_of HT_.out (by kernel_rfl)) (fun _ _ _ h=>h) (Or.inl ⟨by rfl,?_⟩) ?_ ?_
   rotate_left
   ·intro w'
    go_simp
    with_reducible rfl
   rotate_left
   ·simp only [Act.put,List.setIfInBounds_toArray,List.set_cons_zero,List.set_cons_succ,i64_w,i32_w]
    rfl
   refine done_ (done_of HT_.out (by kernel_rfl)) ?_
   try go_wp2
   go_ret2
   exact ⟨by first|rfl|(simp [errW_none,errW_some] <;> rfl)|(simp [*,errW_none,errW_some] <;> rfl),by repeat (first|(with_reducible first|exact HB.out|apply below_alloc|apply pw_below_drewN|apply below_drew1|refine below_set ?_ GE507.out)|exact HB.out)⟩
end Go.Proofs.YthnilelmhpmanaaDoor.PHeardFits
end
section
namespace Go.Proofs.YthnilelmhpmanaaDoor.PHeardFits
open Go.RowKit Go.Proofs.YthnilelmhpmanaaDoorW.PrintWords Go.Proofs.YthnilelmhpmanaaDoorW.PrintLast Go.Proofs.YthnilelmhpmanaaDoorW.PrintMore
attribute [local go_sem] max2_int min2_int max_two min_two max_three min_three max_four min_four
set_option linter.unusedVariables false
set_option linter.unusedSimpArgs false
mutual
def saronref09_Whole.j0:Nat→List Int→Int→Int→Int→List (S85)→List (S62)→Option (List Int×Int)
 | 0,_,_,_,_,_,_=>none
 | k+1,x1,x2,x8,x519000,x519001,x519002=>if x8=0 then (saronref09_Whole.l0 k x1 x2 ([]:List Int) 0 x519000 x519001 x519002) else (some (([]:List Int),x8))
def saronref09_Whole.l0:Nat→List Int→Int→List Int→Int→Int→List (S85)→List (S62)→Option (List Int×Int)
 | 0,_,_,_,_,_,_,_=>none
 | k+1,x1,x2,x9,x10,x519000,x519001,x519002=>if x10<(x519002.length:Int) then (if 0≤x10 then ((saronref09_share.f k ((rd_T62 x519002 x10).f1) x1).bind fun t524=>(if t524=(x1.length:Int) then (if (wrap64 ((((rd_T62 x519002 x10).f1).length:Int) - (x1.length:Int)))≤x2 then (if x9.length<17592186044416 then (saronref09_Whole.l0 k x1 x2 (x9 ++ [x10]) (wrap64 (x10+1)) x519000 x519001 x519002) else (none)) else (saronref09_Whole.l0 k x1 x2 x9 (wrap64 (x10+1)) x519000 x519001 x519002)) else (saronref09_Whole.l0 k x1 x2 x9 (wrap64 (x10+1)) x519000 x519001 x519002))) else (none)) else (some (x9,0))
end
def saronref09_Whole.f (k:Nat) (a0_0:Int) (l0_1:List (S85)) (l0_2:List (S62)) (l1:List Int) (a2:Int):Option (List Int×Int):=(saronref09_areTones.f k l1 0 24).bind fun t519=>(if t519=true then ((saronref00_Sits.f a2 0 6).bind fun t520=>((saronref09_asked.f k a0_0 l0_1 l0_2 t520).bind fun t521=>(saronref09_Whole.j0 k l1 a2 t521 a0_0 l0_1 l0_2))) else ((saronref09_asked.f k a0_0 l0_1 l0_2 false).bind fun t522=>(saronref09_Whole.j0 k l1 a2 t522 a0_0 l0_1 l0_2)))
def saronref09_Whole.T1:Bool×List (List Nat×List Nat):=(true,[([],[]),([],[]),([1],[1]),([2,2],[2]),([3],[3]),([4,3,3],[3,4]),([3,5],[3,5]),([0,6,5],[0,6]),([7,7,0,1,2,3,4,5,6,7],[7])])
def saronref09_Whole.B1:List Nat:=[0,0,2,6,14,30,62,127,255]
theorem saronref09_Whole.tab1:rtab .any (opsOf Tryd.f34 1)=saronref09_Whole.T1:=by kernel_rfl
theorem saronref09_Whole.bits1:waitsOk saronref09_Whole.T1.2 saronref09_Whole.B1=true:=by kernel_rfl
set_option maxHeartbeats 8000000 in
set_option maxRecDepth 100000 in
theorem saronref09_Whole.calls (k:Nat) (a0_0:Int) (A0_1:Option Addr) (c0_1:Nat) (l0_1:List (S85)) (A0_2:Option Addr) (c0_2:Nat) (l0_2:List (S62)) (A1:Option Addr) (c1:Nat) (l1:List Int) (a2:Int) (r1:List Int) (r2:Int) (w:World) (hr0_1:Kd.C k85 w A0_1 l0_1.length l0_1) (hc0_1:l0_1.length≤c0_1) (hr0_2:Kd.C k62 w A0_2 l0_2.length l0_2) (hc0_2:l0_2.length≤c0_2) (hr1:Kd.C (Kd.int .i64) w A1 l1.length l1) (hc1:l1.length≤c1) (h:saronref09_Whole.f k a0_0 l0_1 l0_2 l1 a2=some (r1,r2)) :
  Calls Tryd.prog 34 #[.agg #[.int .i64 a0_0,.slice A0_1 l0_1.length c0_1,.slice A0_2 l0_2.length c0_2],.slice A1 l1.length c1,.int .i64 a2] w fun e w'=>∃ v0_:Value,e=.returned (.tuple #[v0_,.int .i64 r2])∧Kd.R (Kd.int .i64) 3 w' w.heap.size (fun _=>True) v0_ r1∧Below w.heap.size w w':=by
 have hu27:=Tryd.underlying27
 have HR0_1:=Aside0.mk hr0_1
 have HC0_1:=Aside0.mk hc0_1
 clear hr0_1 hc0_1
 have HR0_2:=Aside0.mk hr0_2
 have HC0_2:=Aside0.mk hc0_2
 clear hr0_2 hc0_2
 have HR1:=Aside0.mk hr1
 have HC1:=Aside0.mk hc1
 clear hr1 hc1
 have HB:=Aside0.mk (Below.refl w.heap.size w)
 have H:((saronref09_areTones.f k l1 0 24).bind fun t519=>(if t519=true then ((saronref00_Sits.f a2 0 6).bind fun t520=>((saronref09_asked.f k a0_0 l0_1 l0_2 t520).bind fun t521=>(saronref09_Whole.j0 k l1 a2 t521 a0_0 l0_1 l0_2))) else ((saronref09_asked.f k a0_0 l0_1 l0_2 false).bind fun t522=>(saronref09_Whole.j0 k l1 a2 t522 a0_0 l0_1 l0_2))))=some (r1,r2):=h
 clear h
 have HC4:=Aside0.mk H
 clear H
 go_enter Tryd.func34,Tryd.ntmps34
 go_upto_region 1 with (first|((with_reducible refine gate_dst (N:=3) rfl ?_);(try (refine gate_guard (by rfl) ?_;dsimp only));refine box_event ?hg (N:=3) ?hd (cs:=#[.int .i64 a0_0,.slice A0_1 l0_1.length c0_1,.slice A0_2 l0_2.length c0_2]) (t:=27) ?hr ?_;(case hd=>rfl);(case hg=>rfl);(case hr=>first|(go_simp;done)|(go_simp;rfl));intro gb518 hg w5 hbox hb;have n0_:=Aside0.mk (below_step (by repeat (first|(with_reducible first|exact HB.out|apply below_alloc|apply pw_below_drewN|apply below_drew1)|exact HB.out)) hb);have n1_:=Aside0.mk (hbox);have n2_:=Aside0.mk ((by rw [hg];exact (below_size (by repeat (first|(with_reducible first|exact HB.out|apply below_alloc|apply pw_below_drewN|apply below_drew1)|exact HB.out))):w.heap.size≤gb518));have n3_:=Aside0.mk ((by rw [hg];exact (below_size (by repeat (first|(with_reducible first|exact HB.out|apply below_alloc|apply pw_below_drewN|apply below_drew1)|exact HB.out))):w.heap.size≤gb518));clear HB;have HB:=n0_;have BK518:=n1_;have GW518:=n2_;have GE518:=n3_;clear n0_ n1_ n2_ n3_;clear hb hbox hg))
 (try simp only [Act.put,List.setIfInBounds_toArray,List.set_cons_zero,List.set_cons_succ])
 go_cut [8] (fun v8 wc=>∃ (kq:Nat) (x8_3:Int),v8=.int .i64 x8_3∧Aside0 (saronref09_Whole.j0 kq l1 a2 x8_3 a0_0 l0_1 l0_2=some (r1,r2))∧Aside0 (kq≤k)∧Aside0 (wc.heap[gb518]?=some (.cells #[.int .i64 a0_0,(.slice A0_1 l0_1.length c0_1),(.slice A0_2 l0_2.length c0_2)] 27 (0,0)))∧Aside0 (Below w.heap.size w wc))
 case first =>
  have H:=HC4.out
  clear HC4
  replace H:=Option.bind_eq_some_iff.mp H
  obtain ⟨t519,A60,H⟩:=H
  try dsimp only at H
  have A6:=Aside0.mk A60
  clear A60
  by_cases c7:t519=true
  ·subst c7
   rw [if_pos rfl] at H
   replace H:=Option.bind_eq_some_iff.mp H
   obtain ⟨t520,A80,H⟩:=H
   try dsimp only at H
   have A8:=Aside0.mk A80
   clear A80
   replace H:=Option.bind_eq_some_iff.mp H
   obtain ⟨t521,A90,H⟩:=H
   try dsimp only at H
   have A9:=Aside0.mk A90
   clear A90
   have H':=Aside0.mk H
   clear H
   try go_wp2
   have n0_:=Aside0.mk (blk_drew BK518.out)
   have n1_:=Aside0.mk (below_drew1 HB.out)
   clear BK518
   clear HB
   have BK518:=n0_
   have HB:=n1_
   clear n0_ n1_
   refine start_ (n:=9) (S:=fun w'=>w'.cell? ⟨gb518,0,none⟩=some (.int .i64 a0_0)∧w'.cell? ⟨gb518,1,none⟩=some (.slice A0_1 l0_1.length c0_1)∧w'.cell? ⟨gb518,2,none⟩=some (.slice A0_2 l0_2.length c0_2)) (ds:=[]) #[false,false,false,false,false,false,false,false,false] (by kernel_rfl) rfl rfl ⟨(blk_cell BK518.out 0).trans rfl,(blk_cell BK518.out 1).trans rfl,(blk_cell BK518.out 2).trans rfl⟩ (fun hHeld=>?_);refine with_tabW saronref09_Whole.tab1 saronref09_Whole.bits1 (fun HT_ HW_=>?_)
   generalize w5.drew=w10 at BK518 HB hHeld ⊢
   refine pure_ (i:=1) (N:=some 13) (v:=?_) (a':=?_) #[false,true,false,false,false,false,false,false,false] rfl rfl (any_of HT_.out (by kernel_rfl)) (fun _ _ _ h=>h) (Or.inl ⟨by rfl,?_⟩) ?_ ?_
   rotate_left
   ·intro w'
    go_simp
    with_reducible rfl
   rotate_left
   ·simp only [Act.put,List.setIfInBounds_toArray,List.set_cons_zero,List.set_cons_succ,i64_w,i32_w]
    rfl
   refine take_ (i:=0) (N:=some 12) (v:=?_) (a':=?_) #[true,true,false,false,false,false,false,false,false] rfl rfl (take_ofW HT_.out HW_.out (by kernel_rfl)) (fun _ _ _ h=>h) (Or.inl ⟨by rfl,?_⟩) hHeld ?_ ?_
   rotate_left
   ·rintro w' ⟨s0,s1,s2⟩
    go_simp
    with_reducible rfl
   rotate_left
   ·simp only [Act.put,List.setIfInBounds_toArray,List.set_cons_zero,List.set_cons_succ,i64_w,i32_w]
    rfl
   refine one_ (i:=2) (N:=some 14) #[true,true,true,false,false,false,false,false,false] rfl rfl (one_of HT_.out (by kernel_rfl)) (by decide) (fun K hK=>?_)
   refine goes_ Tryd.func68 (by kernel_rfl) rfl #[.slice A1 l1.length c1,.int .i64 0,.int .i64 24] (by rfl) rfl rfl (by (try simp only [List.map_toArray,List.map_cons,List.map_nil]);first|done|rfl|(simp only [List.length_drop,List.length_take];rfl)) ?_
   with_reducible refine (saronref09_areTones.calls k _ _ l1 0 24 true _ ?side1 ?side2 A6.out).mono ?_
   (case side1=>repeat (first|exact (Kd.C_below HR1.out HB.out)|(with_reducible refine Kd.C_alloc ?_ _)|(with_reducible refine Kd.C_drewN ?_ _)|(with_reducible refine Kd.C_drew ?_)))
   (case side2=>exact HC1.out)
   rintro e w' ⟨rfl,⟨nd,rfl⟩⟩
   refine ⟨_,rfl,?_⟩
   refine hK.out _ _ ⟨(blk_cell BK518.out 0).trans rfl,(blk_cell BK518.out 1).trans rfl,(blk_cell BK518.out 2).trans rfl⟩ (fun hHeld=>?_)
   clear hK K
   refine norm_ (a':=?_) ?_ ?_
   rotate_left
   ·show Act.put _ (some 14) _=_
    simp only [Act.put,List.setIfInBounds_toArray,List.set_cons_zero,List.set_cons_succ,i64_w,i32_w]
    rfl
   refine pure_ (i:=3) (N:=some 15) (v:=?_) (a':=?_) #[true,true,true,true,false,false,false,false,false] rfl rfl (any_of HT_.out (by kernel_rfl)) (fun _ _ _ h=>h) (Or.inl ⟨by rfl,?_⟩) ?_ ?_
   rotate_left
   ·intro w'
    go_simp
    with_reducible rfl
   rotate_left
   ·simp only [Act.put,List.setIfInBounds_toArray,List.set_cons_zero,List.set_cons_succ,i64_w,i32_w]
    rfl
   refine pure_ (i:=4) (N:=some 16) (v:=?_) (a':=?_) #[true,true,true,true,true,false,false,false,false] rfl rfl (any_of HT_.out (by kernel_rfl)) (fun _ _ _ h=>h) (Or.inl ⟨by rfl,?_⟩) ?_ ?_
   rotate_left
   ·intro w'
    go_simp
    with_reducible rfl
   rotate_left
   ·simp only [Act.put,List.setIfInBounds_toArray,List.set_cons_zero,List.set_cons_succ,i64_w,i32_w]
    rfl
   refine one_ (i:=5) (N:=some 17) #[true,true,true,true,true,true,false,false,false] rfl rfl (one_of HT_.out (by kernel_rfl)) (by decide) (fun K hK=>?_)
   refine goes_ Tryd.func41 (by kernel_rfl) rfl #[.int .i64 a2,.int .i64 0,.int .i64 6] (by rfl) rfl rfl (by (try simp only [List.map_toArray,List.map_cons,List.map_nil]);first|done|rfl|(simp only [List.length_drop,List.length_take];rfl)) ?_
   with_reducible refine (saronref00_Sits.calls a2 0 6 t520 _ A8.out).mono ?_
   rintro e w' ⟨rfl,⟨nd,rfl⟩⟩
   refine ⟨_,rfl,?_⟩
   refine hK.out _ _ ⟨(blk_cell BK518.out 0).trans rfl,(blk_cell BK518.out 1).trans rfl,(blk_cell BK518.out 2).trans rfl⟩ (fun hHeld=>?_)
   clear hK K
   refine norm_ (a':=?_) ?_ ?_
   rotate_left
   ·show Act.put _ (some 17) _=_
    simp only [Act.put,List.setIfInBounds_toArray,List.set_cons_zero,List.set_cons_succ,i64_w,i32_w]
    rfl
   refine pure_ (i:=6) (N:=some 18) (v:=?_) (a':=?_) #[true,true,true,true,true,true,true,false,false] rfl rfl (any_of HT_.out (by kernel_rfl)) (fun _ _ _ h=>h) (Or.inl ⟨by rfl,?_⟩) ?_ ?_
   rotate_left
   ·intro w'
    go_simp
    with_reducible rfl
   rotate_left
   ·simp only [Act.put,List.setIfInBounds_toArray,List.set_cons_zero,List.set_cons_succ,i64_w,i32_w]
    rfl
   refine one_ (i:=7) (N:=some 19) #[true,true,true,true,true,true,true,true,false] rfl rfl (one_of HT_.out (by kernel_rfl)) (by decide) (fun K hK=>?_)
   refine goes_ Tryd.func60 (by kernel_rfl) rfl #[.agg #[.int .i64 a0_0,.slice A0_1 l0_1.length c0_1,.slice A0_2 l0_2.length c0_2],.bool t520] (by rfl) rfl rfl (by (try simp only [List.map_toArray,List.map_cons,List.map_nil]);first|done|rfl|(simp only [List.length_drop,List.length_take];rfl)) ?_
   with_reducible refine (saronref09_asked.calls k a0_0 _ _ l0_1 _ _ l0_2 t520 t521 _ ?side1 ?side2 ?side3 ?side4 A9.out).mono ?_
   (case side1=>repeat (first|exact (Kd.C_below HR0_1.out (by repeat (first|(with_reducible first|exact HB.out|apply below_alloc|apply pw_below_drewN|apply below_drew1|refine below_set ?_ GE518.out)|exact HB.out)))|(with_reducible refine Kd.C_alloc ?_ _)|(with_reducible refine Kd.C_drewN ?_ _)|(with_reducible refine Kd.C_drew ?_)))
   (case side2=>exact HC0_1.out)
   (case side3=>repeat (first|exact (Kd.C_below HR0_2.out (by repeat (first|(with_reducible first|exact HB.out|apply below_alloc|apply pw_below_drewN|apply below_drew1|refine below_set ?_ GE518.out)|exact HB.out)))|(with_reducible refine Kd.C_alloc ?_ _)|(with_reducible refine Kd.C_drewN ?_ _)|(with_reducible refine Kd.C_drew ?_)))
   (case side4=>exact HC0_2.out)
   rintro e w11 ⟨rfl,hb⟩
   refine ⟨_,rfl,?_⟩
   have n0_:=Aside0.mk (blk_below (g:=gb518) (o:=.cells #[.int .i64 a0_0,.slice A0_1 l0_1.length c0_1,.slice A0_2 l0_2.length c0_2] 27 (0,0)) (by (with_reducible repeat (first|refine blk_drewN ?_ _|refine blk_drew ?_|refine blk_alloc ?_ _));exact BK518.out) hb)
   have n1_:=Aside0.mk (below_step (by repeat (first|(with_reducible first|exact HB.out|apply below_alloc|apply pw_below_drewN|apply below_drew1|refine below_set ?_ GE518.out)|exact HB.out)) hb)
   clear BK518
   clear HB
   have BK518:=n0_
   have HB:=n1_
   clear n0_ n1_
   (try clear hb)
   (try clear hb2)
   (try clear hk)
   (try clear hi)
   refine hK.out _ _ ⟨(blk_cell BK518.out 0).trans rfl,(blk_cell BK518.out 1).trans rfl,(blk_cell BK518.out 2).trans rfl⟩ (fun hHeld=>?_)
   clear hK K
   refine norm_ (a':=?_) ?_ ?_
   rotate_left
   ·show Act.put _ (some 19) _=_
    simp only [Act.put,List.setIfInBounds_toArray,List.set_cons_zero,List.set_cons_succ,i64_w,i32_w]
    rfl
   refine pure_ (i:=8) (N:=some 8) (v:=?_) (a':=?_) #[true,true,true,true,true,true,true,true,true] rfl rfl (any_of HT_.out (by kernel_rfl)) (fun _ _ _ h=>h) (Or.inl ⟨by rfl,?_⟩) ?_ ?_
   rotate_left
   ·intro w'
    go_simp
    with_reducible rfl
   rotate_left
   ·simp only [Act.put,List.setIfInBounds_toArray,List.set_cons_zero,List.set_cons_succ,i64_w,i32_w]
    rfl
   refine done_ (done_of HT_.out (by kernel_rfl)) ?_
   try go_wp2
   go_meet
   case rel=>exact ⟨_,(t521),(by first|rfl|(simp;done)|(simp [*];done)),H',⟨by first|omega|exact Nat.le_refl _⟩,⟨by (with_reducible repeat (first|refine blk_drewN ?_ _|refine blk_drew ?_|refine blk_alloc ?_ _));exact BK518.out⟩,⟨by repeat (first|(with_reducible first|exact HB.out|apply below_alloc|apply pw_below_drewN|apply below_drew1|refine below_set ?_ GE518.out)|exact HB.out)⟩⟩
  ·replace c7:=Bool.eq_false_iff.mpr c7
   subst c7
   rw [if_neg (show ¬ (false=true) by decide)] at H
   replace H:=Option.bind_eq_some_iff.mp H
   obtain ⟨t522,A120,H⟩:=H
   try dsimp only at H
   have A12:=Aside0.mk A120
   clear A120
   have H':=Aside0.mk H
   clear H
   try go_wp2
   have n0_:=Aside0.mk (blk_drew BK518.out)
   have n1_:=Aside0.mk (below_drew1 HB.out)
   clear BK518
   clear HB
   have BK518:=n0_
   have HB:=n1_
   clear n0_ n1_
   refine start_ (n:=9) (S:=fun w'=>w'.cell? ⟨gb518,0,none⟩=some (.int .i64 a0_0)∧w'.cell? ⟨gb518,1,none⟩=some (.slice A0_1 l0_1.length c0_1)∧w'.cell? ⟨gb518,2,none⟩=some (.slice A0_2 l0_2.length c0_2)) (ds:=[]) #[false,false,false,false,false,false,false,false,false] (by kernel_rfl) rfl rfl ⟨(blk_cell BK518.out 0).trans rfl,(blk_cell BK518.out 1).trans rfl,(blk_cell BK518.out 2).trans rfl⟩ (fun hHeld=>?_);refine with_tabW saronref09_Whole.tab1 saronref09_Whole.bits1 (fun HT_ HW_=>?_)
   generalize w5.drew=w13 at BK518 HB hHeld ⊢
   refine pure_ (i:=1) (N:=some 13) (v:=?_) (a':=?_) #[false,true,false,false,false,false,false,false,false] rfl rfl (any_of HT_.out (by kernel_rfl)) (fun _ _ _ h=>h) (Or.inl ⟨by rfl,?_⟩) ?_ ?_
   rotate_left
   ·intro w'
    go_simp
    with_reducible rfl
   rotate_left
   ·simp only [Act.put,List.setIfInBounds_toArray,List.set_cons_zero,List.set_cons_succ,i64_w,i32_w]
    rfl
   refine take_ (i:=0) (N:=some 12) (v:=?_) (a':=?_) #[true,true,false,false,false,false,false,false,false] rfl rfl (take_ofW HT_.out HW_.out (by kernel_rfl)) (fun _ _ _ h=>h) (Or.inl ⟨by rfl,?_⟩) hHeld ?_ ?_
   rotate_left
   ·rintro w' ⟨s0,s1,s2⟩
    go_simp
    with_reducible rfl
   rotate_left
   ·simp only [Act.put,List.setIfInBounds_toArray,List.set_cons_zero,List.set_cons_succ,i64_w,i32_w]
    rfl
   refine one_ (i:=2) (N:=some 14) #[true,true,true,false,false,false,false,false,false] rfl rfl (one_of HT_.out (by kernel_rfl)) (by decide) (fun K hK=>?_)
   refine goes_ Tryd.func68 (by kernel_rfl) rfl #[.slice A1 l1.length c1,.int .i64 0,.int .i64 24] (by rfl) rfl rfl (by (try simp only [List.map_toArray,List.map_cons,List.map_nil]);first|done|rfl|(simp only [List.length_drop,List.length_take];rfl)) ?_
   with_reducible refine (saronref09_areTones.calls k _ _ l1 0 24 false _ ?side1 ?side2 A6.out).mono ?_
   (case side1=>repeat (first|exact (Kd.C_below HR1.out HB.out)|(with_reducible refine Kd.C_alloc ?_ _)|(with_reducible refine Kd.C_drewN ?_ _)|(with_reducible refine Kd.C_drew ?_)))
   (case side2=>exact HC1.out)
   rintro e w' ⟨rfl,⟨nd,rfl⟩⟩
   refine ⟨_,rfl,?_⟩
   refine hK.out _ _ ⟨(blk_cell BK518.out 0).trans rfl,(blk_cell BK518.out 1).trans rfl,(blk_cell BK518.out 2).trans rfl⟩ (fun hHeld=>?_)
   clear hK K
   refine norm_ (a':=?_) ?_ ?_
   rotate_left
   ·show Act.put _ (some 14) _=_
    simp only [Act.put,List.setIfInBounds_toArray,List.set_cons_zero,List.set_cons_succ,i64_w,i32_w]
    rfl
   refine pure_ (i:=3) (N:=some 15) (v:=?_) (a':=?_) #[true,true,true,true,false,false,false,false,false] rfl rfl (any_of HT_.out (by kernel_rfl)) (fun _ _ _ h=>h) (Or.inl ⟨by rfl,?_⟩) ?_ ?_
   rotate_left
   ·intro w'
    go_simp
    with_reducible rfl
   rotate_left
   ·simp only [Act.put,List.setIfInBounds_toArray,List.set_cons_zero,List.set_cons_succ,i64_w,i32_w]
    rfl
   refine pure_ (i:=4) (N:=some 16) (v:=undef) (a':=?_) #[true,true,true,true,true,false,false,false,false] rfl rfl (any_of HT_.out (by kernel_rfl)) (fun _ _ _ h=>h) (Or.inr ⟨by rfl,rfl⟩) ?_ ?_
   rotate_left
   ·simp only [Act.put,List.setIfInBounds_toArray,List.set_cons_zero,List.set_cons_succ,i64_w,i32_w]
    rfl
   refine pure_ (i:=5) (N:=some 17) (v:=undef) (a':=?_) #[true,true,true,true,true,true,false,false,false] rfl rfl (any_of HT_.out (by kernel_rfl)) (fun _ _ _ h=>h) (Or.inr ⟨by rfl,rfl⟩) ?_ ?_
   rotate_left
   ·simp only [Act.put,List.setIfInBounds_toArray,List.set_cons_zero,List.set_cons_succ,i64_w,i32_w]
    rfl
   refine pure_ (i:=6) (N:=some 18) (v:=?_) (a':=?_) #[true,true,true,true,true,true,true,false,false] rfl rfl (any_of HT_.out (by kernel_rfl)) (fun _ _ _ h=>h) (Or.inl ⟨by rfl,?_⟩) ?_ ?_
   rotate_left
   ·intro w'
    go_simp
    with_reducible rfl
   rotate_left
   ·simp only [Act.put,List.setIfInBounds_toArray,List.set_cons_zero,List.set_cons_succ,i64_w,i32_w]
    rfl
   refine one_ (i:=7) (N:=some 19) #[true,true,true,true,true,true,true,true,false] rfl rfl (one_of HT_.out (by kernel_rfl)) (by decide) (fun K hK=>?_)
   refine goes_ Tryd.func60 (by kernel_rfl) rfl #[.agg #[.int .i64 a0_0,.slice A0_1 l0_1.length c0_1,.slice A0_2 l0_2.length c0_2],.bool false] (by rfl) rfl rfl (by (try simp only [List.map_toArray,List.map_cons,List.map_nil]);first|done|rfl|(simp only [List.length_drop,List.length_take];rfl)) ?_
   with_reducible refine (saronref09_asked.calls k a0_0 _ _ l0_1 _ _ l0_2 false t522 _ ?side1 ?side2 ?side3 ?side4 A12.out).mono ?_
   (case side1=>repeat (first|exact (Kd.C_below HR0_1.out (by repeat (first|(with_reducible first|exact HB.out|apply below_alloc|apply pw_below_drewN|apply below_drew1|refine below_set ?_ GE518.out)|exact HB.out)))|(with_reducible refine Kd.C_alloc ?_ _)|(with_reducible refine Kd.C_drewN ?_ _)|(with_reducible refine Kd.C_drew ?_)))
   (case side2=>exact HC0_1.out)
   (case side3=>repeat (first|exact (Kd.C_below HR0_2.out (by repeat (first|(with_reducible first|exact HB.out|apply below_alloc|apply pw_below_drewN|apply below_drew1|refine below_set ?_ GE518.out)|exact HB.out)))|(with_reducible refine Kd.C_alloc ?_ _)|(with_reducible refine Kd.C_drewN ?_ _)|(with_reducible refine Kd.C_drew ?_)))
   (case side4=>exact HC0_2.out)
   rintro e w14 ⟨rfl,hb⟩
   refine ⟨_,rfl,?_⟩
   have n0_:=Aside0.mk (blk_below (g:=gb518) (o:=.cells #[.int .i64 a0_0,.slice A0_1 l0_1.length c0_1,.slice A0_2 l0_2.length c0_2] 27 (0,0)) (by (with_reducible repeat (first|refine blk_drewN ?_ _|refine blk_drew ?_|refine blk_alloc ?_ _));exact BK518.out) hb)
   have n1_:=Aside0.mk (below_step (by repeat (first|(with_reducible first|exact HB.out|apply below_alloc|apply pw_below_drewN|apply below_drew1|refine below_set ?_ GE518.out)|exact HB.out)) hb)
   clear BK518
   clear HB
   have BK518:=n0_
   have HB:=n1_
   clear n0_ n1_
   (try clear hb)
   (try clear hb2)
   (try clear hk)
   (try clear hi)
   refine hK.out _ _ ⟨(blk_cell BK518.out 0).trans rfl,(blk_cell BK518.out 1).trans rfl,(blk_cell BK518.out 2).trans rfl⟩ (fun hHeld=>?_)
   clear hK K
   refine norm_ (a':=?_) ?_ ?_
   rotate_left
   ·show Act.put _ (some 19) _=_
    simp only [Act.put,List.setIfInBounds_toArray,List.set_cons_zero,List.set_cons_succ,i64_w,i32_w]
    rfl
   refine pure_ (i:=8) (N:=some 8) (v:=?_) (a':=?_) #[true,true,true,true,true,true,true,true,true] rfl rfl (any_of HT_.out (by kernel_rfl)) (fun _ _ _ h=>h) (Or.inl ⟨by rfl,?_⟩) ?_ ?_
   rotate_left
   ·intro w'
    go_simp
    with_reducible rfl
   rotate_left
   ·simp only [Act.put,List.setIfInBounds_toArray,List.set_cons_zero,List.set_cons_succ,i64_w,i32_w]
    rfl
   refine done_ (done_of HT_.out (by kernel_rfl)) ?_
   try go_wp2
   go_meet
   case rel=>exact ⟨_,(t522),(by first|rfl|(simp;done)|(simp [*];done)),H',⟨by first|omega|exact Nat.le_refl _⟩,⟨by (with_reducible repeat (first|refine blk_drewN ?_ _|refine blk_drew ?_|refine blk_alloc ?_ _));exact BK518.out⟩,⟨by repeat (first|(with_reducible first|exact HB.out|apply below_alloc|apply pw_below_drewN|apply below_drew1|refine below_set ?_ GE518.out)|exact HB.out)⟩⟩
 case rest =>
  clear HC4
  try clear c1
  try clear p2
  try clear c3
  try clear c4
  try clear c6
  try clear c7
  obtain ⟨kq,x8_3,rfl,HA,HJ3,BK518,HB⟩:=hcut
  cases kq with
  | zero=>exact absurd HA.out (by simp [saronref09_Whole.j0])
  | succ kj3 =>
   have H:=HA.out
   clear HA
   simp only [saronref09_Whole.j0] at H
   by_cases c15:x8_3=0
   ·rw [if_pos c15] at H
    have c15b0:(x8_3 == 0)=true:=beq_iff_eq.mpr c15
    have c15b1:(x8_3 != 0)=false:=bne_eq_false_iff_eq.mpr c15
    clear c15
    have H':=Aside0.mk H
    clear H
    go_wp2
    go_loopg [9,10] kj3 (fun kq v9 v10 w'=>∃ (x9_2:List Int) (x10_2:Int),v10=.int .i64 x10_2∧Aside0 (saronref09_Whole.l0 kq l1 a2 x9_2 x10_2 a0_0 l0_1 l0_2=some (r1,r2))∧Aside0 (kq≤kj3)∧Aside0 (Kd.R (Kd.int .i64) 3 w' w.heap.size (fun _=>True) v9 x9_2)∧Aside0 (w'.heap[gb518]?=some (.cells #[.int .i64 a0_0,(.slice A0_1 l0_1.length c0_1),(.slice A0_2 l0_2.length c0_2)] 27 (0,0)))∧Aside0 (Below w.heap.size w w'))
    case atStart=>exact ⟨(([]:List Int)),(0),(by first|rfl|(simp;done)|(simp [*];done)),H',⟨Nat.le_refl _⟩,⟨by first|exact Kd.R_nil _ _ _ _ _|exact Kd.N_nil _ _ _ _ _|exact Kd.V_nil _ _ _ _ _|exact Kd.Q_nil _ _ _ _ _|exact Kd.S_nil _ _ _ _ _⟩,⟨by (with_reducible repeat (first|refine blk_drewN ?_ _|refine blk_drew ?_|refine blk_alloc ?_ _));exact BK518.out⟩,⟨by repeat (first|(with_reducible first|exact HB.out|apply below_alloc|apply pw_below_drewN|apply below_drew1|refine below_set ?_ GE518.out)|exact HB.out)⟩⟩
    case round =>
     clear H'
     try clear c1
     try clear p2
     try clear c3
     try clear c4
     try clear c6
     try clear c7
     try clear c15
     try clear c15b0
     try clear c15b1
     try clear p2
     obtain ⟨x9_2,x10_2,rfl,HA,HK2,HO_9,BK518,HB⟩:=hrel
     cases gk with
     | zero=>exact absurd HA.out (by simp [saronref09_Whole.l0])
     | succ k2 =>
      have H:=HA.out
      clear HA
      simp only [saronref09_Whole.l0] at H
      by_cases c16:x10_2<(l0_2.length:Int)
      ·rw [if_pos c16] at H
       have c16b0:decide (x10_2<(l0_2.length:Int))=true:=decide_eq_true c16
       clear c16
       by_cases c17:0≤x10_2
       ·rw [if_pos c17] at H
        have c17b0:decide (0≤x10_2)=true:=decide_eq_true c17
        clear c17
        replace H:=Option.bind_eq_some_iff.mp H
        obtain ⟨t524,A180,H⟩:=H
        try dsimp only at H
        have A18:=Aside0.mk A180
        clear A180
        by_cases c19:t524=(l1.length:Int)
        ·rw [if_pos c19] at H
         have c19b0:(t524 == (l1.length:Int))=true:=beq_iff_eq.mpr c19
         have c19b1:(t524 != (l1.length:Int))=false:=bne_eq_false_iff_eq.mpr c19
         clear c19
         by_cases c20:(wrap64 ((((rd_T62 l0_2 x10_2).f1).length:Int) - (l1.length:Int)))≤a2
         ·rw [if_pos c20] at H
          have c20b0:decide ((wrap64 ((((rd_T62 l0_2 x10_2).f1).length:Int) - (l1.length:Int)))≤a2)=true:=decide_eq_true c20
          clear c20
          by_cases c21:x9_2.length<17592186044416
          ·rw [if_pos c21] at H
           have LMc21:=Aside0.mk c21
           clear c21
           obtain ⟨y525,hy525⟩:∃ y_:List Int,y_=(x9_2 ++ [x10_2]):=⟨_,rfl⟩
           replace H:(saronref09_Whole.l0 k2 l1 a2 y525 (wrap64 (x10_2+1)) a0_0 l0_1 l0_2)=some (r1,r2):=by first|(rw [hy525];with_reducible exact H)|(have H2_:=(Option.bind_some _ _).symm.trans H;rw [hy525];with_reducible exact H2_)|(have H2_:=(Option.bind_some _ _).symm.trans H;with_reducible exact H2_)|with_reducible exact H|(rw [hy525];exact H)|exact H
           have Ny525:=Aside0.mk hy525
           clear hy525
           have H':=Aside0.mk H
           clear H
           have hcz22_0:wr.cell? ⟨gb518,0,none⟩=some (.int .i64 a0_0):=(blk_cell BK518.out 0).trans rfl
           have hcz22_1:wr.cell? ⟨gb518,1,none⟩=some (.slice A0_1 l0_1.length c0_1):=(blk_cell BK518.out 1).trans rfl
           have hcz22_2:wr.cell? ⟨gb518,2,none⟩=some (.slice A0_2 l0_2.length c0_2):=(blk_cell BK518.out 2).trans rfl
           have hfz22_0:=blk_frozen BK518.out 0
           have hfz22_1:=blk_frozen BK518.out 1
           have hfz22_2:=blk_frozen BK518.out 2
           have p523:0≤(x10_2:Int):=of_decide_eq_true (by first|(with_reducible assumption)|assumption)
           have q523:x10_2<(l0_2.length:Int):=of_decide_eq_true (by first|(with_reducible assumption)|assumption)
           obtain ⟨ad523,A523_1,c523_1,e523,hx523_0,hx523_1,hl523_1,hi523_1⟩:=at_T62 HR0_2.out x10_2 p523 q523
           cases e523
           replace hx523_0:=(HB.out.cell (World.block_lt_of_cell? w _ hx523_0)).trans hx523_0
           replace hx523_1:=(HB.out.cell (World.block_lt_of_cell? w _ hx523_1)).trans hx523_1
           have HR523_1:=Aside0.mk hi523_1
           have HC523_1:=Aside0.mk hl523_1
           clear hi523_1 hl523_1
           replace p523:=eq_true p523
           replace q523:=eq_true q523
           go_wp2_with (first|((with_reducible refine gate_callee (f:=79) rfl ?_);refine goesL_ (some 38) rfl rfl Tryd.func79 (by kernel_rfl) rfl #[.slice A523_1 ((rd_T62 l0_2 x10_2).f1).length c523_1,.slice A1 l1.length c1] rfl (by (try simp only [List.map_toArray,List.map_cons,List.map_nil]);first|done|rfl|(simp only [List.length_drop,List.length_take];rfl)) ?_;(with_reducible refine (saronref09_share.calls k2 _ _ ((rd_T62 l0_2 x10_2).f1) _ _ l1 t524 _ ?side1 ?side2 ?side3 ?side4 A18.out).mono ?_);(case side1=>repeat (first|exact (Kd.C_below HR523_1.out HB.out)|(with_reducible refine Kd.C_alloc ?_ _)|(with_reducible refine Kd.C_drewN ?_ _)|(with_reducible refine Kd.C_drew ?_)));(case side2=>exact HC523_1.out);(case side3=>repeat (first|exact (Kd.C_below HR1.out HB.out)|(with_reducible refine Kd.C_alloc ?_ _)|(with_reducible refine Kd.C_drewN ?_ _)|(with_reducible refine Kd.C_drew ?_)));(case side4=>exact HC1.out);rintro e w23 ⟨rfl,hb⟩;refine ⟨_,rfl,?_⟩;have n0_:=Aside0.mk (Kd.R_below (by (with_reducible repeat (first|apply Kd.R_alloc|apply Kd.R_drewN|apply Kd.R_drew));exact HO_9.out) hb);have n1_:=Aside0.mk (blk_below (g:=gb518) (o:=.cells #[.int .i64 a0_0,.slice A0_1 l0_1.length c0_1,.slice (some ad523) l0_2.length c0_2] 27 (0,0)) (by (with_reducible repeat (first|refine blk_drewN ?_ _|refine blk_drew ?_|refine blk_alloc ?_ _));exact BK518.out) hb);have n2_:=Aside0.mk (below_step (by repeat (first|(with_reducible first|exact HB.out|apply below_alloc|apply pw_below_drewN|apply below_drew1|refine below_set ?_ GE518.out)|exact HB.out)) hb);clear HO_9;clear BK518;clear HB;have HO_9:=n0_;have BK518:=n1_;have HB:=n2_;clear n0_ n1_ n2_;(try clear hb);(try clear hb2);(try clear hk);(try clear hi))|((with_reducible refine gate_builtin (b:=.append) (xs:=#[.tmp 51,.tmp 53]) rfl ?_);(try (refine gate_guard (by rfl) ?_;dsimp only));at_builtin;refine Kd.R_append (Kd.int .i64) (w0:=w) w.heap.size rfl (.tmp 51) (.tmp 53) 28 3 (.int .i64 0) 8 rfl Tryd.underlying28 info3 rfl (by decide) (by omega) u9 x9_2 x10_2 [.int .i64 x10_2] (fun _=>True) (fun _=>False) rfl rfl ?aP (fun _ hk=>hk.elim) ?aF ?aO ?aB ?aS ?aL ?_;(case aP=>exact rfl);(case aB=>exact (by repeat (first|(with_reducible first|exact HB.out|apply below_alloc|apply pw_below_drewN|apply below_drew1|refine below_set ?_ GE518.out)|exact HB.out)));(case aF=>exact (fun _ _=>trivial));(case aO=>exact (by (with_reducible repeat (first|apply Kd.R_alloc|apply Kd.R_drewN|apply Kd.R_drew));exact HO_9.out));(case aS=>exact (below_size (by repeat (first|(with_reducible first|exact HB.out|apply below_alloc|apply pw_below_drewN|apply below_drew1|refine below_set ?_ GE518.out)|exact HB.out))));(case aL=>have:=LMc21.out;omega);intro v526 w24 ho hb hg hat;rw [← Ny525.out] at ho;have n0_:=Aside0.mk (blk_grown (g:=gb518) (o:=.cells #[.int .i64 a0_0,.slice A0_1 l0_1.length c0_1,.slice (some ad523) l0_2.length c0_2] 27 (0,0)) (by (with_reducible repeat (first|refine blk_drewN ?_ _|refine blk_drew ?_|refine blk_alloc ?_ _));exact BK518.out) hg (Kd.R_ne HO_9.out BK518.out (by decide)));have n1_:=Aside0.mk (hb);have n2_:=Aside0.mk (ho);clear BK518;clear HB;clear HO_9;have BK518:=n0_;have HB:=n1_;have HO527:=n2_;clear n0_ n1_ n2_;clear ho hb hg hat))
           go_roundg k2
           case measure=>have:=HJ3.out;have:=HK2.out;omega
           case rel=>exact ⟨(y525),(wrap64 (x10_2+1)),(by first|rfl|(simp;done)|(simp [*];done)),H',⟨by have:=HJ3.out;have:=HK2.out;omega⟩,⟨by (with_reducible repeat (first|apply Kd.R_alloc|apply Kd.R_drewN|apply Kd.R_drew));exact HO527.out⟩,⟨by (with_reducible repeat (first|refine blk_drewN ?_ _|refine blk_drew ?_|refine blk_alloc ?_ _));exact BK518.out⟩,⟨by repeat (first|(with_reducible first|exact HB.out|apply below_alloc|apply pw_below_drewN|apply below_drew1|refine below_set ?_ GE518.out)|exact HB.out)⟩⟩
          ·rw [if_neg c21] at H
           exact absurd H (by simp)
         ·rw [if_neg c20] at H
          have c20b0:decide ((wrap64 ((((rd_T62 l0_2 x10_2).f1).length:Int) - (l1.length:Int)))≤a2)=false:=decide_eq_false c20
          clear c20
          have H':=Aside0.mk H
          clear H
          have hcz25_0:wr.cell? ⟨gb518,0,none⟩=some (.int .i64 a0_0):=(blk_cell BK518.out 0).trans rfl
          have hcz25_1:wr.cell? ⟨gb518,1,none⟩=some (.slice A0_1 l0_1.length c0_1):=(blk_cell BK518.out 1).trans rfl
          have hcz25_2:wr.cell? ⟨gb518,2,none⟩=some (.slice A0_2 l0_2.length c0_2):=(blk_cell BK518.out 2).trans rfl
          have hfz25_0:=blk_frozen BK518.out 0
          have hfz25_1:=blk_frozen BK518.out 1
          have hfz25_2:=blk_frozen BK518.out 2
          have p523:0≤(x10_2:Int):=of_decide_eq_true (by first|(with_reducible assumption)|assumption)
          have q523:x10_2<(l0_2.length:Int):=of_decide_eq_true (by first|(with_reducible assumption)|assumption)
          obtain ⟨ad523,A523_1,c523_1,e523,hx523_0,hx523_1,hl523_1,hi523_1⟩:=at_T62 HR0_2.out x10_2 p523 q523
          cases e523
          replace hx523_0:=(HB.out.cell (World.block_lt_of_cell? w _ hx523_0)).trans hx523_0
          replace hx523_1:=(HB.out.cell (World.block_lt_of_cell? w _ hx523_1)).trans hx523_1
          have HR523_1:=Aside0.mk hi523_1
          have HC523_1:=Aside0.mk hl523_1
          clear hi523_1 hl523_1
          replace p523:=eq_true p523
          replace q523:=eq_true q523
          go_wp2_with (first|((with_reducible refine gate_callee (f:=79) rfl ?_);refine goesL_ (some 38) rfl rfl Tryd.func79 (by kernel_rfl) rfl #[.slice A523_1 ((rd_T62 l0_2 x10_2).f1).length c523_1,.slice A1 l1.length c1] rfl (by (try simp only [List.map_toArray,List.map_cons,List.map_nil]);first|done|rfl|(simp only [List.length_drop,List.length_take];rfl)) ?_;(with_reducible refine (saronref09_share.calls k2 _ _ ((rd_T62 l0_2 x10_2).f1) _ _ l1 t524 _ ?side1 ?side2 ?side3 ?side4 A18.out).mono ?_);(case side1=>repeat (first|exact (Kd.C_below HR523_1.out HB.out)|(with_reducible refine Kd.C_alloc ?_ _)|(with_reducible refine Kd.C_drewN ?_ _)|(with_reducible refine Kd.C_drew ?_)));(case side2=>exact HC523_1.out);(case side3=>repeat (first|exact (Kd.C_below HR1.out HB.out)|(with_reducible refine Kd.C_alloc ?_ _)|(with_reducible refine Kd.C_drewN ?_ _)|(with_reducible refine Kd.C_drew ?_)));(case side4=>exact HC1.out);rintro e w26 ⟨rfl,hb⟩;refine ⟨_,rfl,?_⟩;have n0_:=Aside0.mk (Kd.R_below (by (with_reducible repeat (first|apply Kd.R_alloc|apply Kd.R_drewN|apply Kd.R_drew));exact HO_9.out) hb);have n1_:=Aside0.mk (blk_below (g:=gb518) (o:=.cells #[.int .i64 a0_0,.slice A0_1 l0_1.length c0_1,.slice (some ad523) l0_2.length c0_2] 27 (0,0)) (by (with_reducible repeat (first|refine blk_drewN ?_ _|refine blk_drew ?_|refine blk_alloc ?_ _));exact BK518.out) hb);have n2_:=Aside0.mk (below_step (by repeat (first|(with_reducible first|exact HB.out|apply below_alloc|apply pw_below_drewN|apply below_drew1|refine below_set ?_ GE518.out)|exact HB.out)) hb);clear HO_9;clear BK518;clear HB;have HO_9:=n0_;have BK518:=n1_;have HB:=n2_;clear n0_ n1_ n2_;(try clear hb);(try clear hb2);(try clear hk);(try clear hi)))
          go_roundg k2
          case measure=>have:=HJ3.out;have:=HK2.out;omega
          case rel=>exact ⟨(x9_2),(wrap64 (x10_2+1)),(by first|rfl|(simp;done)|(simp [*];done)),H',⟨by have:=HJ3.out;have:=HK2.out;omega⟩,⟨by (with_reducible repeat (first|apply Kd.R_alloc|apply Kd.R_drewN|apply Kd.R_drew));exact HO_9.out⟩,⟨by (with_reducible repeat (first|refine blk_drewN ?_ _|refine blk_drew ?_|refine blk_alloc ?_ _));exact BK518.out⟩,⟨by repeat (first|(with_reducible first|exact HB.out|apply below_alloc|apply pw_below_drewN|apply below_drew1|refine below_set ?_ GE518.out)|exact HB.out)⟩⟩
        ·rw [if_neg c19] at H
         have c19b0:(t524 == (l1.length:Int))=false:=beq_eq_false_iff_ne.mpr c19
         have c19b1:(t524 != (l1.length:Int))=true:=bne_iff_ne.mpr c19
         have H':=Aside0.mk H
         clear H
         have hcz27_0:wr.cell? ⟨gb518,0,none⟩=some (.int .i64 a0_0):=(blk_cell BK518.out 0).trans rfl
         have hcz27_1:wr.cell? ⟨gb518,1,none⟩=some (.slice A0_1 l0_1.length c0_1):=(blk_cell BK518.out 1).trans rfl
         have hcz27_2:wr.cell? ⟨gb518,2,none⟩=some (.slice A0_2 l0_2.length c0_2):=(blk_cell BK518.out 2).trans rfl
         have hfz27_0:=blk_frozen BK518.out 0
         have hfz27_1:=blk_frozen BK518.out 1
         have hfz27_2:=blk_frozen BK518.out 2
         have p523:0≤(x10_2:Int):=of_decide_eq_true (by first|(with_reducible assumption)|assumption)
         have q523:x10_2<(l0_2.length:Int):=of_decide_eq_true (by first|(with_reducible assumption)|assumption)
         obtain ⟨ad523,A523_1,c523_1,e523,hx523_0,hx523_1,hl523_1,hi523_1⟩:=at_T62 HR0_2.out x10_2 p523 q523
         cases e523
         replace hx523_0:=(HB.out.cell (World.block_lt_of_cell? w _ hx523_0)).trans hx523_0
         replace hx523_1:=(HB.out.cell (World.block_lt_of_cell? w _ hx523_1)).trans hx523_1
         have HR523_1:=Aside0.mk hi523_1
         have HC523_1:=Aside0.mk hl523_1
         clear hi523_1 hl523_1
         replace p523:=eq_true p523
         replace q523:=eq_true q523
         go_wp2_with (first|((with_reducible refine gate_callee (f:=79) rfl ?_);refine goesL_ (some 38) rfl rfl Tryd.func79 (by kernel_rfl) rfl #[.slice A523_1 ((rd_T62 l0_2 x10_2).f1).length c523_1,.slice A1 l1.length c1] rfl (by (try simp only [List.map_toArray,List.map_cons,List.map_nil]);first|done|rfl|(simp only [List.length_drop,List.length_take];rfl)) ?_;(with_reducible refine (saronref09_share.calls k2 _ _ ((rd_T62 l0_2 x10_2).f1) _ _ l1 t524 _ ?side1 ?side2 ?side3 ?side4 A18.out).mono ?_);(case side1=>repeat (first|exact (Kd.C_below HR523_1.out HB.out)|(with_reducible refine Kd.C_alloc ?_ _)|(with_reducible refine Kd.C_drewN ?_ _)|(with_reducible refine Kd.C_drew ?_)));(case side2=>exact HC523_1.out);(case side3=>repeat (first|exact (Kd.C_below HR1.out HB.out)|(with_reducible refine Kd.C_alloc ?_ _)|(with_reducible refine Kd.C_drewN ?_ _)|(with_reducible refine Kd.C_drew ?_)));(case side4=>exact HC1.out);rintro e w28 ⟨rfl,hb⟩;refine ⟨_,rfl,?_⟩;have n0_:=Aside0.mk (Kd.R_below (by (with_reducible repeat (first|apply Kd.R_alloc|apply Kd.R_drewN|apply Kd.R_drew));exact HO_9.out) hb);have n1_:=Aside0.mk (blk_below (g:=gb518) (o:=.cells #[.int .i64 a0_0,.slice A0_1 l0_1.length c0_1,.slice (some ad523) l0_2.length c0_2] 27 (0,0)) (by (with_reducible repeat (first|refine blk_drewN ?_ _|refine blk_drew ?_|refine blk_alloc ?_ _));exact BK518.out) hb);have n2_:=Aside0.mk (below_step (by repeat (first|(with_reducible first|exact HB.out|apply below_alloc|apply pw_below_drewN|apply below_drew1|refine below_set ?_ GE518.out)|exact HB.out)) hb);clear HO_9;clear BK518;clear HB;have HO_9:=n0_;have BK518:=n1_;have HB:=n2_;clear n0_ n1_ n2_;(try clear hb);(try clear hb2);(try clear hk);(try clear hi)))
         go_roundg k2
         case measure=>have:=HJ3.out;have:=HK2.out;omega
         case rel=>exact ⟨(x9_2),(wrap64 (x10_2+1)),(by first|rfl|(simp;done)|(simp [*];done)),H',⟨by have:=HJ3.out;have:=HK2.out;omega⟩,⟨by (with_reducible repeat (first|apply Kd.R_alloc|apply Kd.R_drewN|apply Kd.R_drew));exact HO_9.out⟩,⟨by (with_reducible repeat (first|refine blk_drewN ?_ _|refine blk_drew ?_|refine blk_alloc ?_ _));exact BK518.out⟩,⟨by repeat (first|(with_reducible first|exact HB.out|apply below_alloc|apply pw_below_drewN|apply below_drew1|refine below_set ?_ GE518.out)|exact HB.out)⟩⟩
       ·rw [if_neg c17] at H
        exact absurd H (by simp)
      ·rw [if_neg c16] at H
       have c16b0:decide (x10_2<(l0_2.length:Int))=false:=decide_eq_false c16
       clear c16
       simp only [Option.some.injEq,Prod.mk.injEq] at H
       obtain ⟨rfl,rfl⟩:=H
       have hcz29_0:wr.cell? ⟨gb518,0,none⟩=some (.int .i64 a0_0):=(blk_cell BK518.out 0).trans rfl
       have hcz29_1:wr.cell? ⟨gb518,1,none⟩=some (.slice A0_1 l0_1.length c0_1):=(blk_cell BK518.out 1).trans rfl
       have hcz29_2:wr.cell? ⟨gb518,2,none⟩=some (.slice A0_2 l0_2.length c0_2):=(blk_cell BK518.out 2).trans rfl
       have hfz29_0:=blk_frozen BK518.out 0
       have hfz29_1:=blk_frozen BK518.out 1
       have hfz29_2:=blk_frozen BK518.out 2
       go_wp2
       go_ret2
       exact ⟨_,by first|rfl|(simp [errW_none,errW_some] <;> rfl)|(simp [*,errW_none,errW_some] <;> rfl),by (with_reducible repeat (first|apply Kd.R_alloc|apply Kd.R_drewN|apply Kd.R_drew));exact HO_9.out,by repeat (first|(with_reducible first|exact HB.out|apply below_alloc|apply pw_below_drewN|apply below_drew1|refine below_set ?_ GE518.out)|exact HB.out)⟩
   ·rw [if_neg c15] at H
    have c15b0:(x8_3 == 0)=false:=beq_eq_false_iff_ne.mpr c15
    have c15b1:(x8_3 != 0)=true:=bne_iff_ne.mpr c15
    simp only [Option.some.injEq,Prod.mk.injEq] at H
    obtain ⟨rfl,rfl⟩:=H
    go_wp2
    go_ret2
    exact ⟨_,by first|rfl|(simp [errW_none,errW_some] <;> rfl)|(simp [*,errW_none,errW_some] <;> rfl),by first|exact Kd.R_nil _ _ _ _ _|exact Kd.N_nil _ _ _ _ _|exact Kd.V_nil _ _ _ _ _|exact Kd.Q_nil _ _ _ _ _|exact Kd.S_nil _ _ _ _ _,by repeat (first|(with_reducible first|exact HB.out|apply below_alloc|apply pw_below_drewN|apply below_drew1|refine below_set ?_ GE518.out)|exact HB.out)⟩
end Go.Proofs.YthnilelmhpmanaaDoor.PHeardFits
end
section
namespace Go.Proofs.YthnilelmhpmanaaDoor.PHeardFits
open Go.RowKit Go.Proofs.YthnilelmhpmanaaDoorW.PrintWords Go.Proofs.YthnilelmhpmanaaDoorW.PrintLast Go.Proofs.YthnilelmhpmanaaDoorW.PrintMore
attribute [local go_sem] max2_int min2_int max_two min_two max_three min_three max_four min_four
set_option linter.unusedVariables false
set_option linter.unusedSimpArgs false
mutual
def saronref09_Known.l0:Nat→Int→Int→Int→List (S85)→List (S62)→Option (Int×Int)
 | 0,_,_,_,_,_=>none
 | k+1,x5,x6,x519000,x519001,x519002=>if x6<(x519002.length:Int) then (saronref09_Known.l1 k x5 x6 (wrap64 (x6+1)) x519000 x519001 x519002) else (some (x5,0))
def saronref09_Known.l1:Nat→Int→Int→Int→Int→List (S85)→List (S62)→Option (Int×Int)
 | 0,_,_,_,_,_,_=>none
 | k+1,x5,x6,x7,x519000,x519001,x519002=>if x7<(x519002.length:Int) then (if 0≤x6 then (if x6<(x519002.length:Int) then (if 0≤x7 then ((saronref09_share.f k ((rd_T62 x519002 x6).f1) ((rd_T62 x519002 x7).f1)).bind fun t523=>(if (wrap64 ((mx (((rd_T62 x519002 x6).f1).length:Int) (((rd_T62 x519002 x7).f1).length:Int)) - t523))=0 then (some (0,4)) else (if x6=0 then (if x7=1 then (saronref09_Known.l1 k (wrap64 ((wrap64 ((mx (((rd_T62 x519002 x6).f1).length:Int) (((rd_T62 x519002 x7).f1).length:Int)) - t523)) - 1)) x6 (wrap64 (x7+1)) x519000 x519001 x519002) else (if (wrap64 ((wrap64 ((mx (((rd_T62 x519002 x6).f1).length:Int) (((rd_T62 x519002 x7).f1).length:Int)) - t523)) - 1))<x5 then (saronref09_Known.l1 k (wrap64 ((wrap64 ((mx (((rd_T62 x519002 x6).f1).length:Int) (((rd_T62 x519002 x7).f1).length:Int)) - t523)) - 1)) x6 (wrap64 (x7+1)) x519000 x519001 x519002) else (saronref09_Known.l1 k x5 x6 (wrap64 (x7+1)) x519000 x519001 x519002))) else (if (wrap64 ((wrap64 ((mx (((rd_T62 x519002 x6).f1).length:Int) (((rd_T62 x519002 x7).f1).length:Int)) - t523)) - 1))<x5 then (saronref09_Known.l1 k (wrap64 ((wrap64 ((mx (((rd_T62 x519002 x6).f1).length:Int) (((rd_T62 x519002 x7).f1).length:Int)) - t523)) - 1)) x6 (wrap64 (x7+1)) x519000 x519001 x519002) else (saronref09_Known.l1 k x5 x6 (wrap64 (x7+1)) x519000 x519001 x519002))))) else (none)) else (none)) else (none)) else (saronref09_Known.l0 k x5 (wrap64 (x6+1)) x519000 x519001 x519002)
end
def saronref09_Known.f (k:Nat) (a0_0:Int) (l0_1:List (S85)) (l0_2:List (S62)):Option (Int×Int):=(saronref09_Check.f k a0_0 l0_1 l0_2).bind fun t519=>(if t519=0 then (if 0<(l0_2.length:Int) then (saronref09_Known.l0 k (((rd_T62 l0_2 0).f1).length:Int) 0 a0_0 l0_1 l0_2) else (none)) else (some (0,t519)))
set_option maxHeartbeats 8000000 in
set_option maxRecDepth 100000 in
theorem saronref09_Known.calls (k:Nat) (a0_0:Int) (A0_1:Option Addr) (c0_1:Nat) (l0_1:List (S85)) (A0_2:Option Addr) (c0_2:Nat) (l0_2:List (S62)) (r1:Int) (r2:Int) (w:World) (hr0_1:Kd.C k85 w A0_1 l0_1.length l0_1) (hc0_1:l0_1.length≤c0_1) (hr0_2:Kd.C k62 w A0_2 l0_2.length l0_2) (hc0_2:l0_2.length≤c0_2) (h:saronref09_Known.f k a0_0 l0_1 l0_2=some (r1,r2)) :
  Calls Tryd.prog 36 #[.agg #[.int .i64 a0_0,.slice A0_1 l0_1.length c0_1,.slice A0_2 l0_2.length c0_2]] w fun e w'=>e=.returned (.tuple #[.int .i64 r1,.int .i64 r2])∧Below w.heap.size w w':=by
 have hu27:=Tryd.underlying27
 have HR0_1:=Aside0.mk hr0_1
 have HC0_1:=Aside0.mk hc0_1
 clear hr0_1 hc0_1
 have HR0_2:=Aside0.mk hr0_2
 have HC0_2:=Aside0.mk hc0_2
 clear hr0_2 hc0_2
 have HB:=Aside0.mk (Below.refl w.heap.size w)
 have H:((saronref09_Check.f k a0_0 l0_1 l0_2).bind fun t519=>(if t519=0 then (if 0<(l0_2.length:Int) then (saronref09_Known.l0 k (((rd_T62 l0_2 0).f1).length:Int) 0 a0_0 l0_1 l0_2) else (none)) else (some (0,t519))))=some (r1,r2):=h
 clear h
 replace H:=Option.bind_eq_some_iff.mp H
 obtain ⟨t519,A20,H⟩:=H
 try dsimp only at H
 have A2:=Aside0.mk A20
 clear A20
 by_cases c3:t519=0
 ·rw [if_pos c3] at H
  have c3b0:(t519 == 0)=true:=beq_iff_eq.mpr c3
  have c3b1:(t519 != 0)=false:=bne_eq_false_iff_eq.mpr c3
  clear c3
  by_cases c4:0<(l0_2.length:Int)
  ·rw [if_pos c4] at H
   have c4b0:decide (0<(l0_2.length:Int))=true:=decide_eq_true c4
   have c4b1:decide (0<l0_2.length)=true:=decide_eq_true (by omega)
   clear c4
   have H':=Aside0.mk H
   clear H
   go_enter Tryd.func36,Tryd.ntmps36
   go_wp2_with (first|((with_reducible refine gate_dst (N:=1) rfl ?_);refine box_event ?hg (N:=1) ?hd (cs:=#[.int .i64 a0_0,.slice A0_1 l0_1.length c0_1,.slice A0_2 l0_2.length c0_2]) (t:=27) ?hr ?_;(case hd=>rfl);(case hg=>rfl);(case hr=>first|(go_simp;done)|(go_simp;rfl));intro gb518 hg w5 hbox hb;have n0_:=Aside0.mk (below_step (by repeat (first|(with_reducible first|exact HB.out|apply below_alloc|apply pw_below_drewN|apply below_drew1)|exact HB.out)) hb);have n1_:=Aside0.mk (hbox);have n2_:=Aside0.mk ((by rw [hg];exact (below_size (by repeat (first|(with_reducible first|exact HB.out|apply below_alloc|apply pw_below_drewN|apply below_drew1)|exact HB.out))):w.heap.size≤gb518));have n3_:=Aside0.mk ((by rw [hg];exact (below_size (by repeat (first|(with_reducible first|exact HB.out|apply below_alloc|apply pw_below_drewN|apply below_drew1)|exact HB.out))):w.heap.size≤gb518));clear HB;have HB:=n0_;have BK518:=n1_;have GW518:=n2_;have GE518:=n3_;clear n0_ n1_ n2_ n3_;clear hb hbox hg;have hcz6_0:w5.cell? ⟨gb518,0,none⟩=some (.int .i64 a0_0):=(blk_cell BK518.out 0).trans rfl;have hcz6_1:w5.cell? ⟨gb518,1,none⟩=some (.slice A0_1 l0_1.length c0_1):=(blk_cell BK518.out 1).trans rfl;have hcz6_2:w5.cell? ⟨gb518,2,none⟩=some (.slice A0_2 l0_2.length c0_2):=(blk_cell BK518.out 2).trans rfl;have hfz6_0:=blk_frozen BK518.out 0;have hfz6_1:=blk_frozen BK518.out 1;have hfz6_2:=blk_frozen BK518.out 2)|(go_at_call 18;(with_reducible refine (saronref09_Check.calls k a0_0 _ _ l0_1 _ _ l0_2 t519 _ ?side1 ?side2 ?side3 ?side4 A2.out).mono ?_);(case side1=>repeat (first|exact (Kd.C_below HR0_1.out HB.out)|(with_reducible refine Kd.C_alloc ?_ _)|(with_reducible refine Kd.C_drewN ?_ _)|(with_reducible refine Kd.C_drew ?_)));(case side2=>exact HC0_1.out);(case side3=>repeat (first|exact (Kd.C_below HR0_2.out HB.out)|(with_reducible refine Kd.C_alloc ?_ _)|(with_reducible refine Kd.C_drewN ?_ _)|(with_reducible refine Kd.C_drew ?_)));(case side4=>exact HC0_2.out);rintro e w7 ⟨rfl,hb⟩;have n0_:=Aside0.mk (blk_below (g:=gb518) (o:=.cells #[.int .i64 a0_0,.slice A0_1 l0_1.length c0_1,.slice A0_2 l0_2.length c0_2] 27 (0,0)) (by (with_reducible repeat (first|refine blk_drewN ?_ _|refine blk_drew ?_|refine blk_alloc ?_ _));exact BK518.out) hb);have n1_:=Aside0.mk (below_step (by repeat (first|(with_reducible first|exact HB.out|apply below_alloc|apply pw_below_drewN|apply below_drew1|refine below_set ?_ GE518.out)|exact HB.out)) hb);clear BK518;clear HB;have BK518:=n0_;have HB:=n1_;clear n0_ n1_;(try clear hb);(try clear hb2);(try clear hk);(try clear hi);have hcz8_0:w7.cell? ⟨gb518,0,none⟩=some (.int .i64 a0_0):=(blk_cell BK518.out 0).trans rfl;have hcz8_1:w7.cell? ⟨gb518,1,none⟩=some (.slice A0_1 l0_1.length c0_1):=(blk_cell BK518.out 1).trans rfl;have hcz8_2:w7.cell? ⟨gb518,2,none⟩=some (.slice A0_2 l0_2.length c0_2):=(blk_cell BK518.out 2).trans rfl;have hfz8_0:=blk_frozen BK518.out 0;have hfz8_1:=blk_frozen BK518.out 1;have hfz8_2:=blk_frozen BK518.out 2;have p520:0≤(0:Int):=(by omega);have q520:0<(l0_2.length:Int):=of_decide_eq_true (by first|(with_reducible assumption)|assumption);obtain ⟨ad520,A520_1,c520_1,e520,hx520_0,hx520_1,hl520_1,hi520_1⟩:=at_T62 HR0_2.out 0 p520 q520;cases e520;have qi520:(0<l0_2.length)=True:=eq_true (by omega);(try rw [show ((0:Int)).toNat=0 from rfl] at hx520_0);(try rw [show 0 * 2=0 from rfl] at hx520_0);(try rw [Addr.add_zero'] at hx520_0);(try rw [show ((0:Int)).toNat=0 from rfl] at hx520_1);(try rw [show 0 * 2=0 from rfl] at hx520_1);(try rw [Addr.add_zero'] at hx520_1);replace hx520_0:=(HB.out.cell (World.block_lt_of_cell? w _ hx520_0)).trans hx520_0;replace hx520_1:=(HB.out.cell (World.block_lt_of_cell? w _ hx520_1)).trans hx520_1;have HR520_1:=Aside0.mk hi520_1;have HC520_1:=Aside0.mk hl520_1;clear hi520_1 hl520_1;replace p520:=eq_true p520;replace q520:=eq_true q520))
   repeat (go_quiet (first|((with_reducible refine gate_dst (N:=1) rfl ?_);refine box_event ?hg (N:=1) ?hd (cs:=#[.int .i64 a0_0,.slice A0_1 l0_1.length c0_1,.slice A0_2 l0_2.length c0_2]) (t:=27) ?hr ?_;(case hd=>rfl);(case hg=>rfl);(case hr=>first|(go_simp;done)|(go_simp;rfl));intro gb518 hg w5 hbox hb;have n0_:=Aside0.mk (below_step (by repeat (first|(with_reducible first|exact HB.out|apply below_alloc|apply pw_below_drewN|apply below_drew1)|exact HB.out)) hb);have n1_:=Aside0.mk (hbox);have n2_:=Aside0.mk ((by rw [hg];exact (below_size (by repeat (first|(with_reducible first|exact HB.out|apply below_alloc|apply pw_below_drewN|apply below_drew1)|exact HB.out))):w.heap.size≤gb518));have n3_:=Aside0.mk ((by rw [hg];exact (below_size (by repeat (first|(with_reducible first|exact HB.out|apply below_alloc|apply pw_below_drewN|apply below_drew1)|exact HB.out))):w.heap.size≤gb518));clear HB;have HB:=n0_;have BK518:=n1_;have GW518:=n2_;have GE518:=n3_;clear n0_ n1_ n2_ n3_;clear hb hbox hg;have hcz6_0:w5.cell? ⟨gb518,0,none⟩=some (.int .i64 a0_0):=(blk_cell BK518.out 0).trans rfl;have hcz6_1:w5.cell? ⟨gb518,1,none⟩=some (.slice A0_1 l0_1.length c0_1):=(blk_cell BK518.out 1).trans rfl;have hcz6_2:w5.cell? ⟨gb518,2,none⟩=some (.slice A0_2 l0_2.length c0_2):=(blk_cell BK518.out 2).trans rfl;have hfz6_0:=blk_frozen BK518.out 0;have hfz6_1:=blk_frozen BK518.out 1;have hfz6_2:=blk_frozen BK518.out 2)|(go_at_call 18;(with_reducible refine (saronref09_Check.calls k a0_0 _ _ l0_1 _ _ l0_2 t519 _ ?side1 ?side2 ?side3 ?side4 A2.out).mono ?_);(case side1=>repeat (first|exact (Kd.C_below HR0_1.out HB.out)|(with_reducible refine Kd.C_alloc ?_ _)|(with_reducible refine Kd.C_drewN ?_ _)|(with_reducible refine Kd.C_drew ?_)));(case side2=>exact HC0_1.out);(case side3=>repeat (first|exact (Kd.C_below HR0_2.out HB.out)|(with_reducible refine Kd.C_alloc ?_ _)|(with_reducible refine Kd.C_drewN ?_ _)|(with_reducible refine Kd.C_drew ?_)));(case side4=>exact HC0_2.out);rintro e w7 ⟨rfl,hb⟩;have n0_:=Aside0.mk (blk_below (g:=gb518) (o:=.cells #[.int .i64 a0_0,.slice A0_1 l0_1.length c0_1,.slice A0_2 l0_2.length c0_2] 27 (0,0)) (by (with_reducible repeat (first|refine blk_drewN ?_ _|refine blk_drew ?_|refine blk_alloc ?_ _));exact BK518.out) hb);have n1_:=Aside0.mk (below_step (by repeat (first|(with_reducible first|exact HB.out|apply below_alloc|apply pw_below_drewN|apply below_drew1|refine below_set ?_ GE518.out)|exact HB.out)) hb);clear BK518;clear HB;have BK518:=n0_;have HB:=n1_;clear n0_ n1_;(try clear hb);(try clear hb2);(try clear hk);(try clear hi);have hcz8_0:w7.cell? ⟨gb518,0,none⟩=some (.int .i64 a0_0):=(blk_cell BK518.out 0).trans rfl;have hcz8_1:w7.cell? ⟨gb518,1,none⟩=some (.slice A0_1 l0_1.length c0_1):=(blk_cell BK518.out 1).trans rfl;have hcz8_2:w7.cell? ⟨gb518,2,none⟩=some (.slice A0_2 l0_2.length c0_2):=(blk_cell BK518.out 2).trans rfl;have hfz8_0:=blk_frozen BK518.out 0;have hfz8_1:=blk_frozen BK518.out 1;have hfz8_2:=blk_frozen BK518.out 2;have p520:0≤(0:Int):=(by omega);have q520:0<(l0_2.length:Int):=of_decide_eq_true (by first|(with_reducible assumption)|assumption);obtain ⟨ad520,A520_1,c520_1,e520,hx520_0,hx520_1,hl520_1,hi520_1⟩:=at_T62 HR0_2.out 0 p520 q520;cases e520;have qi520:(0<l0_2.length)=True:=eq_true (by omega);(try rw [show ((0:Int)).toNat=0 from rfl] at hx520_0);(try rw [show 0 * 2=0 from rfl] at hx520_0);(try rw [Addr.add_zero'] at hx520_0);(try rw [show ((0:Int)).toNat=0 from rfl] at hx520_1);(try rw [show 0 * 2=0 from rfl] at hx520_1);(try rw [Addr.add_zero'] at hx520_1);replace hx520_0:=(HB.out.cell (World.block_lt_of_cell? w _ hx520_0)).trans hx520_0;replace hx520_1:=(HB.out.cell (World.block_lt_of_cell? w _ hx520_1)).trans hx520_1;have HR520_1:=Aside0.mk hi520_1;have HC520_1:=Aside0.mk hl520_1;clear hi520_1 hl520_1;replace p520:=eq_true p520;replace q520:=eq_true q520));try go_wp2_with (first|((with_reducible refine gate_dst (N:=1) rfl ?_);refine box_event ?hg (N:=1) ?hd (cs:=#[.int .i64 a0_0,.slice A0_1 l0_1.length c0_1,.slice A0_2 l0_2.length c0_2]) (t:=27) ?hr ?_;(case hd=>rfl);(case hg=>rfl);(case hr=>first|(go_simp;done)|(go_simp;rfl));intro gb518 hg w5 hbox hb;have n0_:=Aside0.mk (below_step (by repeat (first|(with_reducible first|exact HB.out|apply below_alloc|apply pw_below_drewN|apply below_drew1)|exact HB.out)) hb);have n1_:=Aside0.mk (hbox);have n2_:=Aside0.mk ((by rw [hg];exact (below_size (by repeat (first|(with_reducible first|exact HB.out|apply below_alloc|apply pw_below_drewN|apply below_drew1)|exact HB.out))):w.heap.size≤gb518));have n3_:=Aside0.mk ((by rw [hg];exact (below_size (by repeat (first|(with_reducible first|exact HB.out|apply below_alloc|apply pw_below_drewN|apply below_drew1)|exact HB.out))):w.heap.size≤gb518));clear HB;have HB:=n0_;have BK518:=n1_;have GW518:=n2_;have GE518:=n3_;clear n0_ n1_ n2_ n3_;clear hb hbox hg;have hcz6_0:w5.cell? ⟨gb518,0,none⟩=some (.int .i64 a0_0):=(blk_cell BK518.out 0).trans rfl;have hcz6_1:w5.cell? ⟨gb518,1,none⟩=some (.slice A0_1 l0_1.length c0_1):=(blk_cell BK518.out 1).trans rfl;have hcz6_2:w5.cell? ⟨gb518,2,none⟩=some (.slice A0_2 l0_2.length c0_2):=(blk_cell BK518.out 2).trans rfl;have hfz6_0:=blk_frozen BK518.out 0;have hfz6_1:=blk_frozen BK518.out 1;have hfz6_2:=blk_frozen BK518.out 2)|(go_at_call 18;(with_reducible refine (saronref09_Check.calls k a0_0 _ _ l0_1 _ _ l0_2 t519 _ ?side1 ?side2 ?side3 ?side4 A2.out).mono ?_);(case side1=>repeat (first|exact (Kd.C_below HR0_1.out HB.out)|(with_reducible refine Kd.C_alloc ?_ _)|(with_reducible refine Kd.C_drewN ?_ _)|(with_reducible refine Kd.C_drew ?_)));(case side2=>exact HC0_1.out);(case side3=>repeat (first|exact (Kd.C_below HR0_2.out HB.out)|(with_reducible refine Kd.C_alloc ?_ _)|(with_reducible refine Kd.C_drewN ?_ _)|(with_reducible refine Kd.C_drew ?_)));(case side4=>exact HC0_2.out);rintro e w7 ⟨rfl,hb⟩;have n0_:=Aside0.mk (blk_below (g:=gb518) (o:=.cells #[.int .i64 a0_0,.slice A0_1 l0_1.length c0_1,.slice A0_2 l0_2.length c0_2] 27 (0,0)) (by (with_reducible repeat (first|refine blk_drewN ?_ _|refine blk_drew ?_|refine blk_alloc ?_ _));exact BK518.out) hb);have n1_:=Aside0.mk (below_step (by repeat (first|(with_reducible first|exact HB.out|apply below_alloc|apply pw_below_drewN|apply below_drew1|refine below_set ?_ GE518.out)|exact HB.out)) hb);clear BK518;clear HB;have BK518:=n0_;have HB:=n1_;clear n0_ n1_;(try clear hb);(try clear hb2);(try clear hk);(try clear hi);have hcz8_0:w7.cell? ⟨gb518,0,none⟩=some (.int .i64 a0_0):=(blk_cell BK518.out 0).trans rfl;have hcz8_1:w7.cell? ⟨gb518,1,none⟩=some (.slice A0_1 l0_1.length c0_1):=(blk_cell BK518.out 1).trans rfl;have hcz8_2:w7.cell? ⟨gb518,2,none⟩=some (.slice A0_2 l0_2.length c0_2):=(blk_cell BK518.out 2).trans rfl;have hfz8_0:=blk_frozen BK518.out 0;have hfz8_1:=blk_frozen BK518.out 1;have hfz8_2:=blk_frozen BK518.out 2;have p520:0≤(0:Int):=(by omega);have q520:0<(l0_2.length:Int):=of_decide_eq_true (by first|(with_reducible assumption)|assumption);obtain ⟨ad520,A520_1,c520_1,e520,hx520_0,hx520_1,hl520_1,hi520_1⟩:=at_T62 HR0_2.out 0 p520 q520;cases e520;have qi520:(0<l0_2.length)=True:=eq_true (by omega);(try rw [show ((0:Int)).toNat=0 from rfl] at hx520_0);(try rw [show 0 * 2=0 from rfl] at hx520_0);(try rw [Addr.add_zero'] at hx520_0);(try rw [show ((0:Int)).toNat=0 from rfl] at hx520_1);(try rw [show 0 * 2=0 from rfl] at hx520_1);(try rw [Addr.add_zero'] at hx520_1);replace hx520_0:=(HB.out.cell (World.block_lt_of_cell? w _ hx520_0)).trans hx520_0;replace hx520_1:=(HB.out.cell (World.block_lt_of_cell? w _ hx520_1)).trans hx520_1;have HR520_1:=Aside0.mk hi520_1;have HC520_1:=Aside0.mk hl520_1;clear hi520_1 hl520_1;replace p520:=eq_true p520;replace q520:=eq_true q520)))
   go_loopg [5,6] k (fun kq v5 v6 w'=>∃ (x5_1:Int) (x6_1:Int),v5=.int .i64 x5_1∧v6=.int .i64 x6_1∧Aside0 (saronref09_Known.l0 kq x5_1 x6_1 a0_0 l0_1 l0_2=some (r1,r2))∧Aside0 (kq≤k)∧Aside0 (w'.heap[gb518]?=some (.cells #[.int .i64 a0_0,(.slice A0_1 l0_1.length c0_1),(.slice (some ad520) l0_2.length c0_2)] 27 (0,0)))∧Aside0 (Below w.heap.size w w'))
   case atStart=>exact ⟨((((rd_T62 l0_2 0).f1).length:Int)),(0),(by first|rfl|(simp;done)|(simp [*];done)),(by first|rfl|(simp;done)|(simp [*];done)),H',⟨Nat.le_refl _⟩,⟨by (with_reducible repeat (first|refine blk_drewN ?_ _|refine blk_drew ?_|refine blk_alloc ?_ _));exact BK518.out⟩,⟨by repeat (first|(with_reducible first|exact HB.out|apply below_alloc|apply pw_below_drewN|apply below_drew1|refine below_set ?_ GE518.out)|exact HB.out)⟩⟩
   case round =>
    clear H'
    try clear p2
    try clear c3
    try clear c3b0
    try clear c3b1
    try clear c4
    try clear c4b0
    try clear c4b1
    try clear c5
    try clear p5
    try clear q5
    try clear hx5
    try clear qi5
    try clear hcz6_0
    try clear hcz6_1
    try clear hcz6_2
    try clear hcz8_0
    try clear hcz8_1
    try clear hcz8_2
    try clear hfz6_0
    try clear hfz6_1
    try clear hfz6_2
    try clear hfz8_0
    try clear hfz8_1
    try clear hfz8_2
    try clear hx520_0
    try clear hx520_1
    try clear p520
    try clear q520
    obtain ⟨x5_1,x6_1,rfl,rfl,HA,HK1,BK518,HB⟩:=hrel
    cases gk with
    | zero=>exact absurd HA.out (by simp [saronref09_Known.l0])
    | succ k1 =>
     have H:=HA.out
     clear HA
     simp only [saronref09_Known.l0] at H
     by_cases c9:x6_1<(l0_2.length:Int)
     ·rw [if_pos c9] at H
      have c9b0:decide (x6_1<(l0_2.length:Int))=true:=decide_eq_true c9
      clear c9
      have H':=Aside0.mk H
      clear H
      have hcz10_0:wr.cell? ⟨gb518,0,none⟩=some (.int .i64 a0_0):=(blk_cell BK518.out 0).trans rfl
      have hcz10_1:wr.cell? ⟨gb518,1,none⟩=some (.slice A0_1 l0_1.length c0_1):=(blk_cell BK518.out 1).trans rfl
      have hcz10_2:wr.cell? ⟨gb518,2,none⟩=some (.slice (some ad520) l0_2.length c0_2):=(blk_cell BK518.out 2).trans rfl
      have hfz10_0:=blk_frozen BK518.out 0
      have hfz10_1:=blk_frozen BK518.out 1
      have hfz10_2:=blk_frozen BK518.out 2
      go_wp2
      repeat (go_quiet (fail);try go_wp2)
      go_loopg [5,7] k1 (fun kq v5 v7 w'=>∃ (x5_2:Int) (x7_2:Int),v5=.int .i64 x5_2∧v7=.int .i64 x7_2∧Aside0 (saronref09_Known.l1 kq x5_2 x6_1 x7_2 a0_0 l0_1 l0_2=some (r1,r2))∧Aside0 (kq≤k1)∧Aside0 (w'.heap[gb518]?=some (.cells #[.int .i64 a0_0,(.slice A0_1 l0_1.length c0_1),(.slice (some ad520) l0_2.length c0_2)] 27 (0,0)))∧Aside0 (Below w.heap.size w w'))
      case atStart=>exact ⟨(x5_1),(wrap64 (x6_1+1)),(by first|rfl|(simp;done)|(simp [*];done)),(by first|rfl|(simp;done)|(simp [*];done)),H',⟨Nat.le_refl _⟩,⟨by (with_reducible repeat (first|refine blk_drewN ?_ _|refine blk_drew ?_|refine blk_alloc ?_ _));exact BK518.out⟩,⟨by repeat (first|(with_reducible first|exact HB.out|apply below_alloc|apply pw_below_drewN|apply below_drew1|refine below_set ?_ GE518.out)|exact HB.out)⟩⟩
      case round =>
       clear H'
       try clear p2
       try clear c3
       try clear c3b0
       try clear c3b1
       try clear c4
       try clear c4b0
       try clear c4b1
       try clear c5
       try clear p5
       try clear q5
       try clear hx5
       try clear qi5
       try clear p6
       try clear c9
       try clear c9b0
       try clear hcz10_0
       try clear hcz10_1
       try clear hcz10_2
       try clear hcz6_0
       try clear hcz6_1
       try clear hcz6_2
       try clear hcz8_0
       try clear hcz8_1
       try clear hcz8_2
       try clear hfz10_0
       try clear hfz10_1
       try clear hfz10_2
       try clear hfz6_0
       try clear hfz6_1
       try clear hfz6_2
       try clear hfz8_0
       try clear hfz8_1
       try clear hfz8_2
       try clear hx520_0
       try clear hx520_1
       try clear p2
       try clear p5
       try clear p520
       try clear q5
       try clear q520
       obtain ⟨x5_2,x7_2,rfl,rfl,HA,HK2,BK518,HB⟩:=hrel
       cases gk with
       | zero=>exact absurd HA.out (by simp [saronref09_Known.l1])
       | succ k2 =>
        have H:=HA.out
        clear HA
        simp only [saronref09_Known.l1] at H
        by_cases c11:x7_2<(l0_2.length:Int)
        ·rw [if_pos c11] at H
         have c11b0:decide (x7_2<(l0_2.length:Int))=true:=decide_eq_true c11
         clear c11
         by_cases c12:0≤x6_1
         ·rw [if_pos c12] at H
          have c12b0:decide (0≤x6_1)=true:=decide_eq_true c12
          clear c12
          by_cases c13:x6_1<(l0_2.length:Int)
          ·rw [if_pos c13] at H
           have c13b0:decide (x6_1<(l0_2.length:Int))=true:=decide_eq_true c13
           clear c13
           by_cases c14:0≤x7_2
           ·rw [if_pos c14] at H
            have c14b0:decide (0≤x7_2)=true:=decide_eq_true c14
            clear c14
            obtain ⟨ji15,hji15⟩:∃ j_:Int,(mx (((rd_T62 l0_2 x6_1).f1).length:Int) (((rd_T62 l0_2 x7_2).f1).length:Int))=j_:=⟨_,rfl⟩
            replace H:((saronref09_share.f k2 ((rd_T62 l0_2 x6_1).f1) ((rd_T62 l0_2 x7_2).f1)).bind fun t523=>(if (wrap64 ((ji15) - t523))=0 then (some (0,4)) else (if x6_1=0 then (if x7_2=1 then (saronref09_Known.l1 k2 (wrap64 ((wrap64 ((ji15) - t523)) - 1)) x6_1 (wrap64 (x7_2+1)) a0_0 l0_1 l0_2) else (if (wrap64 ((wrap64 ((ji15) - t523)) - 1))<x5_2 then (saronref09_Known.l1 k2 (wrap64 ((wrap64 ((ji15) - t523)) - 1)) x6_1 (wrap64 (x7_2+1)) a0_0 l0_1 l0_2) else (saronref09_Known.l1 k2 x5_2 x6_1 (wrap64 (x7_2+1)) a0_0 l0_1 l0_2))) else (if (wrap64 ((wrap64 ((ji15) - t523)) - 1))<x5_2 then (saronref09_Known.l1 k2 (wrap64 ((wrap64 ((ji15) - t523)) - 1)) x6_1 (wrap64 (x7_2+1)) a0_0 l0_1 l0_2) else (saronref09_Known.l1 k2 x5_2 x6_1 (wrap64 (x7_2+1)) a0_0 l0_1 l0_2)))))=some (r1,r2):=by first|(rw [hji15] at H;exact H)|(simp only [hji15] at H ⊢;exact H)
            have hji15_:(if (((rd_T62 l0_2 x6_1).f1)).length<(((rd_T62 l0_2 x7_2).f1)).length then (((rd_T62 l0_2 x7_2).f1).length:Int) else (((rd_T62 l0_2 x6_1).f1).length:Int))=ji15:=by rw [← hji15];first|(unfold mx;split <;> split <;> omega)|(unfold mn;split <;> split <;> omega)
            replace H:=Option.bind_eq_some_iff.mp H
            obtain ⟨t523,A160,H⟩:=H
            try dsimp only at H
            have A16:=Aside0.mk A160
            clear A160
            by_cases c17:(wrap64 ((ji15) - t523))=0
            ·rw [if_pos c17] at H
             have c17b0:((wrap64 ((ji15) - t523)) == 0)=true:=beq_iff_eq.mpr c17
             have c17b1:((wrap64 ((ji15) - t523)) != 0)=false:=bne_eq_false_iff_eq.mpr c17
             clear c17
             simp only [Option.some.injEq,Prod.mk.injEq] at H
             obtain ⟨rfl,rfl⟩:=H
             have hcz18_0:wr.cell? ⟨gb518,0,none⟩=some (.int .i64 a0_0):=(blk_cell BK518.out 0).trans rfl
             have hcz18_1:wr.cell? ⟨gb518,1,none⟩=some (.slice A0_1 l0_1.length c0_1):=(blk_cell BK518.out 1).trans rfl
             have hcz18_2:wr.cell? ⟨gb518,2,none⟩=some (.slice (some ad520) l0_2.length c0_2):=(blk_cell BK518.out 2).trans rfl
             have hfz18_0:=blk_frozen BK518.out 0
             have hfz18_1:=blk_frozen BK518.out 1
             have hfz18_2:=blk_frozen BK518.out 2
             have p521:0≤(x6_1:Int):=of_decide_eq_true (by first|(with_reducible assumption)|assumption)
             have q521:x6_1<(l0_2.length:Int):=of_decide_eq_true (by first|(with_reducible assumption)|assumption)
             obtain ⟨ad521,A521_1,c521_1,e521,hx521_0,hx521_1,hl521_1,hi521_1⟩:=at_T62 HR0_2.out x6_1 p521 q521
             obtain rfl:ad520=ad521:=(by injection e521)
             replace hx521_0:=(HB.out.cell (World.block_lt_of_cell? w _ hx521_0)).trans hx521_0
             replace hx521_1:=(HB.out.cell (World.block_lt_of_cell? w _ hx521_1)).trans hx521_1
             have HR521_1:=Aside0.mk hi521_1
             have HC521_1:=Aside0.mk hl521_1
             clear hi521_1 hl521_1
             replace p521:=eq_true p521
             replace q521:=eq_true q521
             have p522:0≤(x7_2:Int):=of_decide_eq_true (by first|(with_reducible assumption)|assumption)
             have q522:x7_2<(l0_2.length:Int):=of_decide_eq_true (by first|(with_reducible assumption)|assumption)
             obtain ⟨ad522,A522_1,c522_1,e522,hx522_0,hx522_1,hl522_1,hi522_1⟩:=at_T62 HR0_2.out x7_2 p522 q522
             obtain rfl:ad520=ad522:=(by injection e522)
             replace hx522_0:=(HB.out.cell (World.block_lt_of_cell? w _ hx522_0)).trans hx522_0
             replace hx522_1:=(HB.out.cell (World.block_lt_of_cell? w _ hx522_1)).trans hx522_1
             have HR522_1:=Aside0.mk hi522_1
             have HC522_1:=Aside0.mk hl522_1
             clear hi522_1 hl522_1
             replace p522:=eq_true p522
             replace q522:=eq_true q522
             go_wp2_with (first|(go_at_call 79;(with_reducible refine (saronref09_share.calls k2 _ _ ((rd_T62 l0_2 x6_1).f1) _ _ ((rd_T62 l0_2 x7_2).f1) t523 _ ?side1 ?side2 ?side3 ?side4 A16.out).mono ?_);(case side1=>repeat (first|exact (Kd.C_below HR521_1.out HB.out)|(with_reducible refine Kd.C_alloc ?_ _)|(with_reducible refine Kd.C_drewN ?_ _)|(with_reducible refine Kd.C_drew ?_)));(case side2=>exact HC521_1.out);(case side3=>repeat (first|exact (Kd.C_below HR522_1.out HB.out)|(with_reducible refine Kd.C_alloc ?_ _)|(with_reducible refine Kd.C_drewN ?_ _)|(with_reducible refine Kd.C_drew ?_)));(case side4=>exact HC522_1.out);rintro e w19 ⟨rfl,hb⟩;have n0_:=Aside0.mk (blk_below (g:=gb518) (o:=.cells #[.int .i64 a0_0,.slice A0_1 l0_1.length c0_1,.slice (some ad520) l0_2.length c0_2] 27 (0,0)) (by (with_reducible repeat (first|refine blk_drewN ?_ _|refine blk_drew ?_|refine blk_alloc ?_ _));exact BK518.out) hb);have n1_:=Aside0.mk (below_step (by repeat (first|(with_reducible first|exact HB.out|apply below_alloc|apply pw_below_drewN|apply below_drew1|refine below_set ?_ GE518.out)|exact HB.out)) hb);clear BK518;clear HB;have BK518:=n0_;have HB:=n1_;clear n0_ n1_;(try clear hb);(try clear hb2);(try clear hk);(try clear hi)))
             repeat (go_quiet (first|(go_at_call 79;(with_reducible refine (saronref09_share.calls k2 _ _ ((rd_T62 l0_2 x6_1).f1) _ _ ((rd_T62 l0_2 x7_2).f1) t523 _ ?side1 ?side2 ?side3 ?side4 A16.out).mono ?_);(case side1=>repeat (first|exact (Kd.C_below HR521_1.out HB.out)|(with_reducible refine Kd.C_alloc ?_ _)|(with_reducible refine Kd.C_drewN ?_ _)|(with_reducible refine Kd.C_drew ?_)));(case side2=>exact HC521_1.out);(case side3=>repeat (first|exact (Kd.C_below HR522_1.out HB.out)|(with_reducible refine Kd.C_alloc ?_ _)|(with_reducible refine Kd.C_drewN ?_ _)|(with_reducible refine Kd.C_drew ?_)));(case side4=>exact HC522_1.out);rintro e w19 ⟨rfl,hb⟩;have n0_:=Aside0.mk (blk_below (g:=gb518) (o:=.cells #[.int .i64 a0_0,.slice A0_1 l0_1.length c0_1,.slice (some ad520) l0_2.length c0_2] 27 (0,0)) (by (with_reducible repeat (first|refine blk_drewN ?_ _|refine blk_drew ?_|refine blk_alloc ?_ _));exact BK518.out) hb);have n1_:=Aside0.mk (below_step (by repeat (first|(with_reducible first|exact HB.out|apply below_alloc|apply pw_below_drewN|apply below_drew1|refine below_set ?_ GE518.out)|exact HB.out)) hb);clear BK518;clear HB;have BK518:=n0_;have HB:=n1_;clear n0_ n1_;(try clear hb);(try clear hb2);(try clear hk);(try clear hi)));try go_wp2_with (first|(go_at_call 79;(with_reducible refine (saronref09_share.calls k2 _ _ ((rd_T62 l0_2 x6_1).f1) _ _ ((rd_T62 l0_2 x7_2).f1) t523 _ ?side1 ?side2 ?side3 ?side4 A16.out).mono ?_);(case side1=>repeat (first|exact (Kd.C_below HR521_1.out HB.out)|(with_reducible refine Kd.C_alloc ?_ _)|(with_reducible refine Kd.C_drewN ?_ _)|(with_reducible refine Kd.C_drew ?_)));(case side2=>exact HC521_1.out);(case side3=>repeat (first|exact (Kd.C_below HR522_1.out HB.out)|(with_reducible refine Kd.C_alloc ?_ _)|(with_reducible refine Kd.C_drewN ?_ _)|(with_reducible refine Kd.C_drew ?_)));(case side4=>exact HC522_1.out);rintro e w19 ⟨rfl,hb⟩;have n0_:=Aside0.mk (blk_below (g:=gb518) (o:=.cells #[.int .i64 a0_0,.slice A0_1 l0_1.length c0_1,.slice (some ad520) l0_2.length c0_2] 27 (0,0)) (by (with_reducible repeat (first|refine blk_drewN ?_ _|refine blk_drew ?_|refine blk_alloc ?_ _));exact BK518.out) hb);have n1_:=Aside0.mk (below_step (by repeat (first|(with_reducible first|exact HB.out|apply below_alloc|apply pw_below_drewN|apply below_drew1|refine below_set ?_ GE518.out)|exact HB.out)) hb);clear BK518;clear HB;have BK518:=n0_;have HB:=n1_;clear n0_ n1_;(try clear hb);(try clear hb2);(try clear hk);(try clear hi))))
             go_ret2
             exact ⟨by first|rfl|(simp [errW_none,errW_some] <;> rfl)|(simp only [← hji15];first|rfl|(simp [errW_none,errW_some] <;> rfl))|(simp [*,errW_none,errW_some] <;> rfl),by repeat (first|(with_reducible first|exact HB.out|apply below_alloc|apply pw_below_drewN|apply below_drew1|refine below_set ?_ GE518.out)|exact HB.out)⟩
            ·rw [if_neg c17] at H
             have c17b0:((wrap64 ((ji15) - t523)) == 0)=false:=beq_eq_false_iff_ne.mpr c17
             have c17b1:((wrap64 ((ji15) - t523)) != 0)=true:=bne_iff_ne.mpr c17
             by_cases c20:x6_1=0
             ·rw [if_pos c20] at H
              have c20b0:(x6_1 == 0)=true:=beq_iff_eq.mpr c20
              have c20b1:(x6_1 != 0)=false:=bne_eq_false_iff_eq.mpr c20
              clear c20
              by_cases c21:x7_2=1
              ·rw [if_pos c21] at H
               have c21b0:(x7_2 == 1)=true:=beq_iff_eq.mpr c21
               have c21b1:(x7_2 != 1)=false:=bne_eq_false_iff_eq.mpr c21
               clear c21
               have H':=Aside0.mk H
               clear H
               have hcz22_0:wr.cell? ⟨gb518,0,none⟩=some (.int .i64 a0_0):=(blk_cell BK518.out 0).trans rfl
               have hcz22_1:wr.cell? ⟨gb518,1,none⟩=some (.slice A0_1 l0_1.length c0_1):=(blk_cell BK518.out 1).trans rfl
               have hcz22_2:wr.cell? ⟨gb518,2,none⟩=some (.slice (some ad520) l0_2.length c0_2):=(blk_cell BK518.out 2).trans rfl
               have hfz22_0:=blk_frozen BK518.out 0
               have hfz22_1:=blk_frozen BK518.out 1
               have hfz22_2:=blk_frozen BK518.out 2
               have p521:0≤(x6_1:Int):=of_decide_eq_true (by first|(with_reducible assumption)|assumption)
               have q521:x6_1<(l0_2.length:Int):=of_decide_eq_true (by first|(with_reducible assumption)|assumption)
               obtain ⟨ad521,A521_1,c521_1,e521,hx521_0,hx521_1,hl521_1,hi521_1⟩:=at_T62 HR0_2.out x6_1 p521 q521
               obtain rfl:ad520=ad521:=(by injection e521)
               replace hx521_0:=(HB.out.cell (World.block_lt_of_cell? w _ hx521_0)).trans hx521_0
               replace hx521_1:=(HB.out.cell (World.block_lt_of_cell? w _ hx521_1)).trans hx521_1
               have HR521_1:=Aside0.mk hi521_1
               have HC521_1:=Aside0.mk hl521_1
               clear hi521_1 hl521_1
               replace p521:=eq_true p521
               replace q521:=eq_true q521
               have p522:0≤(x7_2:Int):=of_decide_eq_true (by first|(with_reducible assumption)|assumption)
               have q522:x7_2<(l0_2.length:Int):=of_decide_eq_true (by first|(with_reducible assumption)|assumption)
               obtain ⟨ad522,A522_1,c522_1,e522,hx522_0,hx522_1,hl522_1,hi522_1⟩:=at_T62 HR0_2.out x7_2 p522 q522
               obtain rfl:ad520=ad522:=(by injection e522)
               replace hx522_0:=(HB.out.cell (World.block_lt_of_cell? w _ hx522_0)).trans hx522_0
               replace hx522_1:=(HB.out.cell (World.block_lt_of_cell? w _ hx522_1)).trans hx522_1
               have HR522_1:=Aside0.mk hi522_1
               have HC522_1:=Aside0.mk hl522_1
               clear hi522_1 hl522_1
               replace p522:=eq_true p522
               replace q522:=eq_true q522
               go_wp2_with (first|(go_at_call 79;(with_reducible refine (saronref09_share.calls k2 _ _ ((rd_T62 l0_2 x6_1).f1) _ _ ((rd_T62 l0_2 x7_2).f1) t523 _ ?side1 ?side2 ?side3 ?side4 A16.out).mono ?_);(case side1=>repeat (first|exact (Kd.C_below HR521_1.out HB.out)|(with_reducible refine Kd.C_alloc ?_ _)|(with_reducible refine Kd.C_drewN ?_ _)|(with_reducible refine Kd.C_drew ?_)));(case side2=>exact HC521_1.out);(case side3=>repeat (first|exact (Kd.C_below HR522_1.out HB.out)|(with_reducible refine Kd.C_alloc ?_ _)|(with_reducible refine Kd.C_drewN ?_ _)|(with_reducible refine Kd.C_drew ?_)));(case side4=>exact HC522_1.out);rintro e w23 ⟨rfl,hb⟩;have n0_:=Aside0.mk (blk_below (g:=gb518) (o:=.cells #[.int .i64 a0_0,.slice A0_1 l0_1.length c0_1,.slice (some ad520) l0_2.length c0_2] 27 (0,0)) (by (with_reducible repeat (first|refine blk_drewN ?_ _|refine blk_drew ?_|refine blk_alloc ?_ _));exact BK518.out) hb);have n1_:=Aside0.mk (below_step (by repeat (first|(with_reducible first|exact HB.out|apply below_alloc|apply pw_below_drewN|apply below_drew1|refine below_set ?_ GE518.out)|exact HB.out)) hb);clear BK518;clear HB;have BK518:=n0_;have HB:=n1_;clear n0_ n1_;(try clear hb);(try clear hb2);(try clear hk);(try clear hi)))
               repeat (go_quiet (first|(go_at_call 79;(with_reducible refine (saronref09_share.calls k2 _ _ ((rd_T62 l0_2 x6_1).f1) _ _ ((rd_T62 l0_2 x7_2).f1) t523 _ ?side1 ?side2 ?side3 ?side4 A16.out).mono ?_);(case side1=>repeat (first|exact (Kd.C_below HR521_1.out HB.out)|(with_reducible refine Kd.C_alloc ?_ _)|(with_reducible refine Kd.C_drewN ?_ _)|(with_reducible refine Kd.C_drew ?_)));(case side2=>exact HC521_1.out);(case side3=>repeat (first|exact (Kd.C_below HR522_1.out HB.out)|(with_reducible refine Kd.C_alloc ?_ _)|(with_reducible refine Kd.C_drewN ?_ _)|(with_reducible refine Kd.C_drew ?_)));(case side4=>exact HC522_1.out);rintro e w23 ⟨rfl,hb⟩;have n0_:=Aside0.mk (blk_below (g:=gb518) (o:=.cells #[.int .i64 a0_0,.slice A0_1 l0_1.length c0_1,.slice (some ad520) l0_2.length c0_2] 27 (0,0)) (by (with_reducible repeat (first|refine blk_drewN ?_ _|refine blk_drew ?_|refine blk_alloc ?_ _));exact BK518.out) hb);have n1_:=Aside0.mk (below_step (by repeat (first|(with_reducible first|exact HB.out|apply below_alloc|apply pw_below_drewN|apply below_drew1|refine below_set ?_ GE518.out)|exact HB.out)) hb);clear BK518;clear HB;have BK518:=n0_;have HB:=n1_;clear n0_ n1_;(try clear hb);(try clear hb2);(try clear hk);(try clear hi)));try go_wp2_with (first|(go_at_call 79;(with_reducible refine (saronref09_share.calls k2 _ _ ((rd_T62 l0_2 x6_1).f1) _ _ ((rd_T62 l0_2 x7_2).f1) t523 _ ?side1 ?side2 ?side3 ?side4 A16.out).mono ?_);(case side1=>repeat (first|exact (Kd.C_below HR521_1.out HB.out)|(with_reducible refine Kd.C_alloc ?_ _)|(with_reducible refine Kd.C_drewN ?_ _)|(with_reducible refine Kd.C_drew ?_)));(case side2=>exact HC521_1.out);(case side3=>repeat (first|exact (Kd.C_below HR522_1.out HB.out)|(with_reducible refine Kd.C_alloc ?_ _)|(with_reducible refine Kd.C_drewN ?_ _)|(with_reducible refine Kd.C_drew ?_)));(case side4=>exact HC522_1.out);rintro e w23 ⟨rfl,hb⟩;have n0_:=Aside0.mk (blk_below (g:=gb518) (o:=.cells #[.int .i64 a0_0,.slice A0_1 l0_1.length c0_1,.slice (some ad520) l0_2.length c0_2] 27 (0,0)) (by (with_reducible repeat (first|refine blk_drewN ?_ _|refine blk_drew ?_|refine blk_alloc ?_ _));exact BK518.out) hb);have n1_:=Aside0.mk (below_step (by repeat (first|(with_reducible first|exact HB.out|apply below_alloc|apply pw_below_drewN|apply below_drew1|refine below_set ?_ GE518.out)|exact HB.out)) hb);clear BK518;clear HB;have BK518:=n0_;have HB:=n1_;clear n0_ n1_;(try clear hb);(try clear hb2);(try clear hk);(try clear hi))))
               go_roundg k2
               case measure=>have:=HK1.out;have:=HK2.out;omega
               case rel=>exact ⟨(wrap64 ((wrap64 ((ji15) - t523)) - 1)),(wrap64 (x7_2+1)),(by first|rfl|(simp;done)|(simp only [← hji15] <;> (first|rfl|simp))|(simp [*];done)),(by first|rfl|(simp;done)|(simp [*];done)),H',⟨by have:=HK1.out;have:=HK2.out;omega⟩,⟨by (with_reducible repeat (first|refine blk_drewN ?_ _|refine blk_drew ?_|refine blk_alloc ?_ _));exact BK518.out⟩,⟨by repeat (first|(with_reducible first|exact HB.out|apply below_alloc|apply pw_below_drewN|apply below_drew1|refine below_set ?_ GE518.out)|exact HB.out)⟩⟩
              ·rw [if_neg c21] at H
               have c21b0:(x7_2 == 1)=false:=beq_eq_false_iff_ne.mpr c21
               have c21b1:(x7_2 != 1)=true:=bne_iff_ne.mpr c21
               by_cases c24:(wrap64 ((wrap64 ((ji15) - t523)) - 1))<x5_2
               ·rw [if_pos c24] at H
                have c24b0:decide ((wrap64 ((wrap64 ((ji15) - t523)) - 1))<x5_2)=true:=decide_eq_true c24
                clear c24
                have H':=Aside0.mk H
                clear H
                have hcz25_0:wr.cell? ⟨gb518,0,none⟩=some (.int .i64 a0_0):=(blk_cell BK518.out 0).trans rfl
                have hcz25_1:wr.cell? ⟨gb518,1,none⟩=some (.slice A0_1 l0_1.length c0_1):=(blk_cell BK518.out 1).trans rfl
                have hcz25_2:wr.cell? ⟨gb518,2,none⟩=some (.slice (some ad520) l0_2.length c0_2):=(blk_cell BK518.out 2).trans rfl
                have hfz25_0:=blk_frozen BK518.out 0
                have hfz25_1:=blk_frozen BK518.out 1
                have hfz25_2:=blk_frozen BK518.out 2
                have p521:0≤(x6_1:Int):=of_decide_eq_true (by first|(with_reducible assumption)|assumption)
                have q521:x6_1<(l0_2.length:Int):=of_decide_eq_true (by first|(with_reducible assumption)|assumption)
                obtain ⟨ad521,A521_1,c521_1,e521,hx521_0,hx521_1,hl521_1,hi521_1⟩:=at_T62 HR0_2.out x6_1 p521 q521
                obtain rfl:ad520=ad521:=(by injection e521)
                replace hx521_0:=(HB.out.cell (World.block_lt_of_cell? w _ hx521_0)).trans hx521_0
                replace hx521_1:=(HB.out.cell (World.block_lt_of_cell? w _ hx521_1)).trans hx521_1
                have HR521_1:=Aside0.mk hi521_1
                have HC521_1:=Aside0.mk hl521_1
                clear hi521_1 hl521_1
                replace p521:=eq_true p521
                replace q521:=eq_true q521
                have p522:0≤(x7_2:Int):=of_decide_eq_true (by first|(with_reducible assumption)|assumption)
                have q522:x7_2<(l0_2.length:Int):=of_decide_eq_true (by first|(with_reducible assumption)|assumption)
                obtain ⟨ad522,A522_1,c522_1,e522,hx522_0,hx522_1,hl522_1,hi522_1⟩:=at_T62 HR0_2.out x7_2 p522 q522
                obtain rfl:ad520=ad522:=(by injection e522)
                replace hx522_0:=(HB.out.cell (World.block_lt_of_cell? w _ hx522_0)).trans hx522_0
                replace hx522_1:=(HB.out.cell (World.block_lt_of_cell? w _ hx522_1)).trans hx522_1
                have HR522_1:=Aside0.mk hi522_1
                have HC522_1:=Aside0.mk hl522_1
                clear hi522_1 hl522_1
                replace p522:=eq_true p522
                replace q522:=eq_true q522
                go_wp2_with (first|(go_at_call 79;(with_reducible refine (saronref09_share.calls k2 _ _ ((rd_T62 l0_2 x6_1).f1) _ _ ((rd_T62 l0_2 x7_2).f1) t523 _ ?side1 ?side2 ?side3 ?side4 A16.out).mono ?_);(case side1=>repeat (first|exact (Kd.C_below HR521_1.out HB.out)|(with_reducible refine Kd.C_alloc ?_ _)|(with_reducible refine Kd.C_drewN ?_ _)|(with_reducible refine Kd.C_drew ?_)));(case side2=>exact HC521_1.out);(case side3=>repeat (first|exact (Kd.C_below HR522_1.out HB.out)|(with_reducible refine Kd.C_alloc ?_ _)|(with_reducible refine Kd.C_drewN ?_ _)|(with_reducible refine Kd.C_drew ?_)));(case side4=>exact HC522_1.out);rintro e w26 ⟨rfl,hb⟩;have n0_:=Aside0.mk (blk_below (g:=gb518) (o:=.cells #[.int .i64 a0_0,.slice A0_1 l0_1.length c0_1,.slice (some ad520) l0_2.length c0_2] 27 (0,0)) (by (with_reducible repeat (first|refine blk_drewN ?_ _|refine blk_drew ?_|refine blk_alloc ?_ _));exact BK518.out) hb);have n1_:=Aside0.mk (below_step (by repeat (first|(with_reducible first|exact HB.out|apply below_alloc|apply pw_below_drewN|apply below_drew1|refine below_set ?_ GE518.out)|exact HB.out)) hb);clear BK518;clear HB;have BK518:=n0_;have HB:=n1_;clear n0_ n1_;(try clear hb);(try clear hb2);(try clear hk);(try clear hi)))
                repeat (go_quiet (first|(go_at_call 79;(with_reducible refine (saronref09_share.calls k2 _ _ ((rd_T62 l0_2 x6_1).f1) _ _ ((rd_T62 l0_2 x7_2).f1) t523 _ ?side1 ?side2 ?side3 ?side4 A16.out).mono ?_);(case side1=>repeat (first|exact (Kd.C_below HR521_1.out HB.out)|(with_reducible refine Kd.C_alloc ?_ _)|(with_reducible refine Kd.C_drewN ?_ _)|(with_reducible refine Kd.C_drew ?_)));(case side2=>exact HC521_1.out);(case side3=>repeat (first|exact (Kd.C_below HR522_1.out HB.out)|(with_reducible refine Kd.C_alloc ?_ _)|(with_reducible refine Kd.C_drewN ?_ _)|(with_reducible refine Kd.C_drew ?_)));(case side4=>exact HC522_1.out);rintro e w26 ⟨rfl,hb⟩;have n0_:=Aside0.mk (blk_below (g:=gb518) (o:=.cells #[.int .i64 a0_0,.slice A0_1 l0_1.length c0_1,.slice (some ad520) l0_2.length c0_2] 27 (0,0)) (by (with_reducible repeat (first|refine blk_drewN ?_ _|refine blk_drew ?_|refine blk_alloc ?_ _));exact BK518.out) hb);have n1_:=Aside0.mk (below_step (by repeat (first|(with_reducible first|exact HB.out|apply below_alloc|apply pw_below_drewN|apply below_drew1|refine below_set ?_ GE518.out)|exact HB.out)) hb);clear BK518;clear HB;have BK518:=n0_;have HB:=n1_;clear n0_ n1_;(try clear hb);(try clear hb2);(try clear hk);(try clear hi)));try go_wp2_with (first|(go_at_call 79;(with_reducible refine (saronref09_share.calls k2 _ _ ((rd_T62 l0_2 x6_1).f1) _ _ ((rd_T62 l0_2 x7_2).f1) t523 _ ?side1 ?side2 ?side3 ?side4 A16.out).mono ?_);(case side1=>repeat (first|exact (Kd.C_below HR521_1.out HB.out)|(with_reducible refine Kd.C_alloc ?_ _)|(with_reducible refine Kd.C_drewN ?_ _)|(with_reducible refine Kd.C_drew ?_)));(case side2=>exact HC521_1.out);(case side3=>repeat (first|exact (Kd.C_below HR522_1.out HB.out)|(with_reducible refine Kd.C_alloc ?_ _)|(with_reducible refine Kd.C_drewN ?_ _)|(with_reducible refine Kd.C_drew ?_)));(case side4=>exact HC522_1.out);rintro e w26 ⟨rfl,hb⟩;have n0_:=Aside0.mk (blk_below (g:=gb518) (o:=.cells #[.int .i64 a0_0,.slice A0_1 l0_1.length c0_1,.slice (some ad520) l0_2.length c0_2] 27 (0,0)) (by (with_reducible repeat (first|refine blk_drewN ?_ _|refine blk_drew ?_|refine blk_alloc ?_ _));exact BK518.out) hb);have n1_:=Aside0.mk (below_step (by repeat (first|(with_reducible first|exact HB.out|apply below_alloc|apply pw_below_drewN|apply below_drew1|refine below_set ?_ GE518.out)|exact HB.out)) hb);clear BK518;clear HB;have BK518:=n0_;have HB:=n1_;clear n0_ n1_;(try clear hb);(try clear hb2);(try clear hk);(try clear hi))))
                go_roundg k2
                case measure=>have:=HK1.out;have:=HK2.out;omega
                case rel=>exact ⟨(wrap64 ((wrap64 ((ji15) - t523)) - 1)),(wrap64 (x7_2+1)),(by first|rfl|(simp;done)|(simp only [← hji15] <;> (first|rfl|simp))|(simp [*];done)),(by first|rfl|(simp;done)|(simp [*];done)),H',⟨by have:=HK1.out;have:=HK2.out;omega⟩,⟨by (with_reducible repeat (first|refine blk_drewN ?_ _|refine blk_drew ?_|refine blk_alloc ?_ _));exact BK518.out⟩,⟨by repeat (first|(with_reducible first|exact HB.out|apply below_alloc|apply pw_below_drewN|apply below_drew1|refine below_set ?_ GE518.out)|exact HB.out)⟩⟩
               ·rw [if_neg c24] at H
                have c24b0:decide ((wrap64 ((wrap64 ((ji15) - t523)) - 1))<x5_2)=false:=decide_eq_false c24
                clear c24
                have H':=Aside0.mk H
                clear H
                have hcz27_0:wr.cell? ⟨gb518,0,none⟩=some (.int .i64 a0_0):=(blk_cell BK518.out 0).trans rfl
                have hcz27_1:wr.cell? ⟨gb518,1,none⟩=some (.slice A0_1 l0_1.length c0_1):=(blk_cell BK518.out 1).trans rfl
                have hcz27_2:wr.cell? ⟨gb518,2,none⟩=some (.slice (some ad520) l0_2.length c0_2):=(blk_cell BK518.out 2).trans rfl
                have hfz27_0:=blk_frozen BK518.out 0
                have hfz27_1:=blk_frozen BK518.out 1
                have hfz27_2:=blk_frozen BK518.out 2
                have p521:0≤(x6_1:Int):=of_decide_eq_true (by first|(with_reducible assumption)|assumption)
                have q521:x6_1<(l0_2.length:Int):=of_decide_eq_true (by first|(with_reducible assumption)|assumption)
                obtain ⟨ad521,A521_1,c521_1,e521,hx521_0,hx521_1,hl521_1,hi521_1⟩:=at_T62 HR0_2.out x6_1 p521 q521
                obtain rfl:ad520=ad521:=(by injection e521)
                replace hx521_0:=(HB.out.cell (World.block_lt_of_cell? w _ hx521_0)).trans hx521_0
                replace hx521_1:=(HB.out.cell (World.block_lt_of_cell? w _ hx521_1)).trans hx521_1
                have HR521_1:=Aside0.mk hi521_1
                have HC521_1:=Aside0.mk hl521_1
                clear hi521_1 hl521_1
                replace p521:=eq_true p521
                replace q521:=eq_true q521
                have p522:0≤(x7_2:Int):=of_decide_eq_true (by first|(with_reducible assumption)|assumption)
                have q522:x7_2<(l0_2.length:Int):=of_decide_eq_true (by first|(with_reducible assumption)|assumption)
                obtain ⟨ad522,A522_1,c522_1,e522,hx522_0,hx522_1,hl522_1,hi522_1⟩:=at_T62 HR0_2.out x7_2 p522 q522
                obtain rfl:ad520=ad522:=(by injection e522)
                replace hx522_0:=(HB.out.cell (World.block_lt_of_cell? w _ hx522_0)).trans hx522_0
                replace hx522_1:=(HB.out.cell (World.block_lt_of_cell? w _ hx522_1)).trans hx522_1
                have HR522_1:=Aside0.mk hi522_1
                have HC522_1:=Aside0.mk hl522_1
                clear hi522_1 hl522_1
                replace p522:=eq_true p522
                replace q522:=eq_true q522
                go_wp2_with (first|(go_at_call 79;(with_reducible refine (saronref09_share.calls k2 _ _ ((rd_T62 l0_2 x6_1).f1) _ _ ((rd_T62 l0_2 x7_2).f1) t523 _ ?side1 ?side2 ?side3 ?side4 A16.out).mono ?_);(case side1=>repeat (first|exact (Kd.C_below HR521_1.out HB.out)|(with_reducible refine Kd.C_alloc ?_ _)|(with_reducible refine Kd.C_drewN ?_ _)|(with_reducible refine Kd.C_drew ?_)));(case side2=>exact HC521_1.out);(case side3=>repeat (first|exact (Kd.C_below HR522_1.out HB.out)|(with_reducible refine Kd.C_alloc ?_ _)|(with_reducible refine Kd.C_drewN ?_ _)|(with_reducible refine Kd.C_drew ?_)));(case side4=>exact HC522_1.out);rintro e w28 ⟨rfl,hb⟩;have n0_:=Aside0.mk (blk_below (g:=gb518) (o:=.cells #[.int .i64 a0_0,.slice A0_1 l0_1.length c0_1,.slice (some ad520) l0_2.length c0_2] 27 (0,0)) (by (with_reducible repeat (first|refine blk_drewN ?_ _|refine blk_drew ?_|refine blk_alloc ?_ _));exact BK518.out) hb);have n1_:=Aside0.mk (below_step (by repeat (first|(with_reducible first|exact HB.out|apply below_alloc|apply pw_below_drewN|apply below_drew1|refine below_set ?_ GE518.out)|exact HB.out)) hb);clear BK518;clear HB;have BK518:=n0_;have HB:=n1_;clear n0_ n1_;(try clear hb);(try clear hb2);(try clear hk);(try clear hi)))
                repeat (go_quiet (first|(go_at_call 79;(with_reducible refine (saronref09_share.calls k2 _ _ ((rd_T62 l0_2 x6_1).f1) _ _ ((rd_T62 l0_2 x7_2).f1) t523 _ ?side1 ?side2 ?side3 ?side4 A16.out).mono ?_);(case side1=>repeat (first|exact (Kd.C_below HR521_1.out HB.out)|(with_reducible refine Kd.C_alloc ?_ _)|(with_reducible refine Kd.C_drewN ?_ _)|(with_reducible refine Kd.C_drew ?_)));(case side2=>exact HC521_1.out);(case side3=>repeat (first|exact (Kd.C_below HR522_1.out HB.out)|(with_reducible refine Kd.C_alloc ?_ _)|(with_reducible refine Kd.C_drewN ?_ _)|(with_reducible refine Kd.C_drew ?_)));(case side4=>exact HC522_1.out);rintro e w28 ⟨rfl,hb⟩;have n0_:=Aside0.mk (blk_below (g:=gb518) (o:=.cells #[.int .i64 a0_0,.slice A0_1 l0_1.length c0_1,.slice (some ad520) l0_2.length c0_2] 27 (0,0)) (by (with_reducible repeat (first|refine blk_drewN ?_ _|refine blk_drew ?_|refine blk_alloc ?_ _));exact BK518.out) hb);have n1_:=Aside0.mk (below_step (by repeat (first|(with_reducible first|exact HB.out|apply below_alloc|apply pw_below_drewN|apply below_drew1|refine below_set ?_ GE518.out)|exact HB.out)) hb);clear BK518;clear HB;have BK518:=n0_;have HB:=n1_;clear n0_ n1_;(try clear hb);(try clear hb2);(try clear hk);(try clear hi)));try go_wp2_with (first|(go_at_call 79;(with_reducible refine (saronref09_share.calls k2 _ _ ((rd_T62 l0_2 x6_1).f1) _ _ ((rd_T62 l0_2 x7_2).f1) t523 _ ?side1 ?side2 ?side3 ?side4 A16.out).mono ?_);(case side1=>repeat (first|exact (Kd.C_below HR521_1.out HB.out)|(with_reducible refine Kd.C_alloc ?_ _)|(with_reducible refine Kd.C_drewN ?_ _)|(with_reducible refine Kd.C_drew ?_)));(case side2=>exact HC521_1.out);(case side3=>repeat (first|exact (Kd.C_below HR522_1.out HB.out)|(with_reducible refine Kd.C_alloc ?_ _)|(with_reducible refine Kd.C_drewN ?_ _)|(with_reducible refine Kd.C_drew ?_)));(case side4=>exact HC522_1.out);rintro e w28 ⟨rfl,hb⟩;have n0_:=Aside0.mk (blk_below (g:=gb518) (o:=.cells #[.int .i64 a0_0,.slice A0_1 l0_1.length c0_1,.slice (some ad520) l0_2.length c0_2] 27 (0,0)) (by (with_reducible repeat (first|refine blk_drewN ?_ _|refine blk_drew ?_|refine blk_alloc ?_ _));exact BK518.out) hb);have n1_:=Aside0.mk (below_step (by repeat (first|(with_reducible first|exact HB.out|apply below_alloc|apply pw_below_drewN|apply below_drew1|refine below_set ?_ GE518.out)|exact HB.out)) hb);clear BK518;clear HB;have BK518:=n0_;have HB:=n1_;clear n0_ n1_;(try clear hb);(try clear hb2);(try clear hk);(try clear hi))))
                go_roundg k2
                case measure=>have:=HK1.out;have:=HK2.out;omega
                case rel=>exact ⟨(x5_2),(wrap64 (x7_2+1)),(by first|rfl|(simp;done)|(simp [*];done)),(by first|rfl|(simp;done)|(simp [*];done)),H',⟨by have:=HK1.out;have:=HK2.out;omega⟩,⟨by (with_reducible repeat (first|refine blk_drewN ?_ _|refine blk_drew ?_|refine blk_alloc ?_ _));exact BK518.out⟩,⟨by repeat (first|(with_reducible first|exact HB.out|apply below_alloc|apply pw_below_drewN|apply below_drew1|refine below_set ?_ GE518.out)|exact HB.out)⟩⟩
             ·rw [if_neg c20] at H
              have c20b0:(x6_1 == 0)=false:=beq_eq_false_iff_ne.mpr c20
              have c20b1:(x6_1 != 0)=true:=bne_iff_ne.mpr c20
              by_cases c29:(wrap64 ((wrap64 ((ji15) - t523)) - 1))<x5_2
              ·rw [if_pos c29] at H
               have c29b0:decide ((wrap64 ((wrap64 ((ji15) - t523)) - 1))<x5_2)=true:=decide_eq_true c29
               clear c29
               have H':=Aside0.mk H
               clear H
               have hcz30_0:wr.cell? ⟨gb518,0,none⟩=some (.int .i64 a0_0):=(blk_cell BK518.out 0).trans rfl
               have hcz30_1:wr.cell? ⟨gb518,1,none⟩=some (.slice A0_1 l0_1.length c0_1):=(blk_cell BK518.out 1).trans rfl
               have hcz30_2:wr.cell? ⟨gb518,2,none⟩=some (.slice (some ad520) l0_2.length c0_2):=(blk_cell BK518.out 2).trans rfl
               have hfz30_0:=blk_frozen BK518.out 0
               have hfz30_1:=blk_frozen BK518.out 1
               have hfz30_2:=blk_frozen BK518.out 2
               have p521:0≤(x6_1:Int):=of_decide_eq_true (by first|(with_reducible assumption)|assumption)
               have q521:x6_1<(l0_2.length:Int):=of_decide_eq_true (by first|(with_reducible assumption)|assumption)
               obtain ⟨ad521,A521_1,c521_1,e521,hx521_0,hx521_1,hl521_1,hi521_1⟩:=at_T62 HR0_2.out x6_1 p521 q521
               obtain rfl:ad520=ad521:=(by injection e521)
               replace hx521_0:=(HB.out.cell (World.block_lt_of_cell? w _ hx521_0)).trans hx521_0
               replace hx521_1:=(HB.out.cell (World.block_lt_of_cell? w _ hx521_1)).trans hx521_1
               have HR521_1:=Aside0.mk hi521_1
               have HC521_1:=Aside0.mk hl521_1
               clear hi521_1 hl521_1
               replace p521:=eq_true p521
               replace q521:=eq_true q521
               have p522:0≤(x7_2:Int):=of_decide_eq_true (by first|(with_reducible assumption)|assumption)
               have q522:x7_2<(l0_2.length:Int):=of_decide_eq_true (by first|(with_reducible assumption)|assumption)
               obtain ⟨ad522,A522_1,c522_1,e522,hx522_0,hx522_1,hl522_1,hi522_1⟩:=at_T62 HR0_2.out x7_2 p522 q522
               obtain rfl:ad520=ad522:=(by injection e522)
               replace hx522_0:=(HB.out.cell (World.block_lt_of_cell? w _ hx522_0)).trans hx522_0
               replace hx522_1:=(HB.out.cell (World.block_lt_of_cell? w _ hx522_1)).trans hx522_1
               have HR522_1:=Aside0.mk hi522_1
               have HC522_1:=Aside0.mk hl522_1
               clear hi522_1 hl522_1
               replace p522:=eq_true p522
               replace q522:=eq_true q522
               go_wp2_with (first|(go_at_call 79;(with_reducible refine (saronref09_share.calls k2 _ _ ((rd_T62 l0_2 x6_1).f1) _ _ ((rd_T62 l0_2 x7_2).f1) t523 _ ?side1 ?side2 ?side3 ?side4 A16.out).mono ?_);(case side1=>repeat (first|exact (Kd.C_below HR521_1.out HB.out)|(with_reducible refine Kd.C_alloc ?_ _)|(with_reducible refine Kd.C_drewN ?_ _)|(with_reducible refine Kd.C_drew ?_)));(case side2=>exact HC521_1.out);(case side3=>repeat (first|exact (Kd.C_below HR522_1.out HB.out)|(with_reducible refine Kd.C_alloc ?_ _)|(with_reducible refine Kd.C_drewN ?_ _)|(with_reducible refine Kd.C_drew ?_)));(case side4=>exact HC522_1.out);rintro e w31 ⟨rfl,hb⟩;have n0_:=Aside0.mk (blk_below (g:=gb518) (o:=.cells #[.int .i64 a0_0,.slice A0_1 l0_1.length c0_1,.slice (some ad520) l0_2.length c0_2] 27 (0,0)) (by (with_reducible repeat (first|refine blk_drewN ?_ _|refine blk_drew ?_|refine blk_alloc ?_ _));exact BK518.out) hb);have n1_:=Aside0.mk (below_step (by repeat (first|(with_reducible first|exact HB.out|apply below_alloc|apply pw_below_drewN|apply below_drew1|refine below_set ?_ GE518.out)|exact HB.out)) hb);clear BK518;clear HB;have BK518:=n0_;have HB:=n1_;clear n0_ n1_;(try clear hb);(try clear hb2);(try clear hk);(try clear hi)))
               repeat (go_quiet (first|(go_at_call 79;(with_reducible refine (saronref09_share.calls k2 _ _ ((rd_T62 l0_2 x6_1).f1) _ _ ((rd_T62 l0_2 x7_2).f1) t523 _ ?side1 ?side2 ?side3 ?side4 A16.out).mono ?_);(case side1=>repeat (first|exact (Kd.C_below HR521_1.out HB.out)|(with_reducible refine Kd.C_alloc ?_ _)|(with_reducible refine Kd.C_drewN ?_ _)|(with_reducible refine Kd.C_drew ?_)));(case side2=>exact HC521_1.out);(case side3=>repeat (first|exact (Kd.C_below HR522_1.out HB.out)|(with_reducible refine Kd.C_alloc ?_ _)|(with_reducible refine Kd.C_drewN ?_ _)|(with_reducible refine Kd.C_drew ?_)));(case side4=>exact HC522_1.out);rintro e w31 ⟨rfl,hb⟩;have n0_:=Aside0.mk (blk_below (g:=gb518) (o:=.cells #[.int .i64 a0_0,.slice A0_1 l0_1.length c0_1,.slice (some ad520) l0_2.length c0_2] 27 (0,0)) (by (with_reducible repeat (first|refine blk_drewN ?_ _|refine blk_drew ?_|refine blk_alloc ?_ _));exact BK518.out) hb);have n1_:=Aside0.mk (below_step (by repeat (first|(with_reducible first|exact HB.out|apply below_alloc|apply pw_below_drewN|apply below_drew1|refine below_set ?_ GE518.out)|exact HB.out)) hb);clear BK518;clear HB;have BK518:=n0_;have HB:=n1_;clear n0_ n1_;(try clear hb);(try clear hb2);(try clear hk);(try clear hi)));try go_wp2_with (first|(go_at_call 79;(with_reducible refine (saronref09_share.calls k2 _ _ ((rd_T62 l0_2 x6_1).f1) _ _ ((rd_T62 l0_2 x7_2).f1) t523 _ ?side1 ?side2 ?side3 ?side4 A16.out).mono ?_);(case side1=>repeat (first|exact (Kd.C_below HR521_1.out HB.out)|(with_reducible refine Kd.C_alloc ?_ _)|(with_reducible refine Kd.C_drewN ?_ _)|(with_reducible refine Kd.C_drew ?_)));(case side2=>exact HC521_1.out);(case side3=>repeat (first|exact (Kd.C_below HR522_1.out HB.out)|(with_reducible refine Kd.C_alloc ?_ _)|(with_reducible refine Kd.C_drewN ?_ _)|(with_reducible refine Kd.C_drew ?_)));(case side4=>exact HC522_1.out);rintro e w31 ⟨rfl,hb⟩;have n0_:=Aside0.mk (blk_below (g:=gb518) (o:=.cells #[.int .i64 a0_0,.slice A0_1 l0_1.length c0_1,.slice (some ad520) l0_2.length c0_2] 27 (0,0)) (by (with_reducible repeat (first|refine blk_drewN ?_ _|refine blk_drew ?_|refine blk_alloc ?_ _));exact BK518.out) hb);have n1_:=Aside0.mk (below_step (by repeat (first|(with_reducible first|exact HB.out|apply below_alloc|apply pw_below_drewN|apply below_drew1|refine below_set ?_ GE518.out)|exact HB.out)) hb);clear BK518;clear HB;have BK518:=n0_;have HB:=n1_;clear n0_ n1_;(try clear hb);(try clear hb2);(try clear hk);(try clear hi))))
               go_roundg k2
               case measure=>have:=HK1.out;have:=HK2.out;omega
               case rel=>exact ⟨(wrap64 ((wrap64 ((ji15) - t523)) - 1)),(wrap64 (x7_2+1)),(by first|rfl|(simp;done)|(simp only [← hji15] <;> (first|rfl|simp))|(simp [*];done)),(by first|rfl|(simp;done)|(simp [*];done)),H',⟨by have:=HK1.out;have:=HK2.out;omega⟩,⟨by (with_reducible repeat (first|refine blk_drewN ?_ _|refine blk_drew ?_|refine blk_alloc ?_ _));exact BK518.out⟩,⟨by repeat (first|(with_reducible first|exact HB.out|apply below_alloc|apply pw_below_drewN|apply below_drew1|refine below_set ?_ GE518.out)|exact HB.out)⟩⟩
              ·rw [if_neg c29] at H
               have c29b0:decide ((wrap64 ((wrap64 ((ji15) - t523)) - 1))<x5_2)=false:=decide_eq_false c29
               clear c29
               have H':=Aside0.mk H
               clear H
               have hcz32_0:wr.cell? ⟨gb518,0,none⟩=some (.int .i64 a0_0):=(blk_cell BK518.out 0).trans rfl
               have hcz32_1:wr.cell? ⟨gb518,1,none⟩=some (.slice A0_1 l0_1.length c0_1):=(blk_cell BK518.out 1).trans rfl
               have hcz32_2:wr.cell? ⟨gb518,2,none⟩=some (.slice (some ad520) l0_2.length c0_2):=(blk_cell BK518.out 2).trans rfl
               have hfz32_0:=blk_frozen BK518.out 0
               have hfz32_1:=blk_frozen BK518.out 1
               have hfz32_2:=blk_frozen BK518.out 2
               have p521:0≤(x6_1:Int):=of_decide_eq_true (by first|(with_reducible assumption)|assumption)
               have q521:x6_1<(l0_2.length:Int):=of_decide_eq_true (by first|(with_reducible assumption)|assumption)
               obtain ⟨ad521,A521_1,c521_1,e521,hx521_0,hx521_1,hl521_1,hi521_1⟩:=at_T62 HR0_2.out x6_1 p521 q521
               obtain rfl:ad520=ad521:=(by injection e521)
               replace hx521_0:=(HB.out.cell (World.block_lt_of_cell? w _ hx521_0)).trans hx521_0
               replace hx521_1:=(HB.out.cell (World.block_lt_of_cell? w _ hx521_1)).trans hx521_1
               have HR521_1:=Aside0.mk hi521_1
               have HC521_1:=Aside0.mk hl521_1
               clear hi521_1 hl521_1
               replace p521:=eq_true p521
               replace q521:=eq_true q521
               have p522:0≤(x7_2:Int):=of_decide_eq_true (by first|(with_reducible assumption)|assumption)
               have q522:x7_2<(l0_2.length:Int):=of_decide_eq_true (by first|(with_reducible assumption)|assumption)
               obtain ⟨ad522,A522_1,c522_1,e522,hx522_0,hx522_1,hl522_1,hi522_1⟩:=at_T62 HR0_2.out x7_2 p522 q522
               obtain rfl:ad520=ad522:=(by injection e522)
               replace hx522_0:=(HB.out.cell (World.block_lt_of_cell? w _ hx522_0)).trans hx522_0
               replace hx522_1:=(HB.out.cell (World.block_lt_of_cell? w _ hx522_1)).trans hx522_1
               have HR522_1:=Aside0.mk hi522_1
               have HC522_1:=Aside0.mk hl522_1
               clear hi522_1 hl522_1
               replace p522:=eq_true p522
               replace q522:=eq_true q522
               go_wp2_with (first|(go_at_call 79;(with_reducible refine (saronref09_share.calls k2 _ _ ((rd_T62 l0_2 x6_1).f1) _ _ ((rd_T62 l0_2 x7_2).f1) t523 _ ?side1 ?side2 ?side3 ?side4 A16.out).mono ?_);(case side1=>repeat (first|exact (Kd.C_below HR521_1.out HB.out)|(with_reducible refine Kd.C_alloc ?_ _)|(with_reducible refine Kd.C_drewN ?_ _)|(with_reducible refine Kd.C_drew ?_)));(case side2=>exact HC521_1.out);(case side3=>repeat (first|exact (Kd.C_below HR522_1.out HB.out)|(with_reducible refine Kd.C_alloc ?_ _)|(with_reducible refine Kd.C_drewN ?_ _)|(with_reducible refine Kd.C_drew ?_)));(case side4=>exact HC522_1.out);rintro e w33 ⟨rfl,hb⟩;have n0_:=Aside0.mk (blk_below (g:=gb518) (o:=.cells #[.int .i64 a0_0,.slice A0_1 l0_1.length c0_1,.slice (some ad520) l0_2.length c0_2] 27 (0,0)) (by (with_reducible repeat (first|refine blk_drewN ?_ _|refine blk_drew ?_|refine blk_alloc ?_ _));exact BK518.out) hb);have n1_:=Aside0.mk (below_step (by repeat (first|(with_reducible first|exact HB.out|apply below_alloc|apply pw_below_drewN|apply below_drew1|refine below_set ?_ GE518.out)|exact HB.out)) hb);clear BK518;clear HB;have BK518:=n0_;have HB:=n1_;clear n0_ n1_;(try clear hb);(try clear hb2);(try clear hk);(try clear hi)))
               repeat (go_quiet (first|(go_at_call 79;(with_reducible refine (saronref09_share.calls k2 _ _ ((rd_T62 l0_2 x6_1).f1) _ _ ((rd_T62 l0_2 x7_2).f1) t523 _ ?side1 ?side2 ?side3 ?side4 A16.out).mono ?_);(case side1=>repeat (first|exact (Kd.C_below HR521_1.out HB.out)|(with_reducible refine Kd.C_alloc ?_ _)|(with_reducible refine Kd.C_drewN ?_ _)|(with_reducible refine Kd.C_drew ?_)));(case side2=>exact HC521_1.out);(case side3=>repeat (first|exact (Kd.C_below HR522_1.out HB.out)|(with_reducible refine Kd.C_alloc ?_ _)|(with_reducible refine Kd.C_drewN ?_ _)|(with_reducible refine Kd.C_drew ?_)));(case side4=>exact HC522_1.out);rintro e w33 ⟨rfl,hb⟩;have n0_:=Aside0.mk (blk_below (g:=gb518) (o:=.cells #[.int .i64 a0_0,.slice A0_1 l0_1.length c0_1,.slice (some ad520) l0_2.length c0_2] 27 (0,0)) (by (with_reducible repeat (first|refine blk_drewN ?_ _|refine blk_drew ?_|refine blk_alloc ?_ _));exact BK518.out) hb);have n1_:=Aside0.mk (below_step (by repeat (first|(with_reducible first|exact HB.out|apply below_alloc|apply pw_below_drewN|apply below_drew1|refine below_set ?_ GE518.out)|exact HB.out)) hb);clear BK518;clear HB;have BK518:=n0_;have HB:=n1_;clear n0_ n1_;(try clear hb);(try clear hb2);(try clear hk);(try clear hi)));try go_wp2_with (first|(go_at_call 79;(with_reducible refine (saronref09_share.calls k2 _ _ ((rd_T62 l0_2 x6_1).f1) _ _ ((rd_T62 l0_2 x7_2).f1) t523 _ ?side1 ?side2 ?side3 ?side4 A16.out).mono ?_);(case side1=>repeat (first|exact (Kd.C_below HR521_1.out HB.out)|(with_reducible refine Kd.C_alloc ?_ _)|(with_reducible refine Kd.C_drewN ?_ _)|(with_reducible refine Kd.C_drew ?_)));(case side2=>exact HC521_1.out);(case side3=>repeat (first|exact (Kd.C_below HR522_1.out HB.out)|(with_reducible refine Kd.C_alloc ?_ _)|(with_reducible refine Kd.C_drewN ?_ _)|(with_reducible refine Kd.C_drew ?_)));(case side4=>exact HC522_1.out);rintro e w33 ⟨rfl,hb⟩;have n0_:=Aside0.mk (blk_below (g:=gb518) (o:=.cells #[.int .i64 a0_0,.slice A0_1 l0_1.length c0_1,.slice (some ad520) l0_2.length c0_2] 27 (0,0)) (by (with_reducible repeat (first|refine blk_drewN ?_ _|refine blk_drew ?_|refine blk_alloc ?_ _));exact BK518.out) hb);have n1_:=Aside0.mk (below_step (by repeat (first|(with_reducible first|exact HB.out|apply below_alloc|apply pw_below_drewN|apply below_drew1|refine below_set ?_ GE518.out)|exact HB.out)) hb);clear BK518;clear HB;have BK518:=n0_;have HB:=n1_;clear n0_ n1_;(try clear hb);(try clear hb2);(try clear hk);(try clear hi))))
               go_roundg k2
               case measure=>have:=HK1.out;have:=HK2.out;omega
               case rel=>exact ⟨(x5_2),(wrap64 (x7_2+1)),(by first|rfl|(simp;done)|(simp [*];done)),(by first|rfl|(simp;done)|(simp [*];done)),H',⟨by have:=HK1.out;have:=HK2.out;omega⟩,⟨by (with_reducible repeat (first|refine blk_drewN ?_ _|refine blk_drew ?_|refine blk_alloc ?_ _));exact BK518.out⟩,⟨by repeat (first|(with_reducible first|exact HB.out|apply below_alloc|apply pw_below_drewN|apply below_drew1|refine below_set ?_ GE518.out)|exact HB.out)⟩⟩
           ·rw [if_neg c14] at H
            exact absurd H (by simp)
          ·rw [if_neg c13] at H
           exact absurd H (by simp)
         ·rw [if_neg c12] at H
          exact absurd H (by simp)
        ·rw [if_neg c11] at H
         have c11b0:decide (x7_2<(l0_2.length:Int))=false:=decide_eq_false c11
         clear c11
         have H':=Aside0.mk H
         clear H
         have hcz34_0:wr.cell? ⟨gb518,0,none⟩=some (.int .i64 a0_0):=(blk_cell BK518.out 0).trans rfl
         have hcz34_1:wr.cell? ⟨gb518,1,none⟩=some (.slice A0_1 l0_1.length c0_1):=(blk_cell BK518.out 1).trans rfl
         have hcz34_2:wr.cell? ⟨gb518,2,none⟩=some (.slice (some ad520) l0_2.length c0_2):=(blk_cell BK518.out 2).trans rfl
         have hfz34_0:=blk_frozen BK518.out 0
         have hfz34_1:=blk_frozen BK518.out 1
         have hfz34_2:=blk_frozen BK518.out 2
         go_wp2
         repeat (go_quiet (fail);try go_wp2)
         go_roundg k2
         case measure=>have:=HK1.out;have:=HK2.out;omega
         case rel=>exact ⟨(x5_2),(wrap64 (x6_1+1)),(by first|rfl|(simp;done)|(simp [*];done)),(by first|rfl|(simp;done)|(simp [*];done)),H',⟨by have:=HK1.out;have:=HK2.out;omega⟩,⟨by (with_reducible repeat (first|refine blk_drewN ?_ _|refine blk_drew ?_|refine blk_alloc ?_ _));exact BK518.out⟩,⟨by repeat (first|(with_reducible first|exact HB.out|apply below_alloc|apply pw_below_drewN|apply below_drew1|refine below_set ?_ GE518.out)|exact HB.out)⟩⟩
     ·rw [if_neg c9] at H
      have c9b0:decide (x6_1<(l0_2.length:Int))=false:=decide_eq_false c9
      clear c9
      simp only [Option.some.injEq,Prod.mk.injEq] at H
      obtain ⟨rfl,rfl⟩:=H
      have hcz35_0:wr.cell? ⟨gb518,0,none⟩=some (.int .i64 a0_0):=(blk_cell BK518.out 0).trans rfl
      have hcz35_1:wr.cell? ⟨gb518,1,none⟩=some (.slice A0_1 l0_1.length c0_1):=(blk_cell BK518.out 1).trans rfl
      have hcz35_2:wr.cell? ⟨gb518,2,none⟩=some (.slice (some ad520) l0_2.length c0_2):=(blk_cell BK518.out 2).trans rfl
      have hfz35_0:=blk_frozen BK518.out 0
      have hfz35_1:=blk_frozen BK518.out 1
      have hfz35_2:=blk_frozen BK518.out 2
      go_wp2
      repeat (go_quiet (fail);try go_wp2)
      go_ret2
      exact ⟨by first|rfl|(simp [errW_none,errW_some] <;> rfl)|(simp [*,errW_none,errW_some] <;> rfl),by repeat (first|(with_reducible first|exact HB.out|apply below_alloc|apply pw_below_drewN|apply below_drew1|refine below_set ?_ GE518.out)|exact HB.out)⟩
  ·rw [if_neg c4] at H
   exact absurd H (by simp)
 ·rw [if_neg c3] at H
  have c3b0:(t519 == 0)=false:=beq_eq_false_iff_ne.mpr c3
  have c3b1:(t519 != 0)=true:=bne_iff_ne.mpr c3
  simp only [Option.some.injEq,Prod.mk.injEq] at H
  obtain ⟨rfl,rfl⟩:=H
  go_enter Tryd.func36,Tryd.ntmps36
  go_wp2_with (first|((with_reducible refine gate_dst (N:=1) rfl ?_);refine box_event ?hg (N:=1) ?hd (cs:=#[.int .i64 a0_0,.slice A0_1 l0_1.length c0_1,.slice A0_2 l0_2.length c0_2]) (t:=27) ?hr ?_;(case hd=>rfl);(case hg=>rfl);(case hr=>first|(go_simp;done)|(go_simp;rfl));intro gb518 hg w36 hbox hb;have n0_:=Aside0.mk (below_step (by repeat (first|(with_reducible first|exact HB.out|apply below_alloc|apply pw_below_drewN|apply below_drew1)|exact HB.out)) hb);have n1_:=Aside0.mk (hbox);have n2_:=Aside0.mk ((by rw [hg];exact (below_size (by repeat (first|(with_reducible first|exact HB.out|apply below_alloc|apply pw_below_drewN|apply below_drew1)|exact HB.out))):w.heap.size≤gb518));have n3_:=Aside0.mk ((by rw [hg];exact (below_size (by repeat (first|(with_reducible first|exact HB.out|apply below_alloc|apply pw_below_drewN|apply below_drew1)|exact HB.out))):w.heap.size≤gb518));clear HB;have HB:=n0_;have BK518:=n1_;have GW518:=n2_;have GE518:=n3_;clear n0_ n1_ n2_ n3_;clear hb hbox hg;have hcz37_0:w36.cell? ⟨gb518,0,none⟩=some (.int .i64 a0_0):=(blk_cell BK518.out 0).trans rfl;have hcz37_1:w36.cell? ⟨gb518,1,none⟩=some (.slice A0_1 l0_1.length c0_1):=(blk_cell BK518.out 1).trans rfl;have hcz37_2:w36.cell? ⟨gb518,2,none⟩=some (.slice A0_2 l0_2.length c0_2):=(blk_cell BK518.out 2).trans rfl;have hfz37_0:=blk_frozen BK518.out 0;have hfz37_1:=blk_frozen BK518.out 1;have hfz37_2:=blk_frozen BK518.out 2)|(go_at_call 18;(with_reducible refine (saronref09_Check.calls k a0_0 _ _ l0_1 _ _ l0_2 t519 _ ?side1 ?side2 ?side3 ?side4 A2.out).mono ?_);(case side1=>repeat (first|exact (Kd.C_below HR0_1.out HB.out)|(with_reducible refine Kd.C_alloc ?_ _)|(with_reducible refine Kd.C_drewN ?_ _)|(with_reducible refine Kd.C_drew ?_)));(case side2=>exact HC0_1.out);(case side3=>repeat (first|exact (Kd.C_below HR0_2.out HB.out)|(with_reducible refine Kd.C_alloc ?_ _)|(with_reducible refine Kd.C_drewN ?_ _)|(with_reducible refine Kd.C_drew ?_)));(case side4=>exact HC0_2.out);rintro e w38 ⟨rfl,hb⟩;have n0_:=Aside0.mk (blk_below (g:=gb518) (o:=.cells #[.int .i64 a0_0,.slice A0_1 l0_1.length c0_1,.slice A0_2 l0_2.length c0_2] 27 (0,0)) (by (with_reducible repeat (first|refine blk_drewN ?_ _|refine blk_drew ?_|refine blk_alloc ?_ _));exact BK518.out) hb);have n1_:=Aside0.mk (below_step (by repeat (first|(with_reducible first|exact HB.out|apply below_alloc|apply pw_below_drewN|apply below_drew1|refine below_set ?_ GE518.out)|exact HB.out)) hb);clear BK518;clear HB;have BK518:=n0_;have HB:=n1_;clear n0_ n1_;(try clear hb);(try clear hb2);(try clear hk);(try clear hi)))
  repeat (go_quiet (first|((with_reducible refine gate_dst (N:=1) rfl ?_);refine box_event ?hg (N:=1) ?hd (cs:=#[.int .i64 a0_0,.slice A0_1 l0_1.length c0_1,.slice A0_2 l0_2.length c0_2]) (t:=27) ?hr ?_;(case hd=>rfl);(case hg=>rfl);(case hr=>first|(go_simp;done)|(go_simp;rfl));intro gb518 hg w36 hbox hb;have n0_:=Aside0.mk (below_step (by repeat (first|(with_reducible first|exact HB.out|apply below_alloc|apply pw_below_drewN|apply below_drew1)|exact HB.out)) hb);have n1_:=Aside0.mk (hbox);have n2_:=Aside0.mk ((by rw [hg];exact (below_size (by repeat (first|(with_reducible first|exact HB.out|apply below_alloc|apply pw_below_drewN|apply below_drew1)|exact HB.out))):w.heap.size≤gb518));have n3_:=Aside0.mk ((by rw [hg];exact (below_size (by repeat (first|(with_reducible first|exact HB.out|apply below_alloc|apply pw_below_drewN|apply below_drew1)|exact HB.out))):w.heap.size≤gb518));clear HB;have HB:=n0_;have BK518:=n1_;have GW518:=n2_;have GE518:=n3_;clear n0_ n1_ n2_ n3_;clear hb hbox hg;have hcz37_0:w36.cell? ⟨gb518,0,none⟩=some (.int .i64 a0_0):=(blk_cell BK518.out 0).trans rfl;have hcz37_1:w36.cell? ⟨gb518,1,none⟩=some (.slice A0_1 l0_1.length c0_1):=(blk_cell BK518.out 1).trans rfl;have hcz37_2:w36.cell? ⟨gb518,2,none⟩=some (.slice A0_2 l0_2.length c0_2):=(blk_cell BK518.out 2).trans rfl;have hfz37_0:=blk_frozen BK518.out 0;have hfz37_1:=blk_frozen BK518.out 1;have hfz37_2:=blk_frozen BK518.out 2)|(go_at_call 18;(with_reducible refine (saronref09_Check.calls k a0_0 _ _ l0_1 _ _ l0_2 t519 _ ?side1 ?side2 ?side3 ?side4 A2.out).mono ?_);(case side1=>repeat (first|exact (Kd.C_below HR0_1.out HB.out)|(with_reducible refine Kd.C_alloc ?_ _)|(with_reducible refine Kd.C_drewN ?_ _)|(with_reducible refine Kd.C_drew ?_)));(case side2=>exact HC0_1.out);(case side3=>repeat (first|exact (Kd.C_below HR0_2.out HB.out)|(with_reducible refine Kd.C_alloc ?_ _)|(with_reducible refine Kd.C_drewN ?_ _)|(with_reducible refine Kd.C_drew ?_)));(case side4=>exact HC0_2.out);rintro e w38 ⟨rfl,hb⟩;have n0_:=Aside0.mk (blk_below (g:=gb518) (o:=.cells #[.int .i64 a0_0,.slice A0_1 l0_1.length c0_1,.slice A0_2 l0_2.length c0_2] 27 (0,0)) (by (with_reducible repeat (first|refine blk_drewN ?_ _|refine blk_drew ?_|refine blk_alloc ?_ _));exact BK518.out) hb);have n1_:=Aside0.mk (below_step (by repeat (first|(with_reducible first|exact HB.out|apply below_alloc|apply pw_below_drewN|apply below_drew1|refine below_set ?_ GE518.out)|exact HB.out)) hb);clear BK518;clear HB;have BK518:=n0_;have HB:=n1_;clear n0_ n1_;(try clear hb);(try clear hb2);(try clear hk);(try clear hi)));try go_wp2_with (first|((with_reducible refine gate_dst (N:=1) rfl ?_);refine box_event ?hg (N:=1) ?hd (cs:=#[.int .i64 a0_0,.slice A0_1 l0_1.length c0_1,.slice A0_2 l0_2.length c0_2]) (t:=27) ?hr ?_;(case hd=>rfl);(case hg=>rfl);(case hr=>first|(go_simp;done)|(go_simp;rfl));intro gb518 hg w36 hbox hb;have n0_:=Aside0.mk (below_step (by repeat (first|(with_reducible first|exact HB.out|apply below_alloc|apply pw_below_drewN|apply below_drew1)|exact HB.out)) hb);have n1_:=Aside0.mk (hbox);have n2_:=Aside0.mk ((by rw [hg];exact (below_size (by repeat (first|(with_reducible first|exact HB.out|apply below_alloc|apply pw_below_drewN|apply below_drew1)|exact HB.out))):w.heap.size≤gb518));have n3_:=Aside0.mk ((by rw [hg];exact (below_size (by repeat (first|(with_reducible first|exact HB.out|apply below_alloc|apply pw_below_drewN|apply below_drew1)|exact HB.out))):w.heap.size≤gb518));clear HB;have HB:=n0_;have BK518:=n1_;have GW518:=n2_;have GE518:=n3_;clear n0_ n1_ n2_ n3_;clear hb hbox hg;have hcz37_0:w36.cell? ⟨gb518,0,none⟩=some (.int .i64 a0_0):=(blk_cell BK518.out 0).trans rfl;have hcz37_1:w36.cell? ⟨gb518,1,none⟩=some (.slice A0_1 l0_1.length c0_1):=(blk_cell BK518.out 1).trans rfl;have hcz37_2:w36.cell? ⟨gb518,2,none⟩=some (.slice A0_2 l0_2.length c0_2):=(blk_cell BK518.out 2).trans rfl;have hfz37_0:=blk_frozen BK518.out 0;have hfz37_1:=blk_frozen BK518.out 1;have hfz37_2:=blk_frozen BK518.out 2)|(go_at_call 18;(with_reducible refine (saronref09_Check.calls k a0_0 _ _ l0_1 _ _ l0_2 t519 _ ?side1 ?side2 ?side3 ?side4 A2.out).mono ?_);(case side1=>repeat (first|exact (Kd.C_below HR0_1.out HB.out)|(with_reducible refine Kd.C_alloc ?_ _)|(with_reducible refine Kd.C_drewN ?_ _)|(with_reducible refine Kd.C_drew ?_)));(case side2=>exact HC0_1.out);(case side3=>repeat (first|exact (Kd.C_below HR0_2.out HB.out)|(with_reducible refine Kd.C_alloc ?_ _)|(with_reducible refine Kd.C_drewN ?_ _)|(with_reducible refine Kd.C_drew ?_)));(case side4=>exact HC0_2.out);rintro e w38 ⟨rfl,hb⟩;have n0_:=Aside0.mk (blk_below (g:=gb518) (o:=.cells #[.int .i64 a0_0,.slice A0_1 l0_1.length c0_1,.slice A0_2 l0_2.length c0_2] 27 (0,0)) (by (with_reducible repeat (first|refine blk_drewN ?_ _|refine blk_drew ?_|refine blk_alloc ?_ _));exact BK518.out) hb);have n1_:=Aside0.mk (below_step (by repeat (first|(with_reducible first|exact HB.out|apply below_alloc|apply pw_below_drewN|apply below_drew1|refine below_set ?_ GE518.out)|exact HB.out)) hb);clear BK518;clear HB;have BK518:=n0_;have HB:=n1_;clear n0_ n1_;(try clear hb);(try clear hb2);(try clear hk);(try clear hi))))
  go_ret2
  exact ⟨by first|rfl|(simp [errW_none,errW_some] <;> rfl)|(simp [*,errW_none,errW_some] <;> rfl),by repeat (first|(with_reducible first|exact HB.out|apply below_alloc|apply pw_below_drewN|apply below_drew1|refine below_set ?_ GE518.out)|exact HB.out)⟩
end Go.Proofs.YthnilelmhpmanaaDoor.PHeardFits
end
