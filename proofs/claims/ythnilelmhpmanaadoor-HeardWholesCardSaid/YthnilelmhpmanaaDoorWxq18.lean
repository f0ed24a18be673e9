/- A part of the proof: contracts and laws. -/
import Derived.Test.YthnilelmhpmanaaDoorWxq5
section
namespace Go.Proofs.YthnilelmhpmanaaDoor.PHeardFits
open Go.RowKit Go.Proofs.YthnilelmhpmanaaDoorW.PrintWords Go.Proofs.YthnilelmhpmanaaDoorW.PrintLast Go.Proofs.YthnilelmhpmanaaDoorW.PrintMore
attribute [local go_sem] max2_int min2_int max_two min_two max_three min_three max_four min_four
set_option linter.unusedVariables false
set_option linter.unusedSimpArgs false
mutual
def saronref05_Check.j0:Nat→Bool→Int→List (S85)→Option (Int)
 | 0,_,_,_=>none
 | k+1,x3,x139000,x139001=>saronref05_Check.l0 k x3 0 x139000 x139001
def saronref05_Check.l0:Nat→Bool→Int→Int→List (S85)→Option (Int)
 | 0,_,_,_,_=>none
 | k+1,x3,x4,x139000,x139001=>if x3=true then (saronref05_Check.j2 k x3 x4 (decide (x4<(x139001.length:Int))) x139000 x139001) else (saronref05_Check.j2 k x3 x4 false x139000 x139001)
def saronref05_Check.j2:Nat→Bool→Int→Bool→Int→List (S85)→Option (Int)
 | 0,_,_,_,_,_=>none
 | k+1,x3,x4,x29,x139000,x139001=>if x29=true then (if 0≤x4 then (if x4<(x139001.length:Int) then ((saronref00_Sits.f ((rd_T85 x139001 x4).f0) 2 32).bind fun t142=>(if t142=true then (saronref05_Check.j3 k ((((rd_T85 x139001 x4).f1).length:Int) == x139000) x4 x139000 x139001 ((rd_T85 x139001 x4).f0) ((rd_T85 x139001 x4).f1)) else (saronref05_Check.j3 k false x4 x139000 x139001 ((rd_T85 x139001 x4).f0) ((rd_T85 x139001 x4).f1)))) else (none)) else (none)) else (if x3=true then (some 0) else (some 50))
def saronref05_Check.j3:Nat→Bool→Int→Int→List (S85)→Int→List (List Int)→Option (Int)
 | 0,_,_,_,_,_,_=>none
 | k+1,x3,x4,x139000,x139001,x142000,x142001=>saronref05_Check.l1 k x3 x4 0 x139000 x139001 x142000 x142001
def saronref05_Check.l1:Nat→Bool→Int→Int→Int→List (S85)→Int→List (List Int)→Option (Int)
 | 0,_,_,_,_,_,_,_=>none
 | k+1,x3,x4,x6,x139000,x139001,x142000,x142001=>if x3=true then (saronref05_Check.j5 k x3 x4 x6 (decide (x6<x139000)) x139000 x139001 x142000 x142001) else (saronref05_Check.j5 k x3 x4 x6 false x139000 x139001 x142000 x142001)
def saronref05_Check.j5:Nat→Bool→Int→Int→Bool→Int→List (S85)→Int→List (List Int)→Option (Int)
 | 0,_,_,_,_,_,_,_,_=>none
 | k+1,x3,x4,x6,x54,x139000,x139001,x142000,x142001=>if x54=true then (if 0≤x6 then (if x6<(x142001.length:Int) then ((saronref00_Grows.f k (rd_L1 x142001 x6) x142000).bind fun t144=>(if t144=true then (if x6>0 then (saronref05_Check.l1 k true x4 (wrap64 (x6+1)) x139000 x139001 x142000 x142001) else (if 0<(x142001.length:Int) then ((saronref00_Equal.f k (rd_L1 x142001 0) (([wrap64 (x142000 - 1)]:List Int))).bind fun t149=>(saronref05_Check.l1 k t149 x4 (wrap64 (x6+1)) x139000 x139001 x142000 x142001)) else (none))) else (saronref05_Check.l1 k false x4 (wrap64 (x6+1)) x139000 x139001 x142000 x142001))) else (none)) else (none)) else (saronref05_Check.l0 k x3 (wrap64 (x4+1)) x139000 x139001)
end
def saronref05_Check.f (k:Nat) (a0_0:Int) (l0_1:List (S85)):Option (Int):=(saronref00_Sits.f a0_0 1 5).bind fun t139=>(if t139=true then (if (l0_1.length:Int) ≥ 1 then (saronref05_Check.j0 k (decide ((l0_1.length:Int)≤4)) a0_0 l0_1) else (saronref05_Check.j0 k false a0_0 l0_1)) else (saronref05_Check.j0 k false a0_0 l0_1))
def saronref05_Check.T10:Bool×List (List Nat×List Nat):=(true,[([],[]),([0],[0]),([],[]),([1,2],[1,2]),([3],[3]),([],[]),([5],[5]),([4,6],[4,6]),([7,7],[7]),([8],[8]),([9,8],[8,9]),([10,8,8],[8,10]),([11],[11]),([12,11],[11,12]),([13,11],[11,13]),([14,11],[11,14]),([11],[11]),([16,11],[11,16]),([17,11],[11,17]),([18,11],[11,18]),([15,19,11,11],[11,15,19]),([11,20,8],[8,11,20]),([8,21],[8,21]),([22,20,0,1,2,3,4,5,6,7,8,9,10,11,12,13,14,15,16,17,18,19,20,21,22],[22])])
def saronref05_Check.B10:List Nat:=[0,1,0,7,15,0,32,127,255,511,1023,2047,4095,8191,16383,32767,4095,69631,200703,462847,1048575,2097151,4194303,8388607]
theorem saronref05_Check.tab10:rtab .any (opsOf Tryd.f67 10)=saronref05_Check.T10:=by kernel_rfl
theorem saronref05_Check.bits10:waitsOk saronref05_Check.T10.2 saronref05_Check.B10=true:=by kernel_rfl
set_option maxHeartbeats 8000000 in
set_option maxRecDepth 100000 in
theorem saronref05_Check.calls (k:Nat) (a0_0:Int) (A0_1:Option Addr) (c0_1:Nat) (l0_1:List (S85)) (r:Int) (w:World) (hr0_1:Kd.C k85 w A0_1 l0_1.length l0_1) (hc0_1:l0_1.length≤c0_1) (h:saronref05_Check.f k a0_0 l0_1=some r) :
  Calls Tryd.prog 67 #[.agg #[.int .i64 a0_0,.slice A0_1 l0_1.length c0_1]] w fun e w'=>e=.returned (.int .i64 r)∧Below w.heap.size w w':=by
 have hu24:=Tryd.underlying24
 have hu85:=Tryd.underlying85
 have HR0_1:=Aside0.mk hr0_1
 have HC0_1:=Aside0.mk hc0_1
 clear hr0_1 hc0_1
 have HB:=Aside0.mk (Below.refl w.heap.size w)
 have H:((saronref00_Sits.f a0_0 1 5).bind fun t139=>(if t139=true then (if (l0_1.length:Int) ≥ 1 then (saronref05_Check.j0 k (decide ((l0_1.length:Int)≤4)) a0_0 l0_1) else (saronref05_Check.j0 k false a0_0 l0_1)) else (saronref05_Check.j0 k false a0_0 l0_1)))=some r:=h
 clear h
 have HC2:=Aside0.mk H
 clear H
 go_enter Tryd.func67,Tryd.ntmps67
 go_upto_region 1 with (first|((with_reducible refine gate_dst (N:=1) rfl ?_);(try (refine gate_guard (by rfl) ?_;dsimp only));refine box_event ?hg (N:=1) ?hd (cs:=#[.int .i64 a0_0,.slice A0_1 l0_1.length c0_1]) (t:=24) ?hr ?_;(case hd=>rfl);(case hg=>rfl);(case hr=>first|(go_simp;done)|(go_simp;rfl));intro gb138 hg w3 hbox hb;have n0_:=Aside0.mk (below_step (by repeat (first|(with_reducible first|exact HB.out|apply below_alloc|apply pw_below_drewN|apply below_drew1)|exact HB.out)) hb);have n1_:=Aside0.mk (hbox);have n2_:=Aside0.mk ((by rw [hg];exact (below_size (by repeat (first|(with_reducible first|exact HB.out|apply below_alloc|apply pw_below_drewN|apply below_drew1)|exact HB.out))):w.heap.size≤gb138));have n3_:=Aside0.mk ((by rw [hg];exact (below_size (by repeat (first|(with_reducible first|exact HB.out|apply below_alloc|apply pw_below_drewN|apply below_drew1)|exact HB.out))):w.heap.size≤gb138));clear HB;have HB:=n0_;have BK138:=n1_;have GW138:=n2_;have GE138:=n3_;clear n0_ n1_ n2_ n3_;clear hb hbox hg))
 (try simp only [Act.put,List.setIfInBounds_toArray,List.set_cons_zero,List.set_cons_succ])
 go_cut [3] (fun v3 wc=>∃ (kq:Nat) (x3_1:Bool),v3=.bool x3_1∧Aside0 (saronref05_Check.j0 kq x3_1 a0_0 l0_1=some r)∧Aside0 (kq≤k)∧Aside0 (wc.heap[gb138]?=some (.cells #[.int .i64 a0_0,(.slice A0_1 l0_1.length c0_1)] 24 (0,0)))∧Aside0 (Below w.heap.size w wc))
 case first =>
  have H:=HC2.out
  clear HC2
  replace H:=Option.bind_eq_some_iff.mp H
  obtain ⟨t139,A40,H⟩:=H
  try dsimp only at H
  have A4:=Aside0.mk A40
  clear A40
  by_cases c5:t139=true
  ·subst c5
   rw [if_pos rfl] at H
   by_cases c6:(l0_1.length:Int) ≥ 1
   ·rw [if_pos c6] at H
    have c6b0:decide (1≤(l0_1.length:Int))=true:=decide_eq_true c6
    have c6b1:decide (1≤l0_1.length)=true:=decide_eq_true (by omega)
    clear c6
    (first|rw [c6b0]|(simp only [i64_w,i32_w];rw [c6b0])|skip)
    have H':=Aside0.mk H
    clear H
    have hcz7_0:w3.cell? ⟨gb138,0,none⟩=some (.int .i64 a0_0):=(blk_cell BK138.out 0).trans rfl
    have hcz7_1:w3.cell? ⟨gb138,1,none⟩=some (.slice A0_1 l0_1.length c0_1):=(blk_cell BK138.out 1).trans rfl
    have hfz7_0:=blk_frozen BK138.out 0
    have hfz7_1:=blk_frozen BK138.out 1
    go_wp2_with (first|((with_reducible refine gate_callee (f:=41) rfl ?_);refine goesL_ (some 9) rfl rfl Tryd.func41 (by kernel_rfl) rfl #[.int .i64 a0_0,.int .i64 1,.int .i64 5] rfl (by (try simp only [List.map_toArray,List.map_cons,List.map_nil]);first|done|rfl|(simp only [List.length_drop,List.length_take];rfl)) ?_;(with_reducible refine (saronref00_Sits.calls a0_0 1 5 true _ A4.out).mono ?_);rintro e w' ⟨rfl,⟨nd,rfl⟩⟩;refine ⟨_,rfl,?_⟩))
    go_meet
    case rel=>exact ⟨_,(decide ((l0_1.length:Int)≤4)),(by first|rfl|(simp;done)|(simp [*];done)),H',⟨by first|omega|exact Nat.le_refl _⟩,⟨by (with_reducible repeat (first|refine blk_drewN ?_ _|refine blk_drew ?_|refine blk_alloc ?_ _));exact BK138.out⟩,⟨by repeat (first|(with_reducible first|exact HB.out|apply below_alloc|apply pw_below_drewN|apply below_drew1|refine below_set ?_ GE138.out)|exact HB.out)⟩⟩
   ·rw [if_neg c6] at H
    have c6b0:decide (1≤(l0_1.length:Int))=false:=decide_eq_false c6
    have c6b1:decide (1≤l0_1.length)=false:=decide_eq_false (by omega)
    clear c6
    (first|rw [c6b0]|(simp only [i64_w,i32_w];rw [c6b0])|skip)
    have H':=Aside0.mk H
    clear H
    have hcz8_0:w3.cell? ⟨gb138,0,none⟩=some (.int .i64 a0_0):=(blk_cell BK138.out 0).trans rfl
    have hcz8_1:w3.cell? ⟨gb138,1,none⟩=some (.slice A0_1 l0_1.length c0_1):=(blk_cell BK138.out 1).trans rfl
    have hfz8_0:=blk_frozen BK138.out 0
    have hfz8_1:=blk_frozen BK138.out 1
    go_wp2_with (first|((with_reducible refine gate_callee (f:=41) rfl ?_);refine goesL_ (some 9) rfl rfl Tryd.func41 (by kernel_rfl) rfl #[.int .i64 a0_0,.int .i64 1,.int .i64 5] rfl (by (try simp only [List.map_toArray,List.map_cons,List.map_nil]);first|done|rfl|(simp only [List.length_drop,List.length_take];rfl)) ?_;(with_reducible refine (saronref00_Sits.calls a0_0 1 5 true _ A4.out).mono ?_);rintro e w' ⟨rfl,⟨nd,rfl⟩⟩;refine ⟨_,rfl,?_⟩))
    go_meet
    case rel=>exact ⟨_,(false),(by first|rfl|(simp;done)|(simp [*];done)),H',⟨by first|omega|exact Nat.le_refl _⟩,⟨by (with_reducible repeat (first|refine blk_drewN ?_ _|refine blk_drew ?_|refine blk_alloc ?_ _));exact BK138.out⟩,⟨by repeat (first|(with_reducible first|exact HB.out|apply below_alloc|apply pw_below_drewN|apply below_drew1|refine below_set ?_ GE138.out)|exact HB.out)⟩⟩
  ·replace c5:=Bool.eq_false_iff.mpr c5
   subst c5
   rw [if_neg (show ¬ (false=true) by decide)] at H
   have H':=Aside0.mk H
   clear H
   have hcz9_0:w3.cell? ⟨gb138,0,none⟩=some (.int .i64 a0_0):=(blk_cell BK138.out 0).trans rfl
   have hcz9_1:w3.cell? ⟨gb138,1,none⟩=some (.slice A0_1 l0_1.length c0_1):=(blk_cell BK138.out 1).trans rfl
   have hfz9_0:=blk_frozen BK138.out 0
   have hfz9_1:=blk_frozen BK138.out 1
   go_wp2_with (first|((with_reducible refine gate_callee (f:=41) rfl ?_);refine goesL_ (some 9) rfl rfl Tryd.func41 (by kernel_rfl) rfl #[.int .i64 a0_0,.int .i64 1,.int .i64 5] rfl (by (try simp only [List.map_toArray,List.map_cons,List.map_nil]);first|done|rfl|(simp only [List.length_drop,List.length_take];rfl)) ?_;(with_reducible refine (saronref00_Sits.calls a0_0 1 5 false _ A4.out).mono ?_);rintro e w' ⟨rfl,⟨nd,rfl⟩⟩;refine ⟨_,rfl,?_⟩))
   go_meet
   case rel=>exact ⟨_,(false),(by first|rfl|(simp;done)|(simp [*];done)),H',⟨by first|omega|exact Nat.le_refl _⟩,⟨by (with_reducible repeat (first|refine blk_drewN ?_ _|refine blk_drew ?_|refine blk_alloc ?_ _));exact BK138.out⟩,⟨by repeat (first|(with_reducible first|exact HB.out|apply below_alloc|apply pw_below_drewN|apply below_drew1|refine below_set ?_ GE138.out)|exact HB.out)⟩⟩
 case rest =>
  clear HC2
  try clear p2
  try clear c4
  try clear c5
  try clear c6
  try clear c6b0
  try clear c6b1
  try clear hcz7_0
  try clear hcz7_1
  try clear hcz8_0
  try clear hcz8_1
  try clear hcz9_0
  try clear hcz9_1
  try clear hfz7_0
  try clear hfz7_1
  try clear hfz8_0
  try clear hfz8_1
  try clear hfz9_0
  try clear hfz9_1
  obtain ⟨kq,x3_1,rfl,HA,HJ1,BK138,HB⟩:=hcut
  cases kq with
  | zero=>exact absurd HA.out (by simp [saronref05_Check.j0])
  | succ kj1 =>
   have H:=HA.out
   clear HA
   simp only [saronref05_Check.j0] at H
   have H':=Aside0.mk H
   clear H
   go_wp2
   go_loopg [3,4] kj1 (fun kq v3 v4 w'=>∃ (x3_2:Bool) (x4_2:Int),v3=.bool x3_2∧v4=.int .i64 x4_2∧Aside0 (saronref05_Check.l0 kq x3_2 x4_2 a0_0 l0_1=some r)∧Aside0 (kq≤kj1)∧Aside0 (w'.heap[gb138]?=some (.cells #[.int .i64 a0_0,(.slice A0_1 l0_1.length c0_1)] 24 (0,0)))∧Aside0 (Below w.heap.size w w'))
   case atStart=>exact ⟨(x3_1),(0),(by first|rfl|(simp;done)|(simp [*];done)),(by first|rfl|(simp;done)|(simp [*];done)),H',⟨Nat.le_refl _⟩,⟨by (with_reducible repeat (first|refine blk_drewN ?_ _|refine blk_drew ?_|refine blk_alloc ?_ _));exact BK138.out⟩,⟨by repeat (first|(with_reducible first|exact HB.out|apply below_alloc|apply pw_below_drewN|apply below_drew1|refine below_set ?_ GE138.out)|exact HB.out)⟩⟩
   case round =>
    clear H'
    try clear p2
    try clear c4
    try clear c5
    try clear c6
    try clear c6b0
    try clear c6b1
    try clear hcz7_0
    try clear hcz7_1
    try clear hcz8_0
    try clear hcz8_1
    try clear hcz9_0
    try clear hcz9_1
    try clear hfz7_0
    try clear hfz7_1
    try clear hfz8_0
    try clear hfz8_1
    try clear hfz9_0
    try clear hfz9_1
    try clear p2
    obtain ⟨x3_2,x4_2,rfl,rfl,HA,HK2,BK138,HB⟩:=hrel
    cases gk with
    | zero=>exact absurd HA.out (by simp [saronref05_Check.l0])
    | succ k2 =>
     have H:=HA.out
     clear HA
     simp only [saronref05_Check.l0] at H
     have HC10:=Aside0.mk H
     clear H
     go_upto_region 3 with (fail)
     go_cut [29] (fun v29 wc=>∃ (kq:Nat) (x29_9:Bool),v29=.bool x29_9∧Aside0 (saronref05_Check.j2 kq x3_2 x4_2 x29_9 a0_0 l0_1=some r)∧Aside0 (kq≤k2)∧Aside0 (wc.heap[gb138]?=some (.cells #[.int .i64 a0_0,(.slice A0_1 l0_1.length c0_1)] 24 (0,0)))∧Aside0 (Below w.heap.size w wc))
     case first =>
      have H:=HC10.out
      clear HC10
      by_cases c11:x3_2=true
      ·subst c11
       rw [if_pos rfl] at H
       have H':=Aside0.mk H
       clear H
       have hcz12_0:wr.cell? ⟨gb138,0,none⟩=some (.int .i64 a0_0):=(blk_cell BK138.out 0).trans rfl
       have hcz12_1:wr.cell? ⟨gb138,1,none⟩=some (.slice A0_1 l0_1.length c0_1):=(blk_cell BK138.out 1).trans rfl
       have hfz12_0:=blk_frozen BK138.out 0
       have hfz12_1:=blk_frozen BK138.out 1
       go_wp2
       go_meet
       case rel=>exact ⟨_,(decide (x4_2<(l0_1.length:Int))),(by first|rfl|(simp;done)|(simp [*];done)),H',⟨by have:=HJ1.out;have:=HK2.out;first|omega|exact Nat.le_refl _⟩,⟨by (with_reducible repeat (first|refine blk_drewN ?_ _|refine blk_drew ?_|refine blk_alloc ?_ _));exact BK138.out⟩,⟨by repeat (first|(with_reducible first|exact HB.out|apply below_alloc|apply pw_below_drewN|apply below_drew1|refine below_set ?_ GE138.out)|exact HB.out)⟩⟩
      ·replace c11:=Bool.eq_false_iff.mpr c11
       subst c11
       rw [if_neg (show ¬ (false=true) by decide)] at H
       have H':=Aside0.mk H
       clear H
       go_wp2
       go_meet
       case rel=>exact ⟨_,(false),(by first|rfl|(simp;done)|(simp [*];done)),H',⟨by have:=HJ1.out;have:=HK2.out;first|omega|exact Nat.le_refl _⟩,⟨by (with_reducible repeat (first|refine blk_drewN ?_ _|refine blk_drew ?_|refine blk_alloc ?_ _));exact BK138.out⟩,⟨by repeat (first|(with_reducible first|exact HB.out|apply below_alloc|apply pw_below_drewN|apply below_drew1|refine below_set ?_ GE138.out)|exact HB.out)⟩⟩
     case rest =>
      clear HC10
      try clear c1
      try clear p2
      try clear c4
      try clear c5
      try clear c6
      try clear c6b0
      try clear c6b1
      try clear c11
      try clear hcz12_0
      try clear hcz12_1
      try clear hcz7_0
      try clear hcz7_1
      try clear hcz8_0
      try clear hcz8_1
      try clear hcz9_0
      try clear hcz9_1
      try clear hfz12_0
      try clear hfz12_1
      try clear hfz7_0
      try clear hfz7_1
      try clear hfz8_0
      try clear hfz8_1
      try clear hfz9_0
      try clear hfz9_1
      try clear p2
      obtain ⟨kq,x29_9,rfl,HA,HJ9,BK138,HB⟩:=hcut
      cases kq with
      | zero=>exact absurd HA.out (by simp [saronref05_Check.j2])
      | succ kj9 =>
       have H:=HA.out
       clear HA
       simp only [saronref05_Check.j2] at H
       by_cases c13:x29_9=true
       ·subst c13
        rw [if_pos rfl] at H
        by_cases c14:0≤x4_2
        ·rw [if_pos c14] at H
         have c14b0:decide (0≤x4_2)=true:=decide_eq_true c14
         clear c14
         by_cases c15:x4_2<(l0_1.length:Int)
         ·rw [if_pos c15] at H
          have c15b0:decide (x4_2<(l0_1.length:Int))=true:=decide_eq_true c15
          clear c15
          have HC16:=Aside0.mk H
          clear H
          have hcz17_0:wc.cell? ⟨gb138,0,none⟩=some (.int .i64 a0_0):=(blk_cell BK138.out 0).trans rfl
          have hcz17_1:wc.cell? ⟨gb138,1,none⟩=some (.slice A0_1 l0_1.length c0_1):=(blk_cell BK138.out 1).trans rfl
          have hfz17_0:=blk_frozen BK138.out 0
          have hfz17_1:=blk_frozen BK138.out 1
          have p140:0≤(x4_2:Int):=of_decide_eq_true (by first|(with_reducible assumption)|assumption)
          have q140:x4_2<(l0_1.length:Int):=of_decide_eq_true (by first|(with_reducible assumption)|assumption)
          obtain ⟨ad140,A140_1,c140_1,e140,hx140_0,hx140_1,hl140_1,hi140_1⟩:=at_T85 HR0_1.out x4_2 p140 q140
          cases e140
          replace hx140_0:=(HB.out.cell (World.block_lt_of_cell? w _ hx140_0)).trans hx140_0
          replace hx140_1:=(HB.out.cell (World.block_lt_of_cell? w _ hx140_1)).trans hx140_1
          have HR140_1:=Aside0.mk hi140_1
          have HC140_1:=Aside0.mk hl140_1
          clear hi140_1 hl140_1
          replace p140:=eq_true p140
          replace q140:=eq_true q140
          go_upto_region 6 with (first|((with_reducible refine gate_dst (N:=5) rfl ?_);(try (refine gate_guard (by rfl) ?_;dsimp only));refine box_event ?hg (N:=5) ?hd (cs:=#[.int .i64 0,.slice none 0 0]) (t:=85) ?hr ?_;(case hd=>rfl);(case hg=>rfl);(case hr=>first|(go_simp;done)|(go_simp;rfl));intro gb141 hg w18 hbox hb;have n0_:=Aside0.mk (blk_below (g:=gb138) (o:=.cells #[.int .i64 a0_0,.slice (some ad140) l0_1.length c0_1] 24 (0,0)) (by (with_reducible repeat (first|refine blk_drewN ?_ _|refine blk_drew ?_|refine blk_alloc ?_ _));exact BK138.out) hb);have n1_:=Aside0.mk (below_step (by repeat (first|(with_reducible first|exact HB.out|apply below_alloc|apply pw_below_drewN|apply below_drew1|refine below_set ?_ GE138.out)|exact HB.out)) hb);have n2_:=Aside0.mk (hbox);have n3_:=Aside0.mk ((by rw [hg];exact (below_size (by repeat (first|(with_reducible first|exact HB.out|apply below_alloc|apply pw_below_drewN|apply below_drew1|refine below_set ?_ GE138.out)|exact HB.out))):w.heap.size≤gb141));have n4_:=Aside0.mk ((by rw [hg];exact (below_size (by repeat (first|(with_reducible first|exact HB.out|apply below_alloc|apply pw_below_drewN|apply below_drew1|refine below_set ?_ GE138.out)|exact HB.out))):w.heap.size≤gb141));have n5_:=Aside0.mk ((by rw [hg];exact Nat.ne_of_lt (blk_lt (g:=gb138) (o:=.cells #[.int .i64 a0_0,.slice (some ad140) l0_1.length c0_1] 24 (0,0)) (by (with_reducible repeat (first|refine blk_drewN ?_ _|refine blk_drew ?_|refine blk_alloc ?_ _));exact BK138.out)):gb138≠gb141));have n6_:=Aside0.mk ((by rw [hg];exact Nat.ne_of_gt (blk_lt (g:=gb138) (o:=.cells #[.int .i64 a0_0,.slice (some ad140) l0_1.length c0_1] 24 (0,0)) (by (with_reducible repeat (first|refine blk_drewN ?_ _|refine blk_drew ?_|refine blk_alloc ?_ _));exact BK138.out)):gb141≠gb138));clear BK138;clear HB;have BK138:=n0_;have HB:=n1_;have BK141:=n2_;have GW141:=n3_;have GE141:=n4_;have NB138_141:=n5_;have NB141_138:=n6_;clear n0_ n1_ n2_ n3_ n4_ n5_ n6_;clear hb hbox hg;have hnb19:=NB141_138.out;have hnc19:=NB138_141.out;have hcz20_0:w18.cell? ⟨gb141,0,none⟩=some (.int .i64 0):=(blk_cell BK141.out 0).trans rfl;have hcz20_1:w18.cell? ⟨gb141,1,none⟩=some (.slice none 0 0):=(blk_cell BK141.out 1).trans rfl;have hfz20_0:=blk_frozen BK141.out 0;have hfz20_1:=blk_frozen BK141.out 1))
          (try simp only [Act.put,List.setIfInBounds_toArray,List.set_cons_zero,List.set_cons_succ])
          go_cut [3] (fun v3 wc=>∃ (kq:Nat) (x3_15:Bool),v3=.bool x3_15∧Aside0 (saronref05_Check.j3 kq x3_15 x4_2 a0_0 l0_1 ((rd_T85 l0_1 x4_2).f0) ((rd_T85 l0_1 x4_2).f1)=some r)∧Aside0 (kq≤kj9)∧Aside0 (wc.heap[gb138]?=some (.cells #[.int .i64 a0_0,(.slice (some ad140) l0_1.length c0_1)] 24 (0,0)))∧Aside0 (wc.heap[gb141]?=some (.cells #[.int .i64 ((rd_T85 l0_1 x4_2).f0),(.slice A140_1 ((rd_T85 l0_1 x4_2).f1).length c140_1)] 85 (0,0)))∧Aside0 (Below w.heap.size w wc))
          case first =>
           have H:=HC16.out
           clear HC16
           replace H:=Option.bind_eq_some_iff.mp H
           obtain ⟨t142,A210,H⟩:=H
           try dsimp only at H
           have A21:=Aside0.mk A210
           clear A210
           by_cases c22:t142=true
           ·subst c22
            rw [if_pos rfl] at H
            have H':=Aside0.mk H
            clear H
            have hnb23:=NB141_138.out
            have hnc23:=NB138_141.out
            have hcz24_0:w18.cell? ⟨gb141,0,none⟩=some (.int .i64 0):=(blk_cell BK141.out 0).trans rfl
            have hcz24_1:w18.cell? ⟨gb141,1,none⟩=some (.slice none 0 0):=(blk_cell BK141.out 1).trans rfl
            have hfz24_0:=blk_frozen BK141.out 0
            have hfz24_1:=blk_frozen BK141.out 1
            go_wp2_with (first|((with_reducible refine gate_callee (f:=41) rfl ?_);refine goesL_ (some 39) rfl rfl Tryd.func41 (by kernel_rfl) rfl #[.int .i64 ((rd_T85 l0_1 x4_2).f0),.int .i64 2,.int .i64 32] rfl (by (try simp only [List.map_toArray,List.map_cons,List.map_nil]);first|done|rfl|(simp only [List.length_drop,List.length_take];rfl)) ?_;(with_reducible refine (saronref00_Sits.calls ((rd_T85 l0_1 x4_2).f0) 2 32 true _ A21.out).mono ?_);rintro e w' ⟨rfl,⟨nd,rfl⟩⟩;refine ⟨_,rfl,?_⟩;have hcz25_0:w18.cell? ⟨gb138,0,none⟩=some (.int .i64 a0_0):=(blk_cell BK138.out 0).trans rfl;have hcz25_1:w18.cell? ⟨gb138,1,none⟩=some (.slice (some ad140) l0_1.length c0_1):=(blk_cell BK138.out 1).trans rfl;have hfz25_0:=blk_frozen BK138.out 0;have hfz25_1:=blk_frozen BK138.out 1))
            go_meet
            case rel=>exact ⟨_,(((((rd_T85 l0_1 x4_2).f1).length:Int) == a0_0)),(by first|rfl|(simp;done)|(simp [*];done)),H',⟨by have:=HJ1.out;have:=HK2.out;have:=HJ9.out;first|omega|exact Nat.le_refl _⟩,⟨by (with_reducible repeat (first|refine blk_drewN ?_ _|refine blk_drew ?_|refine blk_alloc ?_ _));refine blk_far ?_ NB138_141.out _;(with_reducible repeat (first|refine blk_drewN ?_ _|refine blk_drew ?_|refine blk_alloc ?_ _));refine blk_far ?_ NB138_141.out _;(with_reducible repeat (first|refine blk_drewN ?_ _|refine blk_drew ?_|refine blk_alloc ?_ _));exact BK138.out⟩,⟨by (with_reducible repeat (first|refine blk_drewN ?_ _|refine blk_drew ?_|refine blk_alloc ?_ _));refine blk_put (cs:=#[.int .i64 ((rd_T85 l0_1 x4_2).f0),.slice none 0 0]) ?_ 1 _ rfl;(with_reducible repeat (first|refine blk_drewN ?_ _|refine blk_drew ?_|refine blk_alloc ?_ _));refine blk_put (cs:=#[.int .i64 0,.slice none 0 0]) ?_ 0 _ rfl;(with_reducible repeat (first|refine blk_drewN ?_ _|refine blk_drew ?_|refine blk_alloc ?_ _));exact BK141.out⟩,⟨by repeat (first|(with_reducible first|exact HB.out|apply below_alloc|apply pw_below_drewN|apply below_drew1|refine below_set ?_ GE138.out|refine below_set ?_ GE141.out)|exact HB.out)⟩⟩
           ·replace c22:=Bool.eq_false_iff.mpr c22
            subst c22
            rw [if_neg (show ¬ (false=true) by decide)] at H
            have H':=Aside0.mk H
            clear H
            have hnb26:=NB141_138.out
            have hnc26:=NB138_141.out
            have hcz27_0:w18.cell? ⟨gb141,0,none⟩=some (.int .i64 0):=(blk_cell BK141.out 0).trans rfl
            have hcz27_1:w18.cell? ⟨gb141,1,none⟩=some (.slice none 0 0):=(blk_cell BK141.out 1).trans rfl
            have hfz27_0:=blk_frozen BK141.out 0
            have hfz27_1:=blk_frozen BK141.out 1
            go_wp2_with (first|((with_reducible refine gate_callee (f:=41) rfl ?_);refine goesL_ (some 39) rfl rfl Tryd.func41 (by kernel_rfl) rfl #[.int .i64 ((rd_T85 l0_1 x4_2).f0),.int .i64 2,.int .i64 32] rfl (by (try simp only [List.map_toArray,List.map_cons,List.map_nil]);first|done|rfl|(simp only [List.length_drop,List.length_take];rfl)) ?_;(with_reducible refine (saronref00_Sits.calls ((rd_T85 l0_1 x4_2).f0) 2 32 false _ A21.out).mono ?_);rintro e w' ⟨rfl,⟨nd,rfl⟩⟩;refine ⟨_,rfl,?_⟩))
            go_meet
            case rel=>exact ⟨_,(false),(by first|rfl|(simp;done)|(simp [*];done)),H',⟨by have:=HJ1.out;have:=HK2.out;have:=HJ9.out;first|omega|exact Nat.le_refl _⟩,⟨by (with_reducible repeat (first|refine blk_drewN ?_ _|refine blk_drew ?_|refine blk_alloc ?_ _));refine blk_far ?_ NB138_141.out _;(with_reducible repeat (first|refine blk_drewN ?_ _|refine blk_drew ?_|refine blk_alloc ?_ _));refine blk_far ?_ NB138_141.out _;(with_reducible repeat (first|refine blk_drewN ?_ _|refine blk_drew ?_|refine blk_alloc ?_ _));exact BK138.out⟩,⟨by (with_reducible repeat (first|refine blk_drewN ?_ _|refine blk_drew ?_|refine blk_alloc ?_ _));refine blk_put (cs:=#[.int .i64 ((rd_T85 l0_1 x4_2).f0),.slice none 0 0]) ?_ 1 _ rfl;(with_reducible repeat (first|refine blk_drewN ?_ _|refine blk_drew ?_|refine blk_alloc ?_ _));refine blk_put (cs:=#[.int .i64 0,.slice none 0 0]) ?_ 0 _ rfl;(with_reducible repeat (first|refine blk_drewN ?_ _|refine blk_drew ?_|refine blk_alloc ?_ _));exact BK141.out⟩,⟨by repeat (first|(with_reducible first|exact HB.out|apply below_alloc|apply pw_below_drewN|apply below_drew1|refine below_set ?_ GE138.out|refine below_set ?_ GE141.out)|exact HB.out)⟩⟩
          case rest =>
           clear HC16
           try clear c1
           try clear p1
           try clear q1
           try clear hx1
           try clear c2
           try clear p2
           try clear c4
           try clear c5
           try clear c6
           try clear c6b0
           try clear c6b1
           try clear c11
           try clear c13
           try clear c14
           try clear c14b0
           try clear p14
           try clear q14
           try clear hx14
           try clear c15
           try clear c15b0
           try clear c19
           try clear c22
           try clear c23
           try clear c26
           try clear hcz12_0
           try clear hcz12_1
           try clear hcz17_0
           try clear hcz17_1
           try clear hcz20_0
           try clear hcz20_1
           try clear hcz24_0
           try clear hcz24_1
           try clear hcz25_0
           try clear hcz25_1
           try clear hcz27_0
           try clear hcz27_1
           try clear hcz7_0
           try clear hcz7_1
           try clear hcz8_0
           try clear hcz8_1
           try clear hcz9_0
           try clear hcz9_1
           try clear hfz12_0
           try clear hfz12_1
           try clear hfz17_0
           try clear hfz17_1
           try clear hfz20_0
           try clear hfz20_1
           try clear hfz24_0
           try clear hfz24_1
           try clear hfz25_0
           try clear hfz25_1
           try clear hfz27_0
           try clear hfz27_1
           try clear hfz7_0
           try clear hfz7_1
           try clear hfz8_0
           try clear hfz8_1
           try clear hfz9_0
           try clear hfz9_1
           try clear hx140_0
           try clear hx140_1
           try clear p140
           try clear p2
           try clear q140
           obtain ⟨kq,x3_15,rfl,HA,HJ15,BK138,BK141,HB⟩:=hcut
           cases kq with
           | zero=>exact absurd HA.out (by simp [saronref05_Check.j3])
           | succ kj15 =>
            have H:=HA.out
            clear HA
            simp only [saronref05_Check.j3] at H
            have H':=Aside0.mk H
            clear H
            go_wp2
            go_loopg [3,6] kj15 (fun kq v3 v6 w'=>∃ (x3_5:Bool) (x6_5:Int),v3=.bool x3_5∧v6=.int .i64 x6_5∧Aside0 (saronref05_Check.l1 kq x3_5 x4_2 x6_5 a0_0 l0_1 ((rd_T85 l0_1 x4_2).f0) ((rd_T85 l0_1 x4_2).f1)=some r)∧Aside0 (kq≤kj15)∧Aside0 (w'.heap[gb138]?=some (.cells #[.int .i64 a0_0,(.slice (some ad140) l0_1.length c0_1)] 24 (0,0)))∧Aside0 (w'.heap[gb141]?=some (.cells #[.int .i64 ((rd_T85 l0_1 x4_2).f0),(.slice A140_1 ((rd_T85 l0_1 x4_2).f1).length c140_1)] 85 (0,0)))∧Aside0 (Below w.heap.size w w'))
            case atStart=>exact ⟨(x3_15),(0),(by first|rfl|(simp;done)|(simp [*];done)),(by first|rfl|(simp;done)|(simp [*];done)),H',⟨Nat.le_refl _⟩,⟨by (with_reducible repeat (first|refine blk_drewN ?_ _|refine blk_drew ?_|refine blk_alloc ?_ _));exact BK138.out⟩,⟨by (with_reducible repeat (first|refine blk_drewN ?_ _|refine blk_drew ?_|refine blk_alloc ?_ _));exact BK141.out⟩,⟨by repeat (first|(with_reducible first|exact HB.out|apply below_alloc|apply pw_below_drewN|apply below_drew1|refine below_set ?_ GE138.out|refine below_set ?_ GE141.out)|exact HB.out)⟩⟩
            case round =>
             clear H'
             try clear c1
             try clear p1
             try clear q1
             try clear hx1
             try clear c2
             try clear p2
             try clear c4
             try clear c5
             try clear c6
             try clear c6b0
             try clear c6b1
             try clear c11
             try clear c13
             try clear c14
             try clear c14b0
             try clear p14
             try clear q14
             try clear hx14
             try clear c15
             try clear c15b0
             try clear c19
             try clear c22
             try clear c23
             try clear c26
             try clear hcz12_0
             try clear hcz12_1
             try clear hcz17_0
             try clear hcz17_1
             try clear hcz20_0
             try clear hcz20_1
             try clear hcz24_0
             try clear hcz24_1
             try clear hcz25_0
             try clear hcz25_1
             try clear hcz27_0
             try clear hcz27_1
             try clear hcz7_0
             try clear hcz7_1
             try clear hcz8_0
             try clear hcz8_1
             try clear hcz9_0
             try clear hcz9_1
             try clear hfz12_0
             try clear hfz12_1
             try clear hfz17_0
             try clear hfz17_1
             try clear hfz20_0
             try clear hfz20_1
             try clear hfz24_0
             try clear hfz24_1
             try clear hfz25_0
             try clear hfz25_1
             try clear hfz27_0
             try clear hfz27_1
             try clear hfz7_0
             try clear hfz7_1
             try clear hfz8_0
             try clear hfz8_1
             try clear hfz9_0
             try clear hfz9_1
             try clear hx140_0
             try clear hx140_1
             try clear p1
             try clear p14
             try clear p140
             try clear p2
             try clear q1
             try clear q14
             try clear q140
             obtain ⟨x3_5,x6_5,rfl,rfl,HA,HK5,BK138,BK141,HB⟩:=hrel
             cases gk with
             | zero=>exact absurd HA.out (by simp [saronref05_Check.l1])
             | succ k5 =>
              have H:=HA.out
              clear HA
              simp only [saronref05_Check.l1] at H
              have HC28:=Aside0.mk H
              clear H
              go_upto_region 8 with (fail)
              go_cut [54] (fun v54 wc=>∃ (kq:Nat) (x54_27:Bool),v54=.bool x54_27∧Aside0 (saronref05_Check.j5 kq x3_5 x4_2 x6_5 x54_27 a0_0 l0_1 ((rd_T85 l0_1 x4_2).f0) ((rd_T85 l0_1 x4_2).f1)=some r)∧Aside0 (kq≤k5)∧Aside0 (wc.heap[gb138]?=some (.cells #[.int .i64 a0_0,(.slice (some ad140) l0_1.length c0_1)] 24 (0,0)))∧Aside0 (wc.heap[gb141]?=some (.cells #[.int .i64 ((rd_T85 l0_1 x4_2).f0),(.slice A140_1 ((rd_T85 l0_1 x4_2).f1).length c140_1)] 85 (0,0)))∧Aside0 (Below w.heap.size w wc))
              case first =>
               have H:=HC28.out
               clear HC28
               by_cases c29:x3_5=true
               ·subst c29
                rw [if_pos rfl] at H
                have H':=Aside0.mk H
                clear H
                have hnb30:=NB138_141.out
                have hnc30:=NB141_138.out
                have hcz31_0:wr.cell? ⟨gb138,0,none⟩=some (.int .i64 a0_0):=(blk_cell BK138.out 0).trans rfl
                have hcz31_1:wr.cell? ⟨gb138,1,none⟩=some (.slice (some ad140) l0_1.length c0_1):=(blk_cell BK138.out 1).trans rfl
                have hfz31_0:=blk_frozen BK138.out 0
                have hfz31_1:=blk_frozen BK138.out 1
                go_wp2
                go_meet
                case rel=>exact ⟨_,(decide (x6_5<a0_0)),(by first|rfl|(simp;done)|(simp [*];done)),H',⟨by have:=HJ1.out;have:=HK2.out;have:=HJ9.out;have:=HJ15.out;have:=HK5.out;first|omega|exact Nat.le_refl _⟩,⟨by (with_reducible repeat (first|refine blk_drewN ?_ _|refine blk_drew ?_|refine blk_alloc ?_ _));exact BK138.out⟩,⟨by (with_reducible repeat (first|refine blk_drewN ?_ _|refine blk_drew ?_|refine blk_alloc ?_ _));exact BK141.out⟩,⟨by repeat (first|(with_reducible first|exact HB.out|apply below_alloc|apply pw_below_drewN|apply below_drew1|refine below_set ?_ GE138.out|refine below_set ?_ GE141.out)|exact HB.out)⟩⟩
               ·replace c29:=Bool.eq_false_iff.mpr c29
                subst c29
                rw [if_neg (show ¬ (false=true) by decide)] at H
                have H':=Aside0.mk H
                clear H
                go_wp2
                go_meet
                case rel=>exact ⟨_,(false),(by first|rfl|(simp;done)|(simp [*];done)),H',⟨by have:=HJ1.out;have:=HK2.out;have:=HJ9.out;have:=HJ15.out;have:=HK5.out;first|omega|exact Nat.le_refl _⟩,⟨by (with_reducible repeat (first|refine blk_drewN ?_ _|refine blk_drew ?_|refine blk_alloc ?_ _));exact BK138.out⟩,⟨by (with_reducible repeat (first|refine blk_drewN ?_ _|refine blk_drew ?_|refine blk_alloc ?_ _));exact BK141.out⟩,⟨by repeat (first|(with_reducible first|exact HB.out|apply below_alloc|apply pw_below_drewN|apply below_drew1|refine below_set ?_ GE138.out|refine below_set ?_ GE141.out)|exact HB.out)⟩⟩
              case rest =>
               clear HC28
               try clear c1
               try clear p1
               try clear q1
               try clear hx1
               try clear c2
               try clear p2
               try clear c3
               try clear c4
               try clear c5
               try clear c6
               try clear c6b0
               try clear c6b1
               try clear c11
               try clear c13
               try clear c14
               try clear c14b0
               try clear p14
               try clear q14
               try clear hx14
               try clear c15
               try clear c15b0
               try clear c19
               try clear c22
               try clear c23
               try clear c26
               try clear c29
               try clear c30
               try clear hcz12_0
               try clear hcz12_1
               try clear hcz17_0
               try clear hcz17_1
               try clear hcz20_0
               try clear hcz20_1
               try clear hcz24_0
               try clear hcz24_1
               try clear hcz25_0
               try clear hcz25_1
               try clear hcz27_0
               try clear hcz27_1
               try clear hcz31_0
               try clear hcz31_1
               try clear hcz7_0
               try clear hcz7_1
               try clear hcz8_0
               try clear hcz8_1
               try clear hcz9_0
               try clear hcz9_1
               try clear hfz12_0
               try clear hfz12_1
               try clear hfz17_0
               try clear hfz17_1
               try clear hfz20_0
               try clear hfz20_1
               try clear hfz24_0
               try clear hfz24_1
               try clear hfz25_0
               try clear hfz25_1
               try clear hfz27_0
               try clear hfz27_1
               try clear hfz31_0
               try clear hfz31_1
               try clear hfz7_0
               try clear hfz7_1
               try clear hfz8_0
               try clear hfz8_1
               try clear hfz9_0
               try clear hfz9_1
               try clear hx140_0
               try clear hx140_1
               try clear p1
               try clear p14
               try clear p140
               try clear p2
               try clear q1
               try clear q14
               try clear q140
               obtain ⟨kq,x54_27,rfl,HA,HJ27,BK138,BK141,HB⟩:=hcut
               cases kq with
               | zero=>exact absurd HA.out (by simp [saronref05_Check.j5])
               | succ kj27 =>
                have H:=HA.out
                clear HA
                simp only [saronref05_Check.j5] at H
                by_cases c32:x54_27=true
                ·subst c32
                 rw [if_pos rfl] at H
                 by_cases c33:0≤x6_5
                 ·rw [if_pos c33] at H
                  have c33b0:decide (0≤x6_5)=true:=decide_eq_true c33
                  clear c33
                  by_cases c34:x6_5<(((rd_T85 l0_1 x4_2).f1).length:Int)
                  ·rw [if_pos c34] at H
                   have c34b0:decide (x6_5<(((rd_T85 l0_1 x4_2).f1).length:Int))=true:=decide_eq_true c34
                   clear c34
                   replace H:=Option.bind_eq_some_iff.mp H
                   obtain ⟨t144,A350,H⟩:=H
                   try dsimp only at H
                   have A35:=Aside0.mk A350
                   clear A350
                   by_cases c36:t144=true
                   ·subst c36
                    rw [if_pos rfl] at H
                    by_cases c37:x6_5>0
                    ·rw [if_pos c37] at H
                     have c37b0:decide (0<x6_5)=true:=decide_eq_true c37
                     clear c37
                     have H':=Aside0.mk H
                     clear H
                     try go_wp2
                     have n0_:=Aside0.mk (blk_drew BK138.out)
                     have n1_:=Aside0.mk (blk_drew BK141.out)
                     have n2_:=Aside0.mk (below_drew1 HB.out)
                     clear BK138
                     clear BK141
                     clear HB
                     have BK138:=n0_
                     have BK141:=n1_
                     have HB:=n2_
                     clear n0_ n1_ n2_
                     have p143:0≤(x6_5:Int):=of_decide_eq_true (by first|(with_reducible assumption)|assumption)
                     have q143:x6_5<(((rd_T85 l0_1 x4_2).f1).length:Int):=of_decide_eq_true (by first|(with_reducible assumption)|assumption)
                     obtain ⟨ad143,A143_0,c143_0,e143,hx143_0,hl143_0,hi143_0⟩:=at_L1 HR140_1.out x6_5 p143 q143
                     have hw143_0:=hx143_0
                     cases e143
                     replace hx143_0:=(HB.out.cell (World.block_lt_of_cell? w _ hx143_0)).trans hx143_0
                     have HR143_0:=Aside0.mk hi143_0
                     have HC143_0:=Aside0.mk hl143_0
                     clear hi143_0 hl143_0
                     replace p143:=eq_true p143
                     replace q143:=eq_true q143
                     refine start_ (n:=24) (S:=fun w'=>w'.cell? ⟨gb141,0,none⟩=some (.int .i64 ((rd_T85 l0_1 x4_2).f0))∧w'.cell? ⟨gb141,1,none⟩=some (.slice (some ad143) ((rd_T85 l0_1 x4_2).f1).length c140_1)∧w'.cell? (ad143.add (x6_5).toNat)=some (.slice A143_0 (rd_L1 ((rd_T85 l0_1 x4_2).f1) x6_5).length c143_0)) (ds:=[]) #[false,false,false,false,false,false,false,false,false,false,false,false,false,false,false,false,false,false,false,false,false,false,false,false] (by kernel_rfl) rfl rfl ⟨(blk_cell BK141.out 0).trans rfl,(blk_cell BK141.out 1).trans rfl,((HB.out.cell (World.block_lt_of_cell? w _ hw143_0)).trans hw143_0)⟩ (fun hHeld=>?_);refine with_tabW saronref05_Check.tab10 saronref05_Check.bits10 (fun HT_ HW_=>?_)
                     generalize wc.drew=w38 at BK138 BK141 HB HR143_0 hx143_0 hHeld ⊢
                     refine pure_ (i:=0) (N:=some 57) (v:=?_) (a':=?_) #[true,false,false,false,false,false,false,false,false,false,false,false,false,false,false,false,false,false,false,false,false,false,false,false] rfl rfl (any_of HT_.out (by kernel_rfl)) (fun _ _ _ h=>h) (Or.inl ⟨by rfl,?_⟩) ?_ ?_
                     rotate_left
                     ·intro w'
                      go_simp
                      with_reducible rfl
                     rotate_left
                     ·simp only [Act.put,List.setIfInBounds_toArray,List.set_cons_zero,List.set_cons_succ,i64_w,i32_w]
                      rfl
                     refine pure_ (i:=2) (N:=some 59) (v:=?_) (a':=?_) #[true,false,true,false,false,false,false,false,false,false,false,false,false,false,false,false,false,false,false,false,false,false,false,false] rfl rfl (any_of HT_.out (by kernel_rfl)) (fun _ _ _ h=>h) (Or.inl ⟨by rfl,?_⟩) ?_ ?_
                     rotate_left
                     ·intro w'
                      go_simp
                      with_reducible rfl
                     rotate_left
                     ·simp only [Act.put,List.setIfInBounds_toArray,List.set_cons_zero,List.set_cons_succ,i64_w,i32_w]
                      rfl
                     refine pure_ (i:=5) (N:=some 62) (v:=?_) (a':=?_) #[true,false,true,false,false,true,false,false,false,false,false,false,false,false,false,false,false,false,false,false,false,false,false,false] rfl rfl (any_of HT_.out (by kernel_rfl)) (fun _ _ _ h=>h) (Or.inl ⟨by rfl,?_⟩) ?_ ?_
                     rotate_left
                     ·intro w'
                      go_simp
                      with_reducible rfl
                     rotate_left
                     ·simp only [Act.put,List.setIfInBounds_toArray,List.set_cons_zero,List.set_cons_succ,i64_w,i32_w]
                      rfl
                     refine take_ (i:=1) (N:=some 58) (v:=?_) (a':=?_) #[true,true,true,false,false,true,false,false,false,false,false,false,false,false,false,false,false,false,false,false,false,false,false,false] rfl rfl (take_ofW HT_.out HW_.out (by kernel_rfl)) (fun _ _ _ h=>h) (Or.inl ⟨by rfl,?_⟩) hHeld ?_ ?_
                     rotate_left
                     ·rintro w' ⟨s0,s1,s2⟩
                      go_simp
                      with_reducible rfl
                     rotate_left
                     ·simp only [Act.put,List.setIfInBounds_toArray,List.set_cons_zero,List.set_cons_succ,i64_w,i32_w]
                      rfl
                     refine pure_ (i:=3) (N:=some 60) (v:=?_) (a':=?_) #[true,true,true,true,false,true,false,false,false,false,false,false,false,false,false,false,false,false,false,false,false,false,false,false] rfl rfl (any_of HT_.out (by kernel_rfl)) (fun _ _ _ h=>h) (Or.inl ⟨by rfl,?_⟩) ?_ ?_
                     rotate_left
                     ·intro w'
                      go_simp
                      with_reducible rfl
                     rotate_left
                     ·simp only [Act.put,List.setIfInBounds_toArray,List.set_cons_zero,List.set_cons_succ,i64_w,i32_w]
                      rfl
                     refine take_ (i:=4) (N:=some 61) (v:=?_) (a':=?_) #[true,true,true,true,true,true,false,false,false,false,false,false,false,false,false,false,false,false,false,false,false,false,false,false] rfl rfl (take_ofW HT_.out HW_.out (by kernel_rfl)) (fun _ _ _ h=>h) (Or.inl ⟨by rfl,?_⟩) hHeld ?_ ?_
                     rotate_left
                     ·rintro w' ⟨s0,s1,s2⟩
                      go_simp
                      with_reducible rfl
                     rotate_left
                     ·simp only [Act.put,List.setIfInBounds_toArray,List.set_cons_zero,List.set_cons_succ,i64_w,i32_w]
                      rfl
                     refine take_ (i:=6) (N:=some 63) (v:=?_) (a':=?_) #[true,true,true,true,true,true,true,false,false,false,false,false,false,false,false,false,false,false,false,false,false,false,false,false] rfl rfl (take_ofW HT_.out HW_.out (by kernel_rfl)) (fun _ _ _ h=>h) (Or.inl ⟨by rfl,?_⟩) hHeld ?_ ?_
                     rotate_left
                     ·rintro w' ⟨s0,s1,s2⟩
                      go_simp
                      with_reducible rfl
                     rotate_left
                     ·simp only [Act.put,List.setIfInBounds_toArray,List.set_cons_zero,List.set_cons_succ,i64_w,i32_w]
                      rfl
                     refine one_ (i:=7) (N:=some 64) #[true,true,true,true,true,true,true,true,false,false,false,false,false,false,false,false,false,false,false,false,false,false,false,false] rfl rfl (one_of HT_.out (by kernel_rfl)) (by decide) (fun K hK=>?_)
                     refine goes_ Tryd.func43 (by kernel_rfl) rfl #[.slice A143_0 (rd_L1 ((rd_T85 l0_1 x4_2).f1) x6_5).length c143_0,.int .i64 ((rd_T85 l0_1 x4_2).f0)] (by rfl) rfl rfl (by (try simp only [List.map_toArray,List.map_cons,List.map_nil]);first|done|rfl|(simp only [List.length_drop,List.length_take];rfl)) ?_
                     with_reducible refine (saronref00_Grows.calls kj27 _ _ (rd_L1 ((rd_T85 l0_1 x4_2).f1) x6_5) ((rd_T85 l0_1 x4_2).f0) true _ ?side1 ?side2 A35.out).mono ?_
                     (case side1=>repeat (first|exact (Kd.C_below HR143_0.out HB.out)|(with_reducible refine Kd.C_alloc ?_ _)|(with_reducible refine Kd.C_drewN ?_ _)|(with_reducible refine Kd.C_drew ?_)))
                     (case side2=>exact HC143_0.out)
                     rintro e w' ⟨rfl,⟨nd,rfl⟩⟩
                     refine ⟨_,rfl,?_⟩
                     refine hK.out _ _ ⟨(blk_cell BK141.out 0).trans rfl,(blk_cell BK141.out 1).trans rfl,((HB.out.cell (World.block_lt_of_cell? w _ hw143_0)).trans hw143_0)⟩ (fun hHeld=>?_)
                     clear hK K
                     refine norm_ (a':=?_) ?_ ?_
                     rotate_left
                     ·show Act.put _ (some 64) _=_
                      simp only [Act.put,List.setIfInBounds_toArray,List.set_cons_zero,List.set_cons_succ,i64_w,i32_w]
                      rfl
                     refine pure_ (i:=8) (N:=some 65) (v:=?_) (a':=?_) #[true,true,true,true,true,true,true,true,true,false,false,false,false,false,false,false,false,false,false,false,false,false,false,false] rfl rfl (any_of HT_.out (by kernel_rfl)) (fun _ _ _ h=>h) (Or.inl ⟨by rfl,?_⟩) ?_ ?_
                     rotate_left
                     ·intro w'
                      go_simp
                      with_reducible rfl
                     rotate_left
                     ·simp only [Act.put,List.setIfInBounds_toArray,List.set_cons_zero,List.set_cons_succ,i64_w,i32_w]
                      rfl
                     refine pure_ (i:=9) (N:=some 66) (v:=?_) (a':=?_) #[true,true,true,true,true,true,true,true,true,true,false,false,false,false,false,false,false,false,false,false,false,false,false,false] rfl rfl (any_of HT_.out (by kernel_rfl)) (fun _ _ _ h=>h) (Or.inl ⟨by rfl,?_⟩) ?_ ?_
                     rotate_left
                     ·intro w'
                      go_simp
                      with_reducible rfl
                     rotate_left
                     ·simp only [Act.put,List.setIfInBounds_toArray,List.set_cons_zero,List.set_cons_succ,i64_w,i32_w]
                      rfl
                     refine pure_ (i:=10) (N:=some 67) (v:=?_) (a':=?_) #[true,true,true,true,true,true,true,true,true,true,true,false,false,false,false,false,false,false,false,false,false,false,false,false] rfl rfl (any_of HT_.out (by kernel_rfl)) (fun _ _ _ h=>h) (Or.inl ⟨by rfl,?_⟩) ?_ ?_
                     rotate_left
                     ·intro w'
                      go_simp
                      with_reducible rfl
                     rotate_left
                     ·simp only [Act.put,List.setIfInBounds_toArray,List.set_cons_zero,List.set_cons_succ,i64_w,i32_w]
                      rfl
                     refine pure_ (i:=11) (N:=some 68) (v:=?_) (a':=?_) #[true,true,true,true,true,true,true,true,true,true,true,true,false,false,false,false,false,false,false,false,false,false,false,false] rfl rfl (any_of HT_.out (by kernel_rfl)) (fun _ _ _ h=>h) (Or.inl ⟨by rfl,?_⟩) ?_ ?_
                     rotate_left
                     ·intro w'
                      go_simp
                      with_reducible rfl
                     rotate_left
                     ·simp only [Act.put,List.setIfInBounds_toArray,List.set_cons_zero,List.set_cons_succ,i64_w,i32_w]
                      rfl
                     refine pure_ (i:=12) (N:=some 69) (v:=undef) (a':=?_) #[true,true,true,true,true,true,true,true,true,true,true,true,true,false,false,false,false,false,false,false,false,false,false,false] rfl rfl (any_of HT_.out (by kernel_rfl)) (fun _ _ _ h=>h) (Or.inr ⟨by rfl,rfl⟩) ?_ ?_
                     rotate_left
                     ·simp only [Act.put,List.setIfInBounds_toArray,List.set_cons_zero,List.set_cons_succ,i64_w,i32_w]
                      rfl
                     refine pure_ (i:=13) (N:=some 70) (v:=undef) (a':=?_) #[true,true,true,true,true,true,true,true,true,true,true,true,true,true,false,false,false,false,false,false,false,false,false,false] rfl rfl (any_of HT_.out (by kernel_rfl)) (fun _ _ _ h=>h) (Or.inr ⟨by rfl,rfl⟩) ?_ ?_
                     rotate_left
                     ·simp only [Act.put,List.setIfInBounds_toArray,List.set_cons_zero,List.set_cons_succ,i64_w,i32_w]
                      rfl
                     refine pure_ (i:=14) (N:=some 71) (v:=undef) (a':=?_) #[true,true,true,true,true,true,true,true,true,true,true,true,true,true,true,false,false,false,false,false,false,false,false,false] rfl rfl (any_of HT_.out (by kernel_rfl)) (fun _ _ _ h=>h) (Or.inr ⟨by rfl,rfl⟩) ?_ ?_
                     rotate_left
                     ·simp only [Act.put,List.setIfInBounds_toArray,List.set_cons_zero,List.set_cons_succ,i64_w,i32_w]
                      rfl
                     refine pure_ (i:=15) (N:=some 72) (v:=undef) (a':=?_) #[true,true,true,true,true,true,true,true,true,true,true,true,true,true,true,true,false,false,false,false,false,false,false,false] rfl rfl (any_of HT_.out (by kernel_rfl)) (fun _ _ _ h=>h) (Or.inr ⟨by rfl,rfl⟩) ?_ ?_
                     rotate_left
                     ·simp only [Act.put,List.setIfInBounds_toArray,List.set_cons_zero,List.set_cons_succ,i64_w,i32_w]
                      rfl
                     refine pure_ (i:=16) (N:=some 73) (v:=undef) (a':=?_) #[true,true,true,true,true,true,true,true,true,true,true,true,true,true,true,true,true,false,false,false,false,false,false,false] rfl rfl (any_of HT_.out (by kernel_rfl)) (fun _ _ _ h=>h) (Or.inr ⟨by rfl,rfl⟩) ?_ ?_
                     rotate_left
                     ·simp only [Act.put,List.setIfInBounds_toArray,List.set_cons_zero,List.set_cons_succ,i64_w,i32_w]
                      rfl
                     refine pure_ (i:=17) (N:=some 74) (v:=undef) (a':=?_) #[true,true,true,true,true,true,true,true,true,true,true,true,true,true,true,true,true,true,false,false,false,false,false,false] rfl rfl (any_of HT_.out (by kernel_rfl)) (fun _ _ _ h=>h) (Or.inr ⟨by rfl,rfl⟩) ?_ ?_
                     rotate_left
                     ·simp only [Act.put,List.setIfInBounds_toArray,List.set_cons_zero,List.set_cons_succ,i64_w,i32_w]
                      rfl
                     refine pure_ (i:=18) (N:=some 75) (v:=undef) (a':=?_) #[true,true,true,true,true,true,true,true,true,true,true,true,true,true,true,true,true,true,true,false,false,false,false,false] rfl rfl (any_of HT_.out (by kernel_rfl)) (fun _ _ _ h=>h) (Or.inr ⟨by rfl,rfl⟩) ?_ ?_
                     rotate_left
                     ·simp only [Act.put,List.setIfInBounds_toArray,List.set_cons_zero,List.set_cons_succ,i64_w,i32_w]
                      rfl
                     refine pure_ (i:=19) (N:=some 76) (v:=undef) (a':=?_) #[true,true,true,true,true,true,true,true,true,true,true,true,true,true,true,true,true,true,true,true,false,false,false,false] rfl rfl (any_of HT_.out (by kernel_rfl)) (fun _ _ _ h=>h) (Or.inr ⟨by rfl,rfl⟩) ?_ ?_
                     rotate_left
                     ·simp only [Act.put,List.setIfInBounds_toArray,List.set_cons_zero,List.set_cons_succ,i64_w,i32_w]
                      rfl
                     refine pure_ (i:=20) (N:=some 77) (v:=undef) (a':=?_) #[true,true,true,true,true,true,true,true,true,true,true,true,true,true,true,true,true,true,true,true,true,false,false,false] rfl rfl (any_of HT_.out (by kernel_rfl)) (fun _ _ _ h=>h) (Or.inr ⟨by rfl,rfl⟩) ?_ ?_
                     rotate_left
                     ·simp only [Act.put,List.setIfInBounds_toArray,List.set_cons_zero,List.set_cons_succ,i64_w,i32_w]
                      rfl
                     refine pure_ (i:=21) (N:=some 78) (v:=?_) (a':=?_) #[true,true,true,true,true,true,true,true,true,true,true,true,true,true,true,true,true,true,true,true,true,true,false,false] rfl rfl (any_of HT_.out (by kernel_rfl)) (fun _ _ _ h=>h) (Or.inl ⟨by rfl,?_⟩) ?_ ?_
                     rotate_left
                     ·intro w'
                      go_simp
                      with_reducible rfl
                     rotate_left
                     ·simp only [Act.put,List.setIfInBounds_toArray,List.set_cons_zero,List.set_cons_succ,i64_w,i32_w]
                      rfl
                     refine pure_ (i:=22) (N:=some 79) (v:=?_) (a':=?_) #[true,true,true,true,true,true,true,true,true,true,true,true,true,true,true,true,true,true,true,true,true,true,true,false] rfl rfl (any_of HT_.out (by kernel_rfl)) (fun _ _ _ h=>h) (Or.inl ⟨by rfl,?_⟩) ?_ ?_
                     rotate_left
                     ·intro w'
                      go_simp
                      with_reducible rfl
                     rotate_left
                     ·simp only [Act.put,List.setIfInBounds_toArray,List.set_cons_zero,List.set_cons_succ,i64_w,i32_w]
                      rfl
                     refine pure_ (i:=23) (N:=some 3) (v:=?_) (a':=?_) #[true,true,true,true,true,true,true,true,true,true,true,true,true,true,true,true,true,true,true,true,true,true,true,true] rfl rfl (any_of HT_.out (by kernel_rfl)) (fun _ _ _ h=>h) (Or.inl ⟨by rfl,?_⟩) ?_ ?_
                     rotate_left
                     ·intro w'
                      go_simp
                      with_reducible rfl
                     rotate_left
                     ·simp only [Act.put,List.setIfInBounds_toArray,List.set_cons_zero,List.set_cons_succ,i64_w,i32_w]
                      rfl
                     refine done_ (done_of HT_.out (by kernel_rfl)) ?_
                     try go_wp2
                     go_roundg kj27
                     case measure=>have:=HJ1.out;have:=HK2.out;have:=HJ9.out;have:=HJ15.out;have:=HK5.out;have:=HJ27.out;omega
                     case rel=>exact ⟨(true),(wrap64 (x6_5+1)),(by first|rfl|(simp;done)|(simp [*];done)),(by first|rfl|(simp;done)|(simp [*];done)),H',⟨by have:=HJ1.out;have:=HK2.out;have:=HJ9.out;have:=HJ15.out;have:=HK5.out;have:=HJ27.out;omega⟩,⟨by (with_reducible repeat (first|refine blk_drewN ?_ _|refine blk_drew ?_|refine blk_alloc ?_ _));exact BK138.out⟩,⟨by (with_reducible repeat (first|refine blk_drewN ?_ _|refine blk_drew ?_|refine blk_alloc ?_ _));exact BK141.out⟩,⟨by repeat (first|(with_reducible first|exact HB.out|apply below_alloc|apply pw_below_drewN|apply below_drew1|refine below_set ?_ GE138.out|refine below_set ?_ GE141.out)|exact HB.out)⟩⟩
                    ·rw [if_neg c37] at H
                     have c37b0:decide (0<x6_5)=false:=decide_eq_false c37
                     clear c37
                     by_cases c39:0<(((rd_T85 l0_1 x4_2).f1).length:Int)
                     ·rw [if_pos c39] at H
                      have c39b0:decide (0<(((rd_T85 l0_1 x4_2).f1).length:Int))=true:=decide_eq_true c39
                      have c39b1:decide (0<((rd_T85 l0_1 x4_2).f1).length)=true:=decide_eq_true (by omega)
                      clear c39
                      obtain ⟨y146,hy146⟩:∃ y_:List Int,y_=(([wrap64 (((rd_T85 l0_1 x4_2).f0) - 1)]:List Int)):=⟨_,rfl⟩
                      replace H:((saronref00_Equal.f kj27 (rd_L1 ((rd_T85 l0_1 x4_2).f1) 0) y146).bind fun t149=>(saronref05_Check.l1 kj27 t149 x4_2 (wrap64 (x6_5+1)) a0_0 l0_1 ((rd_T85 l0_1 x4_2).f0) ((rd_T85 l0_1 x4_2).f1)))=some r:=by first|(rw [hy146];with_reducible exact H)|(have H2_:=(Option.bind_some _ _).symm.trans H;rw [hy146];with_reducible exact H2_)|(have H2_:=(Option.bind_some _ _).symm.trans H;with_reducible exact H2_)|with_reducible exact H|(rw [hy146];exact H)|exact H
                      have Ny146:=Aside0.mk hy146
                      clear hy146
                      replace H:=Option.bind_eq_some_iff.mp H
                      obtain ⟨t149,A400,H⟩:=H
                      try dsimp only at H
                      have A40:=Aside0.mk A400
                      clear A400
                      have H':=Aside0.mk H
                      clear H
                      try go_wp2
                      have n0_:=Aside0.mk (blk_drew BK138.out)
                      have n1_:=Aside0.mk (blk_drew BK141.out)
                      have n2_:=Aside0.mk (below_drew1 HB.out)
                      clear BK138
                      clear BK141
                      clear HB
                      have BK138:=n0_
                      have BK141:=n1_
                      have HB:=n2_
                      clear n0_ n1_ n2_
                      have p143:0≤(x6_5:Int):=of_decide_eq_true (by first|(with_reducible assumption)|assumption)
                      have q143:x6_5<(((rd_T85 l0_1 x4_2).f1).length:Int):=of_decide_eq_true (by first|(with_reducible assumption)|assumption)
                      obtain ⟨ad143,A143_0,c143_0,e143,hx143_0,hl143_0,hi143_0⟩:=at_L1 HR140_1.out x6_5 p143 q143
                      have hw143_0:=hx143_0
                      cases e143
                      replace hx143_0:=(HB.out.cell (World.block_lt_of_cell? w _ hx143_0)).trans hx143_0
                      have HR143_0:=Aside0.mk hi143_0
                      have HC143_0:=Aside0.mk hl143_0
                      clear hi143_0 hl143_0
                      replace p143:=eq_true p143
                      replace q143:=eq_true q143
                      have p145:0≤(0:Int):=(by omega)
                      have q145:0<(((rd_T85 l0_1 x4_2).f1).length:Int):=of_decide_eq_true (by first|(with_reducible assumption)|assumption)
                      obtain ⟨ad145,A145_0,c145_0,e145,hx145_0,hl145_0,hi145_0⟩:=at_L1 HR140_1.out 0 p145 q145
                      have hw145_0:=hx145_0
                      (try rw [show ((0:Int)).toNat=0 from rfl] at hw145_0)
                      (try rw [show 0 * 1=0 from rfl] at hw145_0)
                      (try rw [Addr.add_zero'] at hw145_0)
                      obtain rfl:ad143=ad145:=(by injection e145)
                      have qi145:(0<((rd_T85 l0_1 x4_2).f1).length)=True:=eq_true (by omega)
                      (try rw [show ((0:Int)).toNat=0 from rfl] at hx145_0)
                      (try rw [Addr.add_zero'] at hx145_0)
                      replace hx145_0:=(HB.out.cell (World.block_lt_of_cell? w _ hx145_0)).trans hx145_0
                      have HR145_0:=Aside0.mk hi145_0
                      have HC145_0:=Aside0.mk hl145_0
                      clear hi145_0 hl145_0
                      replace p145:=eq_true p145
                      replace q145:=eq_true q145
                      refine start_ (n:=24) (S:=fun w'=>w'.cell? ⟨gb141,0,none⟩=some (.int .i64 ((rd_T85 l0_1 x4_2).f0))∧w'.cell? ⟨gb141,1,none⟩=some (.slice (some ad143) ((rd_T85 l0_1 x4_2).f1).length c140_1)∧w'.cell? (ad143.add (x6_5).toNat)=some (.slice A143_0 (rd_L1 ((rd_T85 l0_1 x4_2).f1) x6_5).length c143_0)∧w'.cell? ad143=some (.slice A145_0 (rd_L1 ((rd_T85 l0_1 x4_2).f1) 0).length c145_0)) (ds:=[]) #[false,false,false,false,false,false,false,false,false,false,false,false,false,false,false,false,false,false,false,false,false,false,false,false] (by kernel_rfl) rfl rfl ⟨(blk_cell BK141.out 0).trans rfl,(blk_cell BK141.out 1).trans rfl,((HB.out.cell (World.block_lt_of_cell? w _ hw143_0)).trans hw143_0),((HB.out.cell (World.block_lt_of_cell? w _ hw145_0)).trans hw145_0)⟩ (fun hHeld=>?_);refine with_tabW saronref05_Check.tab10 saronref05_Check.bits10 (fun HT_ HW_=>?_)
                      generalize wc.drew=w41 at BK138 BK141 HB HR143_0 HR145_0 hx143_0 hx145_0 hHeld ⊢
                      refine pure_ (i:=0) (N:=some 57) (v:=?_) (a':=?_) #[true,false,false,false,false,false,false,false,false,false,false,false,false,false,false,false,false,false,false,false,false,false,false,false] rfl rfl (any_of HT_.out (by kernel_rfl)) (fun _ _ _ h=>h) (Or.inl ⟨by rfl,?_⟩) ?_ ?_
                      rotate_left
                      ·intro w'
                       go_simp
                       with_reducible rfl
                      rotate_left
                      ·simp only [Act.put,List.setIfInBounds_toArray,List.set_cons_zero,List.set_cons_succ,i64_w,i32_w]
                       rfl
                      refine pure_ (i:=2) (N:=some 59) (v:=?_) (a':=?_) #[true,false,true,false,false,false,false,false,false,false,false,false,false,false,false,false,false,false,false,false,false,false,false,false] rfl rfl (any_of HT_.out (by kernel_rfl)) (fun _ _ _ h=>h) (Or.inl ⟨by rfl,?_⟩) ?_ ?_
                      rotate_left
                      ·intro w'
                       go_simp
                       with_reducible rfl
                      rotate_left
                      ·simp only [Act.put,List.setIfInBounds_toArray,List.set_cons_zero,List.set_cons_succ,i64_w,i32_w]
                       rfl
                      refine pure_ (i:=5) (N:=some 62) (v:=?_) (a':=?_) #[true,false,true,false,false,true,false,false,false,false,false,false,false,false,false,false,false,false,false,false,false,false,false,false] rfl rfl (any_of HT_.out (by kernel_rfl)) (fun _ _ _ h=>h) (Or.inl ⟨by rfl,?_⟩) ?_ ?_
                      rotate_left
                      ·intro w'
                       go_simp
                       with_reducible rfl
                      rotate_left
                      ·simp only [Act.put,List.setIfInBounds_toArray,List.set_cons_zero,List.set_cons_succ,i64_w,i32_w]
                       rfl
                      refine take_ (i:=1) (N:=some 58) (v:=?_) (a':=?_) #[true,true,true,false,false,true,false,false,false,false,false,false,false,false,false,false,false,false,false,false,false,false,false,false] rfl rfl (take_ofW HT_.out HW_.out (by kernel_rfl)) (fun _ _ _ h=>h) (Or.inl ⟨by rfl,?_⟩) hHeld ?_ ?_
                      rotate_left
                      ·rintro w' ⟨s0,s1,s2,s3⟩
                       go_simp
                       with_reducible rfl
                      rotate_left
                      ·simp only [Act.put,List.setIfInBounds_toArray,List.set_cons_zero,List.set_cons_succ,i64_w,i32_w]
                       rfl
                      refine pure_ (i:=3) (N:=some 60) (v:=?_) (a':=?_) #[true,true,true,true,false,true,false,false,false,false,false,false,false,false,false,false,false,false,false,false,false,false,false,false] rfl rfl (any_of HT_.out (by kernel_rfl)) (fun _ _ _ h=>h) (Or.inl ⟨by rfl,?_⟩) ?_ ?_
                      rotate_left
                      ·intro w'
                       go_simp
                       with_reducible rfl
                      rotate_left
                      ·simp only [Act.put,List.setIfInBounds_toArray,List.set_cons_zero,List.set_cons_succ,i64_w,i32_w]
                       rfl
                      refine take_ (i:=4) (N:=some 61) (v:=?_) (a':=?_) #[true,true,true,true,true,true,false,false,false,false,false,false,false,false,false,false,false,false,false,false,false,false,false,false] rfl rfl (take_ofW HT_.out HW_.out (by kernel_rfl)) (fun _ _ _ h=>h) (Or.inl ⟨by rfl,?_⟩) hHeld ?_ ?_
                      rotate_left
                      ·rintro w' ⟨s0,s1,s2,s3⟩
                       go_simp
                       with_reducible rfl
                      rotate_left
                      ·simp only [Act.put,List.setIfInBounds_toArray,List.set_cons_zero,List.set_cons_succ,i64_w,i32_w]
                       rfl
                      refine take_ (i:=6) (N:=some 63) (v:=?_) (a':=?_) #[true,true,true,true,true,true,true,false,false,false,false,false,false,false,false,false,false,false,false,false,false,false,false,false] rfl rfl (take_ofW HT_.out HW_.out (by kernel_rfl)) (fun _ _ _ h=>h) (Or.inl ⟨by rfl,?_⟩) hHeld ?_ ?_
                      rotate_left
                      ·rintro w' ⟨s0,s1,s2,s3⟩
                       go_simp
                       with_reducible rfl
                      rotate_left
                      ·simp only [Act.put,List.setIfInBounds_toArray,List.set_cons_zero,List.set_cons_succ,i64_w,i32_w]
                       rfl
                      refine one_ (i:=7) (N:=some 64) #[true,true,true,true,true,true,true,true,false,false,false,false,false,false,false,false,false,false,false,false,false,false,false,false] rfl rfl (one_of HT_.out (by kernel_rfl)) (by decide) (fun K hK=>?_)
                      refine goes_ Tryd.func43 (by kernel_rfl) rfl #[.slice A143_0 (rd_L1 ((rd_T85 l0_1 x4_2).f1) x6_5).length c143_0,.int .i64 ((rd_T85 l0_1 x4_2).f0)] (by rfl) rfl rfl (by (try simp only [List.map_toArray,List.map_cons,List.map_nil]);first|done|rfl|(simp only [List.length_drop,List.length_take];rfl)) ?_
                      with_reducible refine (saronref00_Grows.calls kj27 _ _ (rd_L1 ((rd_T85 l0_1 x4_2).f1) x6_5) ((rd_T85 l0_1 x4_2).f0) true _ ?side1 ?side2 A35.out).mono ?_
                      (case side1=>repeat (first|exact (Kd.C_below HR143_0.out HB.out)|(with_reducible refine Kd.C_alloc ?_ _)|(with_reducible refine Kd.C_drewN ?_ _)|(with_reducible refine Kd.C_drew ?_)))
                      (case side2=>exact HC143_0.out)
                      rintro e w' ⟨rfl,⟨nd,rfl⟩⟩
                      refine ⟨_,rfl,?_⟩
                      refine hK.out _ _ ⟨(blk_cell BK141.out 0).trans rfl,(blk_cell BK141.out 1).trans rfl,((HB.out.cell (World.block_lt_of_cell? w _ hw143_0)).trans hw143_0),((HB.out.cell (World.block_lt_of_cell? w _ hw145_0)).trans hw145_0)⟩ (fun hHeld=>?_)
                      clear hK K
                      refine norm_ (a':=?_) ?_ ?_
                      rotate_left
                      ·show Act.put _ (some 64) _=_
                       simp only [Act.put,List.setIfInBounds_toArray,List.set_cons_zero,List.set_cons_succ,i64_w,i32_w]
                       rfl
                      refine pure_ (i:=8) (N:=some 65) (v:=?_) (a':=?_) #[true,true,true,true,true,true,true,true,true,false,false,false,false,false,false,false,false,false,false,false,false,false,false,false] rfl rfl (any_of HT_.out (by kernel_rfl)) (fun _ _ _ h=>h) (Or.inl ⟨by rfl,?_⟩) ?_ ?_
                      rotate_left
                      ·intro w'
                       go_simp
                       with_reducible rfl
                      rotate_left
                      ·simp only [Act.put,List.setIfInBounds_toArray,List.set_cons_zero,List.set_cons_succ,i64_w,i32_w]
                       rfl
                      refine pure_ (i:=9) (N:=some 66) (v:=?_) (a':=?_) #[true,true,true,true,true,true,true,true,true,true,false,false,false,false,false,false,false,false,false,false,false,false,false,false] rfl rfl (any_of HT_.out (by kernel_rfl)) (fun _ _ _ h=>h) (Or.inl ⟨by rfl,?_⟩) ?_ ?_
                      rotate_left
                      ·intro w'
                       go_simp
                       with_reducible rfl
                      rotate_left
                      ·simp only [Act.put,List.setIfInBounds_toArray,List.set_cons_zero,List.set_cons_succ,i64_w,i32_w]
                       rfl
                      refine pure_ (i:=10) (N:=some 67) (v:=?_) (a':=?_) #[true,true,true,true,true,true,true,true,true,true,true,false,false,false,false,false,false,false,false,false,false,false,false,false] rfl rfl (any_of HT_.out (by kernel_rfl)) (fun _ _ _ h=>h) (Or.inl ⟨by rfl,?_⟩) ?_ ?_
                      rotate_left
                      ·intro w'
                       go_simp
                       with_reducible rfl
                      rotate_left
                      ·simp only [Act.put,List.setIfInBounds_toArray,List.set_cons_zero,List.set_cons_succ,i64_w,i32_w]
                       rfl
                      refine pure_ (i:=11) (N:=some 68) (v:=?_) (a':=?_) #[true,true,true,true,true,true,true,true,true,true,true,true,false,false,false,false,false,false,false,false,false,false,false,false] rfl rfl (any_of HT_.out (by kernel_rfl)) (fun _ _ _ h=>h) (Or.inl ⟨by rfl,?_⟩) ?_ ?_
                      rotate_left
                      ·intro w'
                       go_simp
                       with_reducible rfl
                      rotate_left
                      ·simp only [Act.put,List.setIfInBounds_toArray,List.set_cons_zero,List.set_cons_succ,i64_w,i32_w]
                       rfl
                      refine pure_ (i:=12) (N:=some 69) (v:=?_) (a':=?_) #[true,true,true,true,true,true,true,true,true,true,true,true,true,false,false,false,false,false,false,false,false,false,false,false] rfl rfl (any_of HT_.out (by kernel_rfl)) (fun _ _ _ h=>h) (Or.inl ⟨by rfl,?_⟩) ?_ ?_
                      rotate_left
                      ·intro w'
                       go_simp
                       with_reducible rfl
                      rotate_left
                      ·simp only [Act.put,List.setIfInBounds_toArray,List.set_cons_zero,List.set_cons_succ,i64_w,i32_w]
                       rfl
                      refine pure_ (i:=16) (N:=some 73) (v:=?_) (a':=?_) #[true,true,true,true,true,true,true,true,true,true,true,true,true,false,false,false,true,false,false,false,false,false,false,false] rfl rfl (any_of HT_.out (by kernel_rfl)) (fun _ _ _ h=>h) (Or.inl ⟨by rfl,?_⟩) ?_ ?_
                      rotate_left
                      ·intro w'
                       go_simp
                       with_reducible rfl
                      rotate_left
                      ·simp only [Act.put,List.setIfInBounds_toArray,List.set_cons_zero,List.set_cons_succ,i64_w,i32_w]
                       rfl
                      refine take_ (i:=13) (N:=some 70) (v:=?_) (a':=?_) #[true,true,true,true,true,true,true,true,true,true,true,true,true,true,false,false,true,false,false,false,false,false,false,false] rfl rfl (take_ofW HT_.out HW_.out (by kernel_rfl)) (fun _ _ _ h=>h) (Or.inl ⟨by rfl,?_⟩) hHeld ?_ ?_
                      rotate_left
                      ·rintro w' ⟨s0,s1,s2,s3⟩
                       go_simp
                       with_reducible rfl
                      rotate_left
                      ·simp only [Act.put,List.setIfInBounds_toArray,List.set_cons_zero,List.set_cons_succ,i64_w,i32_w]
                       rfl
                      refine pure_ (i:=14) (N:=some 71) (v:=?_) (a':=?_) #[true,true,true,true,true,true,true,true,true,true,true,true,true,true,true,false,true,false,false,false,false,false,false,false] rfl rfl (any_of HT_.out (by kernel_rfl)) (fun _ _ _ h=>h) (Or.inl ⟨by rfl,?_⟩) ?_ ?_
                      rotate_left
                      ·intro w'
                       go_simp
                       with_reducible rfl
                      rotate_left
                      ·simp only [Act.put,List.setIfInBounds_toArray,List.set_cons_zero,List.set_cons_succ,i64_w,i32_w]
                       rfl
                      refine take_ (i:=15) (N:=some 72) (v:=?_) (a':=?_) #[true,true,true,true,true,true,true,true,true,true,true,true,true,true,true,true,true,false,false,false,false,false,false,false] rfl rfl (take_ofW HT_.out HW_.out (by kernel_rfl)) (fun _ _ _ h=>h) (Or.inl ⟨by rfl,?_⟩) hHeld ?_ ?_
                      rotate_left
                      ·rintro w' ⟨s0,s1,s2,s3⟩
                       go_simp
                       with_reducible rfl
                      rotate_left
                      ·simp only [Act.put,List.setIfInBounds_toArray,List.set_cons_zero,List.set_cons_succ,i64_w,i32_w]
                       rfl
                      refine take_ (i:=17) (N:=some 74) (v:=?_) (a':=?_) #[true,true,true,true,true,true,true,true,true,true,true,true,true,true,true,true,true,true,false,false,false,false,false,false] rfl rfl (take_ofW HT_.out HW_.out (by kernel_rfl)) (fun _ _ _ h=>h) (Or.inl ⟨by rfl,?_⟩) hHeld ?_ ?_
                      rotate_left
                      ·rintro w' ⟨s0,s1,s2,s3⟩
                       go_simp
                       with_reducible rfl
                      rotate_left
                      ·simp only [Act.put,List.setIfInBounds_toArray,List.set_cons_zero,List.set_cons_succ,i64_w,i32_w]
                       rfl
                      refine pure_ (i:=18) (N:=some 75) (v:=?_) (a':=?_) #[true,true,true,true,true,true,true,true,true,true,true,true,true,true,true,true,true,true,true,false,false,false,false,false] rfl rfl (any_of HT_.out (by kernel_rfl)) (fun _ _ _ h=>h) (Or.inl ⟨by rfl,?_⟩) ?_ ?_
                      rotate_left
                      ·intro w'
                       go_simp
                       with_reducible rfl
                      rotate_left
                      ·simp only [Act.put,List.setIfInBounds_toArray,List.set_cons_zero,List.set_cons_succ,i64_w,i32_w]
                       rfl
                      refine one_ (i:=19) (N:=some 76) #[true,true,true,true,true,true,true,true,true,true,true,true,true,true,true,true,true,true,true,true,false,false,false,false] rfl rfl (one_of HT_.out (by kernel_rfl)) (by decide) (fun K hK=>?_)
                      refine Kd.R_lit_step (Kd.int .i64) _ 3 ?hg (N:=76) ?hd (xs:=([wrap64 (((rd_T85 l0_1 x4_2).f0) - 1)]:List Int)) (inner:=[.int .i64 (wrap64 (((rd_T85 l0_1 x4_2).f0) - 1))]) (ok:=fun _=>True) (okp:=fun _=>True) ?hr ?hp (fun _ hk=>hk) trivial (Below.refl _ _) (Nat.le_refl _) (by simp) ?_;(case hd=>rfl);(case hg=>rfl);(case hr=>first|(go_simp;done)|(go_simp;rfl));(case hp=>exact (Reps.one (show Kd.M (Kd.int .i64) _ _ _ (wrap64 (((rd_T85 l0_1 x4_2).f0) - 1)) [.int .i64 (wrap64 (((rd_T85 l0_1 x4_2).f0) - 1))] from rfl) (Reps.none _ _)))
                      intro v147 w42 ho43 hb hg_ hnew_
                      clear hg_ hnew_
                      (first|rw [← Ny146.out] at ho43|(simp only [Int.reduceToNat] at ho43;rw [← Ny146.out] at ho43))
                      have n0_:=Aside0.mk (Kd.R_lower ho43 (below_size (by repeat (first|(with_reducible first|exact HB.out|apply below_alloc|apply pw_below_drewN|apply below_drew1|refine below_set ?_ GE138.out|refine below_set ?_ GE141.out)|exact HB.out))))
                      have n1_:=Aside0.mk (blk_below (g:=gb138) (o:=.cells #[.int .i64 a0_0,.slice (some ad140) l0_1.length c0_1] 24 (0,0)) (by (with_reducible repeat (first|refine blk_drewN ?_ _|refine blk_drew ?_|refine blk_alloc ?_ _));exact BK138.out) hb)
                      have n2_:=Aside0.mk (blk_below (g:=gb141) (o:=.cells #[.int .i64 ((rd_T85 l0_1 x4_2).f0),.slice (some ad143) ((rd_T85 l0_1 x4_2).f1).length c140_1] 85 (0,0)) (by (with_reducible repeat (first|refine blk_drewN ?_ _|refine blk_drew ?_|refine blk_alloc ?_ _));exact BK141.out) hb)
                      have n3_:=Aside0.mk (below_step (by repeat (first|(with_reducible first|exact HB.out|apply below_alloc|apply pw_below_drewN|apply below_drew1|refine below_set ?_ GE138.out|refine below_set ?_ GE141.out)|exact HB.out)) hb)
                      clear BK138
                      clear BK141
                      clear HB
                      have HO148:=n0_
                      have BK138:=n1_
                      have BK141:=n2_
                      have HB:=n3_
                      clear n0_ n1_ n2_ n3_
                      clear hb ho43
                      obtain ⟨Ao44,co44,eo44⟩:=Kd.R_slice HO148.out
                      (first|subst eo44|(injection eo44 with f1_ f2_ f3_;have f4_:=f1_.symm;have f5_:=f3_.symm;clear f1_ f2_ f3_;subst f4_;subst f5_))
                      refine hK.out _ _ ⟨(blk_cell BK141.out 0).trans rfl,(blk_cell BK141.out 1).trans rfl,((HB.out.cell (World.block_lt_of_cell? w _ hw143_0)).trans hw143_0),((HB.out.cell (World.block_lt_of_cell? w _ hw145_0)).trans hw145_0)⟩ (fun hHeld=>?_)
                      clear hK K
                      refine norm_ (a':=?_) ?_ ?_
                      rotate_left
                      ·show Act.put _ (some 76) _=_
                       simp only [Act.put,List.setIfInBounds_toArray,List.set_cons_zero,List.set_cons_succ,i64_w,i32_w]
                       rfl
                      refine one_ (i:=20) (N:=some 77) #[true,true,true,true,true,true,true,true,true,true,true,true,true,true,true,true,true,true,true,true,true,false,false,false] rfl rfl (one_of HT_.out (by kernel_rfl)) (by decide) (fun K hK=>?_)
                      refine goes_ Tryd.func21 (by kernel_rfl) rfl #[.slice A145_0 (rd_L1 ((rd_T85 l0_1 x4_2).f1) 0).length c145_0,.slice Ao44 y146.length co44] (by rfl) rfl rfl (by (try simp only [List.map_toArray,List.map_cons,List.map_nil]);first|done|rfl|(simp only [List.length_drop,List.length_take];rfl)) ?_
                      with_reducible refine (saronref00_Equal.calls kj27 _ _ (rd_L1 ((rd_T85 l0_1 x4_2).f1) 0) _ _ y146 t149 _ ?side1 ?side2 ?side3 ?side4 A40.out).mono ?_
                      (case side1=>repeat (first|exact (Kd.C_below HR145_0.out HB.out)|(with_reducible refine Kd.C_alloc ?_ _)|(with_reducible refine Kd.C_drewN ?_ _)|(with_reducible refine Kd.C_drew ?_)))
                      (case side2=>exact HC145_0.out)
                      (case side3=>repeat (first|exact (Kd.R_reads' HO148.out).2.2|(with_reducible refine Kd.C_alloc ?_ _)|(with_reducible refine Kd.C_drewN ?_ _)|(with_reducible refine Kd.C_drew ?_)))
                      (case side4=>exact (Kd.R_reads' HO148.out).2.1)
                      rintro e w' ⟨rfl,⟨nd,rfl⟩⟩
                      refine ⟨_,rfl,?_⟩
                      refine hK.out _ _ ⟨(blk_cell BK141.out 0).trans rfl,(blk_cell BK141.out 1).trans rfl,((HB.out.cell (World.block_lt_of_cell? w _ hw143_0)).trans hw143_0),((HB.out.cell (World.block_lt_of_cell? w _ hw145_0)).trans hw145_0)⟩ (fun hHeld=>?_)
                      clear hK K
                      refine norm_ (a':=?_) ?_ ?_
                      rotate_left
                      ·show Act.put _ (some 77) _=_
                       simp only [Act.put,List.setIfInBounds_toArray,List.set_cons_zero,List.set_cons_succ,i64_w,i32_w]
                       rfl
                      refine pure_ (i:=21) (N:=some 78) (v:=?_) (a':=?_) #[true,true,true,true,true,true,true,true,true,true,true,true,true,true,true,true,true,true,true,true,true,true,false,false] rfl rfl (any_of HT_.out (by kernel_rfl)) (fun _ _ _ h=>h) (Or.inl ⟨by rfl,?_⟩) ?_ ?_
                      rotate_left
                      ·intro w'
                       go_simp
                       with_reducible rfl
                      rotate_left
                      ·simp only [Act.put,List.setIfInBounds_toArray,List.set_cons_zero,List.set_cons_succ,i64_w,i32_w]
                       rfl
                      refine pure_ (i:=22) (N:=some 79) (v:=?_) (a':=?_) #[true,true,true,true,true,true,true,true,true,true,true,true,true,true,true,true,true,true,true,true,true,true,true,false] rfl rfl (any_of HT_.out (by kernel_rfl)) (fun _ _ _ h=>h) (Or.inl ⟨by rfl,?_⟩) ?_ ?_
                      rotate_left
                      ·intro w'
                       go_simp
                       with_reducible rfl
                      rotate_left
                      ·simp only [Act.put,List.setIfInBounds_toArray,List.set_cons_zero,List.set_cons_succ,i64_w,i32_w]
                       rfl
                      refine pure_ (i:=23) (N:=some 3) (v:=?_) (a':=?_) #[true,true,true,true,true,true,true,true,true,true,true,true,true,true,true,true,true,true,true,true,true,true,true,true] rfl rfl (any_of HT_.out (by kernel_rfl)) (fun _ _ _ h=>h) (Or.inl ⟨by rfl,?_⟩) ?_ ?_
                      rotate_left
                      ·intro w'
                       go_simp
                       with_reducible rfl
                      rotate_left
                      ·simp only [Act.put,List.setIfInBounds_toArray,List.set_cons_zero,List.set_cons_succ,i64_w,i32_w]
                       rfl
                      refine done_ (done_of HT_.out (by kernel_rfl)) ?_
                      try go_wp2
                      go_roundg kj27
                      case measure=>have:=HJ1.out;have:=HK2.out;have:=HJ9.out;have:=HJ15.out;have:=HK5.out;have:=HJ27.out;omega
                      case rel=>exact ⟨(t149),(wrap64 (x6_5+1)),(by first|rfl|(simp;done)|(simp [*];done)),(by first|rfl|(simp;done)|(simp [*];done)),H',⟨by have:=HJ1.out;have:=HK2.out;have:=HJ9.out;have:=HJ15.out;have:=HK5.out;have:=HJ27.out;omega⟩,⟨by (with_reducible repeat (first|refine blk_drewN ?_ _|refine blk_drew ?_|refine blk_alloc ?_ _));exact BK138.out⟩,⟨by (with_reducible repeat (first|refine blk_drewN ?_ _|refine blk_drew ?_|refine blk_alloc ?_ _));exact BK141.out⟩,⟨by repeat (first|(with_reducible first|exact HB.out|apply below_alloc|apply pw_below_drewN|apply below_drew1|refine below_set ?_ GE138.out|refine below_set ?_ GE141.out)|exact HB.out)⟩⟩
                     ·rw [if_neg c39] at H
                      exact absurd H (by simp)
                   ·replace c36:=Bool.eq_false_iff.mpr c36
                    subst c36
                    rw [if_neg (show ¬ (false=true) by decide)] at H
                    have H':=Aside0.mk H
                    clear H
                    try go_wp2
                    have n0_:=Aside0.mk (blk_drew BK138.out)
                    have n1_:=Aside0.mk (blk_drew BK141.out)
                    have n2_:=Aside0.mk (below_drew1 HB.out)
                    clear BK138
                    clear BK141
                    clear HB
                    have BK138:=n0_
                    have BK141:=n1_
                    have HB:=n2_
                    clear n0_ n1_ n2_
                    have p143:0≤(x6_5:Int):=of_decide_eq_true (by first|(with_reducible assumption)|assumption)
                    have q143:x6_5<(((rd_T85 l0_1 x4_2).f1).length:Int):=of_decide_eq_true (by first|(with_reducible assumption)|assumption)
                    obtain ⟨ad143,A143_0,c143_0,e143,hx143_0,hl143_0,hi143_0⟩:=at_L1 HR140_1.out x6_5 p143 q143
                    have hw143_0:=hx143_0
                    cases e143
                    replace hx143_0:=(HB.out.cell (World.block_lt_of_cell? w _ hx143_0)).trans hx143_0
                    have HR143_0:=Aside0.mk hi143_0
                    have HC143_0:=Aside0.mk hl143_0
                    clear hi143_0 hl143_0
                    replace p143:=eq_true p143
                    replace q143:=eq_true q143
                    refine start_ (n:=24) (S:=fun w'=>w'.cell? ⟨gb141,0,none⟩=some (.int .i64 ((rd_T85 l0_1 x4_2).f0))∧w'.cell? ⟨gb141,1,none⟩=some (.slice (some ad143) ((rd_T85 l0_1 x4_2).f1).length c140_1)∧w'.cell? (ad143.add (x6_5).toNat)=some (.slice A143_0 (rd_L1 ((rd_T85 l0_1 x4_2).f1) x6_5).length c143_0)) (ds:=[]) #[false,false,false,false,false,false,false,false,false,false,false,false,false,false,false,false,false,false,false,false,false,false,false,false] (by kernel_rfl) rfl rfl ⟨(blk_cell BK141.out 0).trans rfl,(blk_cell BK141.out 1).trans rfl,((HB.out.cell (World.block_lt_of_cell? w _ hw143_0)).trans hw143_0)⟩ (fun hHeld=>?_);refine with_tabW saronref05_Check.tab10 saronref05_Check.bits10 (fun HT_ HW_=>?_)
                    generalize wc.drew=w45 at BK138 BK141 HB HR143_0 hx143_0 hHeld ⊢
                    refine pure_ (i:=0) (N:=some 57) (v:=?_) (a':=?_) #[true,false,false,false,false,false,false,false,false,false,false,false,false,false,false,false,false,false,false,false,false,false,false,false] rfl rfl (any_of HT_.out (by kernel_rfl)) (fun _ _ _ h=>h) (Or.inl ⟨by rfl,?_⟩) ?_ ?_
                    rotate_left
                    ·intro w'
                     go_simp
                     with_reducible rfl
                    rotate_left
                    ·simp only [Act.put,List.setIfInBounds_toArray,List.set_cons_zero,List.set_cons_succ,i64_w,i32_w]
                     rfl
                    refine pure_ (i:=2) (N:=some 59) (v:=?_) (a':=?_) #[true,false,true,false,false,false,false,false,false,false,false,false,false,false,false,false,false,false,false,false,false,false,false,false] rfl rfl (any_of HT_.out (by kernel_rfl)) (fun _ _ _ h=>h) (Or.inl ⟨by rfl,?_⟩) ?_ ?_
                    rotate_left
                    ·intro w'
                     go_simp
                     with_reducible rfl
                    rotate_left
                    ·simp only [Act.put,List.setIfInBounds_toArray,List.set_cons_zero,List.set_cons_succ,i64_w,i32_w]
                     rfl
                    refine pure_ (i:=5) (N:=some 62) (v:=?_) (a':=?_) #[true,false,true,false,false,true,false,false,false,false,false,false,false,false,false,false,false,false,false,false,false,false,false,false] rfl rfl (any_of HT_.out (by kernel_rfl)) (fun _ _ _ h=>h) (Or.inl ⟨by rfl,?_⟩) ?_ ?_
                    rotate_left
                    ·intro w'
                     go_simp
                     with_reducible rfl
                    rotate_left
                    ·simp only [Act.put,List.setIfInBounds_toArray,List.set_cons_zero,List.set_cons_succ,i64_w,i32_w]
                     rfl
                    refine take_ (i:=1) (N:=some 58) (v:=?_) (a':=?_) #[true,true,true,false,false,true,false,false,false,false,false,false,false,false,false,false,false,false,false,false,false,false,false,false] rfl rfl (take_ofW HT_.out HW_.out (by kernel_rfl)) (fun _ _ _ h=>h) (Or.inl ⟨by rfl,?_⟩) hHeld ?_ ?_
                    rotate_left
                    ·rintro w' ⟨s0,s1,s2⟩
                     go_simp
                     with_reducible rfl
                    rotate_left
                    ·simp only [Act.put,List.setIfInBounds_toArray,List.set_cons_zero,List.set_cons_succ,i64_w,i32_w]
                     rfl
                    refine pure_ (i:=3) (N:=some 60) (v:=?_) (a':=?_) #[true,true,true,true,false,true,false,false,false,false,false,false,false,false,false,false,false,false,false,false,false,false,false,false] rfl rfl (any_of HT_.out (by kernel_rfl)) (fun _ _ _ h=>h) (Or.inl ⟨by rfl,?_⟩) ?_ ?_
                    rotate_left
                    ·intro w'
                     go_simp
                     with_reducible rfl
                    rotate_left
                    ·simp only [Act.put,List.setIfInBounds_toArray,List.set_cons_zero,List.set_cons_succ,i64_w,i32_w]
                     rfl
                    refine take_ (i:=4) (N:=some 61) (v:=?_) (a':=?_) #[true,true,true,true,true,true,false,false,false,false,false,false,false,false,false,false,false,false,false,false,false,false,false,false] rfl rfl (take_ofW HT_.out HW_.out (by kernel_rfl)) (fun _ _ _ h=>h) (Or.inl ⟨by rfl,?_⟩) hHeld ?_ ?_
                    rotate_left
                    ·rintro w' ⟨s0,s1,s2⟩
                     go_simp
                     with_reducible rfl
                    rotate_left
                    ·simp only [Act.put,List.setIfInBounds_toArray,List.set_cons_zero,List.set_cons_succ,i64_w,i32_w]
                     rfl
                    refine take_ (i:=6) (N:=some 63) (v:=?_) (a':=?_) #[true,true,true,true,true,true,true,false,false,false,false,false,false,false,false,false,false,false,false,false,false,false,false,false] rfl rfl (take_ofW HT_.out HW_.out (by kernel_rfl)) (fun _ _ _ h=>h) (Or.inl ⟨by rfl,?_⟩) hHeld ?_ ?_
                    rotate_left
                    ·rintro w' ⟨s0,s1,s2⟩
                     go_simp
                     with_reducible rfl
                    rotate_left
                    ·simp only [Act.put,List.setIfInBounds_toArray,List.set_cons_zero,List.set_cons_succ,i64_w,i32_w]
                     rfl
                    refine one_ (i:=7) (N:=some 64) #[true,true,true,true,true,true,true,true,false,false,false,false,false,false,false,false,false,false,false,false,false,false,false,false] rfl rfl (one_of HT_.out (by kernel_rfl)) (by decide) (fun K hK=>?_)
                    refine goes_ Tryd.func43 (by kernel_rfl) rfl #[.slice A143_0 (rd_L1 ((rd_T85 l0_1 x4_2).f1) x6_5).length c143_0,.int .i64 ((rd_T85 l0_1 x4_2).f0)] (by rfl) rfl rfl (by (try simp only [List.map_toArray,List.map_cons,List.map_nil]);first|done|rfl|(simp only [List.length_drop,List.length_take];rfl)) ?_
                    with_reducible refine (saronref00_Grows.calls kj27 _ _ (rd_L1 ((rd_T85 l0_1 x4_2).f1) x6_5) ((rd_T85 l0_1 x4_2).f0) false _ ?side1 ?side2 A35.out).mono ?_
                    (case side1=>repeat (first|exact (Kd.C_below HR143_0.out HB.out)|(with_reducible refine Kd.C_alloc ?_ _)|(with_reducible refine Kd.C_drewN ?_ _)|(with_reducible refine Kd.C_drew ?_)))
                    (case side2=>exact HC143_0.out)
                    rintro e w' ⟨rfl,⟨nd,rfl⟩⟩
                    refine ⟨_,rfl,?_⟩
                    refine hK.out _ _ ⟨(blk_cell BK141.out 0).trans rfl,(blk_cell BK141.out 1).trans rfl,((HB.out.cell (World.block_lt_of_cell? w _ hw143_0)).trans hw143_0)⟩ (fun hHeld=>?_)
                    clear hK K
                    refine norm_ (a':=?_) ?_ ?_
                    rotate_left
                    ·show Act.put _ (some 64) _=_
                     simp only [Act.put,List.setIfInBounds_toArray,List.set_cons_zero,List.set_cons_succ,i64_w,i32_w]
                     rfl
                    refine pure_ (i:=8) (N:=some 65) (v:=?_) (a':=?_) #[true,true,true,true,true,true,true,true,true,false,false,false,false,false,false,false,false,false,false,false,false,false,false,false] rfl rfl (any_of HT_.out (by kernel_rfl)) (fun _ _ _ h=>h) (Or.inl ⟨by rfl,?_⟩) ?_ ?_
                    rotate_left
                    ·intro w'
                     go_simp
                     with_reducible rfl
                    rotate_left
                    ·simp only [Act.put,List.setIfInBounds_toArray,List.set_cons_zero,List.set_cons_succ,i64_w,i32_w]
                     rfl
                    refine pure_ (i:=9) (N:=some 66) (v:=undef) (a':=?_) #[true,true,true,true,true,true,true,true,true,true,false,false,false,false,false,false,false,false,false,false,false,false,false,false] rfl rfl (any_of HT_.out (by kernel_rfl)) (fun _ _ _ h=>h) (Or.inr ⟨by rfl,rfl⟩) ?_ ?_
                    rotate_left
                    ·simp only [Act.put,List.setIfInBounds_toArray,List.set_cons_zero,List.set_cons_succ,i64_w,i32_w]
                     rfl
                    refine pure_ (i:=10) (N:=some 67) (v:=undef) (a':=?_) #[true,true,true,true,true,true,true,true,true,true,true,false,false,false,false,false,false,false,false,false,false,false,false,false] rfl rfl (any_of HT_.out (by kernel_rfl)) (fun _ _ _ h=>h) (Or.inr ⟨by rfl,rfl⟩) ?_ ?_
                    rotate_left
                    ·simp only [Act.put,List.setIfInBounds_toArray,List.set_cons_zero,List.set_cons_succ,i64_w,i32_w]
                     rfl
                    refine pure_ (i:=11) (N:=some 68) (v:=undef) (a':=?_) #[true,true,true,true,true,true,true,true,true,true,true,true,false,false,false,false,false,false,false,false,false,false,false,false] rfl rfl (any_of HT_.out (by kernel_rfl)) (fun _ _ _ h=>h) (Or.inr ⟨by rfl,rfl⟩) ?_ ?_
                    rotate_left
                    ·simp only [Act.put,List.setIfInBounds_toArray,List.set_cons_zero,List.set_cons_succ,i64_w,i32_w]
                     rfl
                    refine pure_ (i:=12) (N:=some 69) (v:=undef) (a':=?_) #[true,true,true,true,true,true,true,true,true,true,true,true,true,false,false,false,false,false,false,false,false,false,false,false] rfl rfl (any_of HT_.out (by kernel_rfl)) (fun _ _ _ h=>h) (Or.inr ⟨by rfl,rfl⟩) ?_ ?_
                    rotate_left
                    ·simp only [Act.put,List.setIfInBounds_toArray,List.set_cons_zero,List.set_cons_succ,i64_w,i32_w]
                     rfl
                    refine pure_ (i:=13) (N:=some 70) (v:=undef) (a':=?_) #[true,true,true,true,true,true,true,true,true,true,true,true,true,true,false,false,false,false,false,false,false,false,false,false] rfl rfl (any_of HT_.out (by kernel_rfl)) (fun _ _ _ h=>h) (Or.inr ⟨by rfl,rfl⟩) ?_ ?_
                    rotate_left
                    ·simp only [Act.put,List.setIfInBounds_toArray,List.set_cons_zero,List.set_cons_succ,i64_w,i32_w]
                     rfl
                    refine pure_ (i:=14) (N:=some 71) (v:=undef) (a':=?_) #[true,true,true,true,true,true,true,true,true,true,true,true,true,true,true,false,false,false,false,false,false,false,false,false] rfl rfl (any_of HT_.out (by kernel_rfl)) (fun _ _ _ h=>h) (Or.inr ⟨by rfl,rfl⟩) ?_ ?_
                    rotate_left
                    ·simp only [Act.put,List.setIfInBounds_toArray,List.set_cons_zero,List.set_cons_succ,i64_w,i32_w]
                     rfl
                    refine pure_ (i:=15) (N:=some 72) (v:=undef) (a':=?_) #[true,true,true,true,true,true,true,true,true,true,true,true,true,true,true,true,false,false,false,false,false,false,false,false] rfl rfl (any_of HT_.out (by kernel_rfl)) (fun _ _ _ h=>h) (Or.inr ⟨by rfl,rfl⟩) ?_ ?_
                    rotate_left
                    ·simp only [Act.put,List.setIfInBounds_toArray,List.set_cons_zero,List.set_cons_succ,i64_w,i32_w]
                     rfl
                    refine pure_ (i:=16) (N:=some 73) (v:=undef) (a':=?_) #[true,true,true,true,true,true,true,true,true,true,true,true,true,true,true,true,true,false,false,false,false,false,false,false] rfl rfl (any_of HT_.out (by kernel_rfl)) (fun _ _ _ h=>h) (Or.inr ⟨by rfl,rfl⟩) ?_ ?_
                    rotate_left
                    ·simp only [Act.put,List.setIfInBounds_toArray,List.set_cons_zero,List.set_cons_succ,i64_w,i32_w]
                     rfl
                    refine pure_ (i:=17) (N:=some 74) (v:=undef) (a':=?_) #[true,true,true,true,true,true,true,true,true,true,true,true,true,true,true,true,true,true,false,false,false,false,false,false] rfl rfl (any_of HT_.out (by kernel_rfl)) (fun _ _ _ h=>h) (Or.inr ⟨by rfl,rfl⟩) ?_ ?_
                    rotate_left
                    ·simp only [Act.put,List.setIfInBounds_toArray,List.set_cons_zero,List.set_cons_succ,i64_w,i32_w]
                     rfl
                    refine pure_ (i:=18) (N:=some 75) (v:=undef) (a':=?_) #[true,true,true,true,true,true,true,true,true,true,true,true,true,true,true,true,true,true,true,false,false,false,false,false] rfl rfl (any_of HT_.out (by kernel_rfl)) (fun _ _ _ h=>h) (Or.inr ⟨by rfl,rfl⟩) ?_ ?_
                    rotate_left
                    ·simp only [Act.put,List.setIfInBounds_toArray,List.set_cons_zero,List.set_cons_succ,i64_w,i32_w]
                     rfl
                    refine pure_ (i:=19) (N:=some 76) (v:=undef) (a':=?_) #[true,true,true,true,true,true,true,true,true,true,true,true,true,true,true,true,true,true,true,true,false,false,false,false] rfl rfl (any_of HT_.out (by kernel_rfl)) (fun _ _ _ h=>h) (Or.inr ⟨by rfl,rfl⟩) ?_ ?_
                    rotate_left
                    ·simp only [Act.put,List.setIfInBounds_toArray,List.set_cons_zero,List.set_cons_succ,i64_w,i32_w]
                     rfl
                    refine pure_ (i:=20) (N:=some 77) (v:=undef) (a':=?_) #[true,true,true,true,true,true,true,true,true,true,true,true,true,true,true,true,true,true,true,true,true,false,false,false] rfl rfl (any_of HT_.out (by kernel_rfl)) (fun _ _ _ h=>h) (Or.inr ⟨by rfl,rfl⟩) ?_ ?_
                    rotate_left
                    ·simp only [Act.put,List.setIfInBounds_toArray,List.set_cons_zero,List.set_cons_succ,i64_w,i32_w]
                     rfl
                    refine pure_ (i:=21) (N:=some 78) (v:=undef) (a':=?_) #[true,true,true,true,true,true,true,true,true,true,true,true,true,true,true,true,true,true,true,true,true,true,false,false] rfl rfl (any_of HT_.out (by kernel_rfl)) (fun _ _ _ h=>h) (Or.inr ⟨by rfl,rfl⟩) ?_ ?_
                    rotate_left
                    ·simp only [Act.put,List.setIfInBounds_toArray,List.set_cons_zero,List.set_cons_succ,i64_w,i32_w]
                     rfl
                    refine pure_ (i:=22) (N:=some 79) (v:=?_) (a':=?_) #[true,true,true,true,true,true,true,true,true,true,true,true,true,true,true,true,true,true,true,true,true,true,true,false] rfl rfl (any_of HT_.out (by kernel_rfl)) (fun _ _ _ h=>h) (Or.inl ⟨by rfl,?_⟩) ?_ ?_
                    rotate_left
                    ·intro w'
                     go_simp
                     with_reducible rfl
                    rotate_left
                    ·simp only [Act.put,List.setIfInBounds_toArray,List.set_cons_zero,List.set_cons_succ,i64_w,i32_w]
                     rfl
                    refine pure_ (i:=23) (N:=some 3) (v:=?_) (a':=?_) #[true,true,true,true,true,true,true,true,true,true,true,true,true,true,true,true,true,true,true,true,true,true,true,true] rfl rfl (any_of HT_.out (by kernel_rfl)) (fun _ _ _ h=>h) (Or.inl ⟨by rfl,?_⟩) ?_ ?_
                    rotate_left
                    ·intro w'
                     go_simp
                     with_reducible rfl
                    rotate_left
                    ·simp only [Act.put,List.setIfInBounds_toArray,List.set_cons_zero,List.set_cons_succ,i64_w,i32_w]
                     rfl
                    refine done_ (done_of HT_.out (by kernel_rfl)) ?_
                    try go_wp2
                    go_roundg kj27
                    case measure=>have:=HJ1.out;have:=HK2.out;have:=HJ9.out;have:=HJ15.out;have:=HK5.out;have:=HJ27.out;omega
                    case rel=>exact ⟨(false),(wrap64 (x6_5+1)),(by first|rfl|(simp;done)|(simp [*];done)),(by first|rfl|(simp;done)|(simp [*];done)),H',⟨by have:=HJ1.out;have:=HK2.out;have:=HJ9.out;have:=HJ15.out;have:=HK5.out;have:=HJ27.out;omega⟩,⟨by (with_reducible repeat (first|refine blk_drewN ?_ _|refine blk_drew ?_|refine blk_alloc ?_ _));exact BK138.out⟩,⟨by (with_reducible repeat (first|refine blk_drewN ?_ _|refine blk_drew ?_|refine blk_alloc ?_ _));exact BK141.out⟩,⟨by repeat (first|(with_reducible first|exact HB.out|apply below_alloc|apply pw_below_drewN|apply below_drew1|refine below_set ?_ GE138.out|refine below_set ?_ GE141.out)|exact HB.out)⟩⟩
                  ·rw [if_neg c34] at H
                   exact absurd H (by simp)
                 ·rw [if_neg c33] at H
                  exact absurd H (by simp)
                ·replace c32:=Bool.eq_false_iff.mpr c32
                 subst c32
                 rw [if_neg (show ¬ (false=true) by decide)] at H
                 have H':=Aside0.mk H
                 clear H
                 go_wp2
                 go_roundg kj27
                 case measure=>have:=HJ1.out;have:=HK2.out;have:=HJ9.out;have:=HJ15.out;have:=HK5.out;have:=HJ27.out;omega
                 case rel=>exact ⟨(x3_5),(wrap64 (x4_2+1)),(by first|rfl|(simp;done)|(simp [*];done)),(by first|rfl|(simp;done)|(simp [*];done)),H',⟨by have:=HJ1.out;have:=HK2.out;have:=HJ9.out;have:=HJ15.out;have:=HK5.out;have:=HJ27.out;omega⟩,⟨by (with_reducible repeat (first|refine blk_drewN ?_ _|refine blk_drew ?_|refine blk_alloc ?_ _));exact BK138.out⟩,⟨by repeat (first|(with_reducible first|exact HB.out|apply below_alloc|apply pw_below_drewN|apply below_drew1|refine below_set ?_ GE138.out|refine below_set ?_ GE141.out)|exact HB.out)⟩⟩
         ·rw [if_neg c15] at H
          exact absurd H (by simp)
        ·rw [if_neg c14] at H
         exact absurd H (by simp)
       ·replace c13:=Bool.eq_false_iff.mpr c13
        subst c13
        rw [if_neg (show ¬ (false=true) by decide)] at H
        by_cases c46:x3_2=true
        ·subst c46
         rw [if_pos rfl] at H
         obtain rfl:=Option.some.inj H
         go_wp2
         go_ret
         exact ⟨by first|rfl|(simp [errW_none,errW_some] <;> rfl)|(simp [*,errW_none,errW_some] <;> rfl),by repeat (first|(with_reducible first|exact HB.out|apply below_alloc|apply pw_below_drewN|apply below_drew1|refine below_set ?_ GE138.out)|exact HB.out)⟩
        ·replace c46:=Bool.eq_false_iff.mpr c46
         subst c46
         rw [if_neg (show ¬ (false=true) by decide)] at H
         obtain rfl:=Option.some.inj H
         go_wp2
         go_ret
         exact ⟨by first|rfl|(simp [errW_none,errW_some] <;> rfl)|(simp [*,errW_none,errW_some] <;> rfl),by repeat (first|(with_reducible first|exact HB.out|apply below_alloc|apply pw_below_drewN|apply below_drew1|refine below_set ?_ GE138.out)|exact HB.out)⟩
end Go.Proofs.YthnilelmhpmanaaDoor.PHeardFits
end
section
namespace Go.Proofs.YthnilelmhpmanaaDoor.PHeardFits
open Go.RowKit Go.Proofs.YthnilelmhpmanaaDoorW.PrintWords Go.Proofs.YthnilelmhpmanaaDoorW.PrintLast Go.Proofs.YthnilelmhpmanaaDoorW.PrintMore
attribute [local go_sem] max2_int min2_int max_two min_two max_three min_three max_four min_four
set_option linter.unusedVariables false
set_option linter.unusedSimpArgs false
mutual
def saronref09_Check.j0:Nat→Bool→Int→List (S85)→List (S62)→Option (Int)
  | 0,_,_,_,_=>none
  | k+1,x3,x154000,x154001,x154002=>saronref09_Check.l0 k x3 0 x154000 x154001 x154002
def saronref09_Check.l0:Nat→Bool→Int→Int→List (S85)→List (S62)→Option (Int)
  | 0,_,_,_,_,_=>none
  | k+1,x3,x4,x154000,x154001,x154002=>if x3=true then (saronref09_Check.j2 k x3 x4 (decide (x4<(x154002.length:Int))) x154000 x154001 x154002) else (saronref09_Check.j2 k x3 x4 false x154000 x154001 x154002)
def saronref09_Check.j2:Nat→Bool→Int→Bool→Int→List (S85)→List (S62)→Option (Int)
  | 0,_,_,_,_,_,_=>none
  | k+1,x3,x4,x22,x154000,x154001,x154002=>if x22=true then (if 0≤x4 then (if x4<(x154002.length:Int) then ((saronref00_Sits.f ((rd_T62 x154002 x4).f0) 0 (wrap64 ((x154001.length:Int) - 1))).bind fun t157=>(if t157=true then ((saronref09_areTones.f k ((rd_T62 x154002 x4).f1) 1 24).bind fun t159=>(saronref09_Check.l0 k t159 (wrap64 (x4+1)) x154000 x154001 x154002)) else (saronref09_Check.l0 k false (wrap64 (x4+1)) x154000 x154001 x154002))) else (none)) else (none)) else (if x3=true then (some 0) else (some 90))
end
def saronref09_Check.f (k:Nat) (a0_0:Int) (l0_1:List (S85)) (l0_2:List (S62)):Option (Int):=(saronref05_Check.f k a0_0 l0_1).bind fun t154=>(if t154=0 then ((saronref00_Sits.f (l0_2.length:Int) 1 6).bind fun t155=>(saronref09_Check.j0 k t155 a0_0 l0_1 l0_2)) else (saronref09_Check.j0 k false a0_0 l0_1 l0_2))
set_option maxHeartbeats 8000000 in
set_option maxRecDepth 100000 in
theorem saronref09_Check.calls (k:Nat) (a0_0:Int) (A0_1:Option Addr) (c0_1:Nat) (l0_1:List (S85)) (A0_2:Option Addr) (c0_2:Nat) (l0_2:List (S62)) (r:Int) (w:World) (hr0_1:Kd.C k85 w A0_1 l0_1.length l0_1) (hc0_1:l0_1.length≤c0_1) (hr0_2:Kd.C k62 w A0_2 l0_2.length l0_2) (hc0_2:l0_2.length≤c0_2) (h:saronref09_Check.f k a0_0 l0_1 l0_2=some r) :
    Calls Tryd.prog 18 #[.agg #[.int .i64 a0_0,.slice A0_1 l0_1.length c0_1,.slice A0_2 l0_2.length c0_2]] w fun e w'=>e=.returned (.int .i64 r)∧Below w.heap.size w w':=by
  have hu27:=Tryd.underlying27
  have hu24:=Tryd.underlying24
  have HR0_1:=Aside0.mk hr0_1
  have HC0_1:=Aside0.mk hc0_1
  clear hr0_1 hc0_1
  have HR0_2:=Aside0.mk hr0_2
  have HC0_2:=Aside0.mk hc0_2
  clear hr0_2 hc0_2
  have HB:=Aside0.mk (Below.refl w.heap.size w)
  have H:((saronref05_Check.f k a0_0 l0_1).bind fun t154=>(if t154=0 then ((saronref00_Sits.f (l0_2.length:Int) 1 6).bind fun t155=>(saronref09_Check.j0 k t155 a0_0 l0_1 l0_2)) else (saronref09_Check.j0 k false a0_0 l0_1 l0_2)))=some r:=h
  clear h
  have HC2:=Aside0.mk H
  clear H
  go_enter Tryd.func18,Tryd.ntmps18
  go_upto_region 1 with (first|((with_reducible refine gate_dst (N:=1) rfl ?_);(try (refine gate_guard (by rfl) ?_;dsimp only));refine box_event ?hg (N:=1) ?hd (cs:=#[.int .i64 a0_0,.slice A0_1 l0_1.length c0_1,.slice A0_2 l0_2.length c0_2]) (t:=27) ?hr ?_;(case hd=>rfl);(case hg=>rfl);(case hr=>first|(go_simp;done)|(go_simp;rfl));intro gb153 hg w3 hbox hb;have n0_:=Aside0.mk (below_step (by repeat (first|(with_reducible first|exact HB.out|apply below_alloc|apply pw_below_drewN|apply below_drew1)|exact HB.out)) hb);have n1_:=Aside0.mk (hbox);have n2_:=Aside0.mk ((by rw [hg];exact (below_size (by repeat (first|(with_reducible first|exact HB.out|apply below_alloc|apply pw_below_drewN|apply below_drew1)|exact HB.out))):w.heap.size≤gb153));have n3_:=Aside0.mk ((by rw [hg];exact (below_size (by repeat (first|(with_reducible first|exact HB.out|apply below_alloc|apply pw_below_drewN|apply below_drew1)|exact HB.out))):w.heap.size≤gb153));clear HB;have HB:=n0_;have BK153:=n1_;have GW153:=n2_;have GE153:=n3_;clear n0_ n1_ n2_ n3_;clear hb hbox hg))
  repeat (go_quiet (first|((with_reducible refine gate_dst (N:=1) rfl ?_);(try (refine gate_guard (by rfl) ?_;dsimp only));refine box_event ?hg (N:=1) ?hd (cs:=#[.int .i64 a0_0,.slice A0_1 l0_1.length c0_1,.slice A0_2 l0_2.length c0_2]) (t:=27) ?hr ?_;(case hd=>rfl);(case hg=>rfl);(case hr=>first|(go_simp;done)|(go_simp;rfl));intro gb153 hg w3 hbox hb;have n0_:=Aside0.mk (below_step (by repeat (first|(with_reducible first|exact HB.out|apply below_alloc|apply pw_below_drewN|apply below_drew1)|exact HB.out)) hb);have n1_:=Aside0.mk (hbox);have n2_:=Aside0.mk ((by rw [hg];exact (below_size (by repeat (first|(with_reducible first|exact HB.out|apply below_alloc|apply pw_below_drewN|apply below_drew1)|exact HB.out))):w.heap.size≤gb153));have n3_:=Aside0.mk ((by rw [hg];exact (below_size (by repeat (first|(with_reducible first|exact HB.out|apply below_alloc|apply pw_below_drewN|apply below_drew1)|exact HB.out))):w.heap.size≤gb153));clear HB;have HB:=n0_;have BK153:=n1_;have GW153:=n2_;have GE153:=n3_;clear n0_ n1_ n2_ n3_;clear hb hbox hg));go_upto_region 1 with (first|((with_reducible refine gate_dst (N:=1) rfl ?_);(try (refine gate_guard (by rfl) ?_;dsimp only));refine box_event ?hg (N:=1) ?hd (cs:=#[.int .i64 a0_0,.slice A0_1 l0_1.length c0_1,.slice A0_2 l0_2.length c0_2]) (t:=27) ?hr ?_;(case hd=>rfl);(case hg=>rfl);(case hr=>first|(go_simp;done)|(go_simp;rfl));intro gb153 hg w3 hbox hb;have n0_:=Aside0.mk (below_step (by repeat (first|(with_reducible first|exact HB.out|apply below_alloc|apply pw_below_drewN|apply below_drew1)|exact HB.out)) hb);have n1_:=Aside0.mk (hbox);have n2_:=Aside0.mk ((by rw [hg];exact (below_size (by repeat (first|(with_reducible first|exact HB.out|apply below_alloc|apply pw_below_drewN|apply below_drew1)|exact HB.out))):w.heap.size≤gb153));have n3_:=Aside0.mk ((by rw [hg];exact (below_size (by repeat (first|(with_reducible first|exact HB.out|apply below_alloc|apply pw_below_drewN|apply below_drew1)|exact HB.out))):w.heap.size≤gb153));clear HB;have HB:=n0_;have BK153:=n1_;have GW153:=n2_;have GE153:=n3_;clear n0_ n1_ n2_ n3_;clear hb hbox hg)))
  (try simp only [Act.put,List.setIfInBounds_toArray,List.set_cons_zero,List.set_cons_succ])
  go_cut [3] (fun v3 wc=>∃ (kq:Nat) (x3_1:Bool),v3=.bool x3_1∧Aside0 (saronref09_Check.j0 kq x3_1 a0_0 l0_1 l0_2=some r)∧Aside0 (kq≤k)∧Aside0 (wc.heap[gb153]?=some (.cells #[.int .i64 a0_0,(.slice A0_1 l0_1.length c0_1),(.slice A0_2 l0_2.length c0_2)] 27 (0,0)))∧Aside0 (Below w.heap.size w wc))
  case first =>
    have H:=HC2.out
    clear HC2
    replace H:=Option.bind_eq_some_iff.mp H
    obtain ⟨t154,A40,H⟩:=H
    replace H:(if t154=0 then ((saronref00_Sits.f (l0_2.length:Int) 1 6).bind fun t155=>(saronref09_Check.j0 k t155 a0_0 l0_1 l0_2)) else (saronref09_Check.j0 k false a0_0 l0_1 l0_2))=some r:=H
    have A4:=Aside0.mk A40
    clear A40
    by_cases c5:t154=0
    · rw [if_pos c5] at H
      have c5b0:(t154 == 0)=true:=beq_iff_eq.mpr c5
      have c5b1:(t154 != 0)=false:=bne_eq_false_iff_eq.mpr c5
      clear c5
      (first|rw [c5b0]|(simp only [i64_w,i32_w];rw [c5b0])|skip)
      replace H:=Option.bind_eq_some_iff.mp H
      obtain ⟨t155,A60,H⟩:=H
      replace H:(saronref09_Check.j0 k t155 a0_0 l0_1 l0_2)=some r:=H
      have A6:=Aside0.mk A60
      clear A60
      have H':=Aside0.mk H
      clear H
      have hcz7_0:w3.cell? ⟨gb153,0,none⟩=some (.int .i64 a0_0):=(blk_cell BK153.out 0).trans rfl
      have hcz7_1:w3.cell? ⟨gb153,1,none⟩=some (.slice A0_1 l0_1.length c0_1):=(blk_cell BK153.out 1).trans rfl
      have hcz7_2:w3.cell? ⟨gb153,2,none⟩=some (.slice A0_2 l0_2.length c0_2):=(blk_cell BK153.out 2).trans rfl
      have hfz7_0:=blk_frozen BK153.out 0
      have hfz7_1:=blk_frozen BK153.out 1
      have hfz7_2:=blk_frozen BK153.out 2
      go_wp2_with (first|(go_at_call 67;(with_reducible refine (saronref05_Check.calls k a0_0 _ _ l0_1 t154 _ ?side1 ?side2 A4.out).mono ?_);(case side1=>repeat (first|exact (Kd.C_below HR0_1.out HB.out)|(with_reducible refine Kd.C_alloc ?_ _)|(with_reducible refine Kd.C_drewN ?_ _)|(with_reducible refine Kd.C_drew ?_)));(case side2=>exact HC0_1.out);rintro e w8 ⟨rfl,hb⟩;have n0_:=Aside0.mk (blk_below (g:=gb153) (o:=.cells #[.int .i64 a0_0,.slice A0_1 l0_1.length c0_1,.slice A0_2 l0_2.length c0_2] 27 (0,0)) (by (with_reducible repeat (first|refine blk_drewN ?_ _|refine blk_drew ?_|refine blk_alloc ?_ _));exact BK153.out) hb);have n1_:=Aside0.mk (below_step (by repeat (first|(with_reducible first|exact HB.out|apply below_alloc|apply pw_below_drewN|apply below_drew1|refine below_set ?_ GE153.out)|exact HB.out)) hb);clear BK153;clear HB;have BK153:=n0_;have HB:=n1_;clear n0_ n1_;(try clear hb);(try clear hb2);(try clear hk);(try clear hi);have hcz9_0:w8.cell? ⟨gb153,0,none⟩=some (.int .i64 a0_0):=(blk_cell BK153.out 0).trans rfl;have hcz9_1:w8.cell? ⟨gb153,1,none⟩=some (.slice A0_1 l0_1.length c0_1):=(blk_cell BK153.out 1).trans rfl;have hcz9_2:w8.cell? ⟨gb153,2,none⟩=some (.slice A0_2 l0_2.length c0_2):=(blk_cell BK153.out 2).trans rfl;have hfz9_0:=blk_frozen BK153.out 0;have hfz9_1:=blk_frozen BK153.out 1;have hfz9_2:=blk_frozen BK153.out 2)|(go_at_call 41;(with_reducible refine (saronref00_Sits.calls (l0_2.length:Int) 1 6 t155 _ A6.out).mono ?_);rintro e w' ⟨rfl,⟨nd,rfl⟩⟩;(try first|exact ⟨rfl,_,World.drewN_drewN _ _ _⟩|exact ⟨rfl,_,Eq.trans (World.drewN_drewN _ _ _) (congrArg (World.drewN _) (Nat.add_assoc _ _ _))⟩)))
      repeat (go_quiet (first|(go_at_call 67;(with_reducible refine (saronref05_Check.calls k a0_0 _ _ l0_1 t154 _ ?side1 ?side2 A4.out).mono ?_);(case side1=>repeat (first|exact (Kd.C_below HR0_1.out HB.out)|(with_reducible refine Kd.C_alloc ?_ _)|(with_reducible refine Kd.C_drewN ?_ _)|(with_reducible refine Kd.C_drew ?_)));(case side2=>exact HC0_1.out);rintro e w8 ⟨rfl,hb⟩;have n0_:=Aside0.mk (blk_below (g:=gb153) (o:=.cells #[.int .i64 a0_0,.slice A0_1 l0_1.length c0_1,.slice A0_2 l0_2.length c0_2] 27 (0,0)) (by (with_reducible repeat (first|refine blk_drewN ?_ _|refine blk_drew ?_|refine blk_alloc ?_ _));exact BK153.out) hb);have n1_:=Aside0.mk (below_step (by repeat (first|(with_reducible first|exact HB.out|apply below_alloc|apply pw_below_drewN|apply below_drew1|refine below_set ?_ GE153.out)|exact HB.out)) hb);clear BK153;clear HB;have BK153:=n0_;have HB:=n1_;clear n0_ n1_;(try clear hb);(try clear hb2);(try clear hk);(try clear hi);have hcz9_0:w8.cell? ⟨gb153,0,none⟩=some (.int .i64 a0_0):=(blk_cell BK153.out 0).trans rfl;have hcz9_1:w8.cell? ⟨gb153,1,none⟩=some (.slice A0_1 l0_1.length c0_1):=(blk_cell BK153.out 1).trans rfl;have hcz9_2:w8.cell? ⟨gb153,2,none⟩=some (.slice A0_2 l0_2.length c0_2):=(blk_cell BK153.out 2).trans rfl;have hfz9_0:=blk_frozen BK153.out 0;have hfz9_1:=blk_frozen BK153.out 1;have hfz9_2:=blk_frozen BK153.out 2)|(go_at_call 41;(with_reducible refine (saronref00_Sits.calls (l0_2.length:Int) 1 6 t155 _ A6.out).mono ?_);rintro e w' ⟨rfl,⟨nd,rfl⟩⟩;(try first|exact ⟨rfl,_,World.drewN_drewN _ _ _⟩|exact ⟨rfl,_,Eq.trans (World.drewN_drewN _ _ _) (congrArg (World.drewN _) (Nat.add_assoc _ _ _))⟩)));try go_wp2_with (first|(go_at_call 67;(with_reducible refine (saronref05_Check.calls k a0_0 _ _ l0_1 t154 _ ?side1 ?side2 A4.out).mono ?_);(case side1=>repeat (first|exact (Kd.C_below HR0_1.out HB.out)|(with_reducible refine Kd.C_alloc ?_ _)|(with_reducible refine Kd.C_drewN ?_ _)|(with_reducible refine Kd.C_drew ?_)));(case side2=>exact HC0_1.out);rintro e w8 ⟨rfl,hb⟩;have n0_:=Aside0.mk (blk_below (g:=gb153) (o:=.cells #[.int .i64 a0_0,.slice A0_1 l0_1.length c0_1,.slice A0_2 l0_2.length c0_2] 27 (0,0)) (by (with_reducible repeat (first|refine blk_drewN ?_ _|refine blk_drew ?_|refine blk_alloc ?_ _));exact BK153.out) hb);have n1_:=Aside0.mk (below_step (by repeat (first|(with_reducible first|exact HB.out|apply below_alloc|apply pw_below_drewN|apply below_drew1|refine below_set ?_ GE153.out)|exact HB.out)) hb);clear BK153;clear HB;have BK153:=n0_;have HB:=n1_;clear n0_ n1_;(try clear hb);(try clear hb2);(try clear hk);(try clear hi);have hcz9_0:w8.cell? ⟨gb153,0,none⟩=some (.int .i64 a0_0):=(blk_cell BK153.out 0).trans rfl;have hcz9_1:w8.cell? ⟨gb153,1,none⟩=some (.slice A0_1 l0_1.length c0_1):=(blk_cell BK153.out 1).trans rfl;have hcz9_2:w8.cell? ⟨gb153,2,none⟩=some (.slice A0_2 l0_2.length c0_2):=(blk_cell BK153.out 2).trans rfl;have hfz9_0:=blk_frozen BK153.out 0;have hfz9_1:=blk_frozen BK153.out 1;have hfz9_2:=blk_frozen BK153.out 2)|(go_at_call 41;(with_reducible refine (saronref00_Sits.calls (l0_2.length:Int) 1 6 t155 _ A6.out).mono ?_);rintro e w' ⟨rfl,⟨nd,rfl⟩⟩;(try first|exact ⟨rfl,_,World.drewN_drewN _ _ _⟩|exact ⟨rfl,_,Eq.trans (World.drewN_drewN _ _ _) (congrArg (World.drewN _) (Nat.add_assoc _ _ _))⟩))))
      go_meet
      case rel=>exact ⟨_,(t155),(by first|rfl|(simp;done)|(simp [*];done)),H',⟨by first|omega|exact Nat.le_refl _⟩,⟨by (with_reducible repeat (first|refine blk_drewN ?_ _|refine blk_drew ?_|refine blk_alloc ?_ _));exact BK153.out⟩,⟨by repeat (first|(with_reducible first|exact HB.out|apply below_alloc|apply pw_below_drewN|apply below_drew1|refine below_set ?_ GE153.out)|exact HB.out)⟩⟩
    · rw [if_neg c5] at H
      have c5b0:(t154 == 0)=false:=beq_eq_false_iff_ne.mpr c5
      have c5b1:(t154 != 0)=true:=bne_iff_ne.mpr c5
      (first|rw [c5b0]|(simp only [i64_w,i32_w];rw [c5b0])|skip)
      have H':=Aside0.mk H
      clear H
      have hcz10_0:w3.cell? ⟨gb153,0,none⟩=some (.int .i64 a0_0):=(blk_cell BK153.out 0).trans rfl
      have hcz10_1:w3.cell? ⟨gb153,1,none⟩=some (.slice A0_1 l0_1.length c0_1):=(blk_cell BK153.out 1).trans rfl
      have hcz10_2:w3.cell? ⟨gb153,2,none⟩=some (.slice A0_2 l0_2.length c0_2):=(blk_cell BK153.out 2).trans rfl
      have hfz10_0:=blk_frozen BK153.out 0
      have hfz10_1:=blk_frozen BK153.out 1
      have hfz10_2:=blk_frozen BK153.out 2
      go_wp2_with (first|(go_at_call 67;(with_reducible refine (saronref05_Check.calls k a0_0 _ _ l0_1 t154 _ ?side1 ?side2 A4.out).mono ?_);(case side1=>repeat (first|exact (Kd.C_below HR0_1.out HB.out)|(with_reducible refine Kd.C_alloc ?_ _)|(with_reducible refine Kd.C_drewN ?_ _)|(with_reducible refine Kd.C_drew ?_)));(case side2=>exact HC0_1.out);rintro e w11 ⟨rfl,hb⟩;have n0_:=Aside0.mk (blk_below (g:=gb153) (o:=.cells #[.int .i64 a0_0,.slice A0_1 l0_1.length c0_1,.slice A0_2 l0_2.length c0_2] 27 (0,0)) (by (with_reducible repeat (first|refine blk_drewN ?_ _|refine blk_drew ?_|refine blk_alloc ?_ _));exact BK153.out) hb);have n1_:=Aside0.mk (below_step (by repeat (first|(with_reducible first|exact HB.out|apply below_alloc|apply pw_below_drewN|apply below_drew1|refine below_set ?_ GE153.out)|exact HB.out)) hb);clear BK153;clear HB;have BK153:=n0_;have HB:=n1_;clear n0_ n1_;(try clear hb);(try clear hb2);(try clear hk);(try clear hi)))
      repeat (go_quiet (first|(go_at_call 67;(with_reducible refine (saronref05_Check.calls k a0_0 _ _ l0_1 t154 _ ?side1 ?side2 A4.out).mono ?_);(case side1=>repeat (first|exact (Kd.C_below HR0_1.out HB.out)|(with_reducible refine Kd.C_alloc ?_ _)|(with_reducible refine Kd.C_drewN ?_ _)|(with_reducible refine Kd.C_drew ?_)));(case side2=>exact HC0_1.out);rintro e w11 ⟨rfl,hb⟩;have n0_:=Aside0.mk (blk_below (g:=gb153) (o:=.cells #[.int .i64 a0_0,.slice A0_1 l0_1.length c0_1,.slice A0_2 l0_2.length c0_2] 27 (0,0)) (by (with_reducible repeat (first|refine blk_drewN ?_ _|refine blk_drew ?_|refine blk_alloc ?_ _));exact BK153.out) hb);have n1_:=Aside0.mk (below_step (by repeat (first|(with_reducible first|exact HB.out|apply below_alloc|apply pw_below_drewN|apply below_drew1|refine below_set ?_ GE153.out)|exact HB.out)) hb);clear BK153;clear HB;have BK153:=n0_;have HB:=n1_;clear n0_ n1_;(try clear hb);(try clear hb2);(try clear hk);(try clear hi)));try go_wp2_with (first|(go_at_call 67;(with_reducible refine (saronref05_Check.calls k a0_0 _ _ l0_1 t154 _ ?side1 ?side2 A4.out).mono ?_);(case side1=>repeat (first|exact (Kd.C_below HR0_1.out HB.out)|(with_reducible refine Kd.C_alloc ?_ _)|(with_reducible refine Kd.C_drewN ?_ _)|(with_reducible refine Kd.C_drew ?_)));(case side2=>exact HC0_1.out);rintro e w11 ⟨rfl,hb⟩;have n0_:=Aside0.mk (blk_below (g:=gb153) (o:=.cells #[.int .i64 a0_0,.slice A0_1 l0_1.length c0_1,.slice A0_2 l0_2.length c0_2] 27 (0,0)) (by (with_reducible repeat (first|refine blk_drewN ?_ _|refine blk_drew ?_|refine blk_alloc ?_ _));exact BK153.out) hb);have n1_:=Aside0.mk (below_step (by repeat (first|(with_reducible first|exact HB.out|apply below_alloc|apply pw_below_drewN|apply below_drew1|refine below_set ?_ GE153.out)|exact HB.out)) hb);clear BK153;clear HB;have BK153:=n0_;have HB:=n1_;clear n0_ n1_;(try clear hb);(try clear hb2);(try clear hk);(try clear hi))))
      go_meet
      case rel=>exact ⟨_,(false),(by first|rfl|(simp;done)|(simp [*];done)),H',⟨by first|omega|exact Nat.le_refl _⟩,⟨by (with_reducible repeat (first|refine blk_drewN ?_ _|refine blk_drew ?_|refine blk_alloc ?_ _));exact BK153.out⟩,⟨by repeat (first|(with_reducible first|exact HB.out|apply below_alloc|apply pw_below_drewN|apply below_drew1|refine below_set ?_ GE153.out)|exact HB.out)⟩⟩
  case rest =>
    clear HC2
    try clear c1
    try clear p2
    try clear c5
    try clear c5b0
    try clear c5b1
    try clear hcz10_0
    try clear hcz10_1
    try clear hcz10_2
    try clear hcz7_0
    try clear hcz7_1
    try clear hcz7_2
    try clear hcz9_0
    try clear hcz9_1
    try clear hcz9_2
    try clear hfz10_0
    try clear hfz10_1
    try clear hfz10_2
    try clear hfz7_0
    try clear hfz7_1
    try clear hfz7_2
    try clear hfz9_0
    try clear hfz9_1
    try clear hfz9_2
    obtain ⟨kq,x3_1,rfl,HA,HJ1,BK153,HB⟩:=hcut
    cases kq with
    | zero=>exact absurd HA.out (by simp [saronref09_Check.j0])
    | succ kj1 =>
      have H:=HA.out
      clear HA
      simp only [saronref09_Check.j0] at H
      have H':=Aside0.mk H
      clear H
      go_wp2
      repeat (go_quiet (fail);try go_wp2)
      go_loopg [3,4] kj1 (fun kq v3 v4 w'=>∃ (x3_2:Bool) (x4_2:Int),v3=.bool x3_2∧v4=.int .i64 x4_2∧Aside0 (saronref09_Check.l0 kq x3_2 x4_2 a0_0 l0_1 l0_2=some r)∧Aside0 (kq≤kj1)∧Aside0 (w'.heap[gb153]?=some (.cells #[.int .i64 a0_0,(.slice A0_1 l0_1.length c0_1),(.slice A0_2 l0_2.length c0_2)] 27 (0,0)))∧Aside0 (Below w.heap.size w w'))
      case atStart=>exact ⟨(x3_1),(0),(by first|rfl|(simp;done)|(simp [*];done)),(by first|rfl|(simp;done)|(simp [*];done)),H',⟨Nat.le_refl _⟩,⟨by (with_reducible repeat (first|refine blk_drewN ?_ _|refine blk_drew ?_|refine blk_alloc ?_ _));exact BK153.out⟩,⟨by repeat (first|(with_reducible first|exact HB.out|apply below_alloc|apply pw_below_drewN|apply below_drew1|refine below_set ?_ GE153.out)|exact HB.out)⟩⟩
      case round =>
        clear H'
        try clear c1
        try clear p2
        try clear c5
        try clear c5b0
        try clear c5b1
        try clear hcz10_0
        try clear hcz10_1
        try clear hcz10_2
        try clear hcz7_0
        try clear hcz7_1
        try clear hcz7_2
        try clear hcz9_0
        try clear hcz9_1
        try clear hcz9_2
        try clear hfz10_0
        try clear hfz10_1
        try clear hfz10_2
        try clear hfz7_0
        try clear hfz7_1
        try clear hfz7_2
        try clear hfz9_0
        try clear hfz9_1
        try clear hfz9_2
        try clear p2
        obtain ⟨x3_2,x4_2,rfl,rfl,HA,HK2,BK153,HB⟩:=hrel
        cases gk with
        | zero=>exact absurd HA.out (by simp [saronref09_Check.l0])
        | succ k2 =>
          have H:=HA.out
          clear HA
          simp only [saronref09_Check.l0] at H
          have HC12:=Aside0.mk H
          clear H
          go_upto_region 3 with (fail)
          repeat (go_quiet (fail);go_upto_region 3 with (fail))
          go_cut [22] (fun v22 wc=>∃ (kq:Nat) (x22_11:Bool),v22=.bool x22_11∧Aside0 (saronref09_Check.j2 kq x3_2 x4_2 x22_11 a0_0 l0_1 l0_2=some r)∧Aside0 (kq≤k2)∧Aside0 (wc.heap[gb153]?=some (.cells #[.int .i64 a0_0,(.slice A0_1 l0_1.length c0_1),(.slice A0_2 l0_2.length c0_2)] 27 (0,0)))∧Aside0 (Below w.heap.size w wc))
          case first =>
            have H:=HC12.out
            clear HC12
            by_cases c13:x3_2=true
            · subst c13
              have H1:(saronref09_Check.j2 k2 true x4_2 (decide (x4_2<(l0_2.length:Int))) a0_0 l0_1 l0_2)=some r:=by rw [if_pos rfl] at H;exact H
              clear H
              have H:=H1
              clear H1
              have H':=Aside0.mk H
              clear H
              have hcz14_0:wr.cell? ⟨gb153,0,none⟩=some (.int .i64 a0_0):=(blk_cell BK153.out 0).trans rfl
              have hcz14_1:wr.cell? ⟨gb153,1,none⟩=some (.slice A0_1 l0_1.length c0_1):=(blk_cell BK153.out 1).trans rfl
              have hcz14_2:wr.cell? ⟨gb153,2,none⟩=some (.slice A0_2 l0_2.length c0_2):=(blk_cell BK153.out 2).trans rfl
              have hfz14_0:=blk_frozen BK153.out 0
              have hfz14_1:=blk_frozen BK153.out 1
              have hfz14_2:=blk_frozen BK153.out 2
              go_wp2
              repeat (go_quiet (fail);try go_wp2)
              go_meet
              case rel=>exact ⟨_,(decide (x4_2<(l0_2.length:Int))),(by first|rfl|(simp;done)|(simp [*];done)),H',⟨by have:=HJ1.out;have:=HK2.out;first|omega|exact Nat.le_refl _⟩,⟨by (with_reducible repeat (first|refine blk_drewN ?_ _|refine blk_drew ?_|refine blk_alloc ?_ _));exact BK153.out⟩,⟨by repeat (first|(with_reducible first|exact HB.out|apply below_alloc|apply pw_below_drewN|apply below_drew1|refine below_set ?_ GE153.out)|exact HB.out)⟩⟩
            · replace c13:=Bool.eq_false_iff.mpr c13
              subst c13
              have H1:(saronref09_Check.j2 k2 false x4_2 false a0_0 l0_1 l0_2)=some r:=by rw [if_neg (show ¬ (false=true) by decide)] at H;exact H
              clear H
              have H:=H1
              clear H1
              have H':=Aside0.mk H
              clear H
              go_wp2
              repeat (go_quiet (fail);try go_wp2)
              go_meet
              case rel=>exact ⟨_,(false),(by first|rfl|(simp;done)|(simp [*];done)),H',⟨by have:=HJ1.out;have:=HK2.out;first|omega|exact Nat.le_refl _⟩,⟨by (with_reducible repeat (first|refine blk_drewN ?_ _|refine blk_drew ?_|refine blk_alloc ?_ _));exact BK153.out⟩,⟨by repeat (first|(with_reducible first|exact HB.out|apply below_alloc|apply pw_below_drewN|apply below_drew1|refine below_set ?_ GE153.out)|exact HB.out)⟩⟩
          case rest =>
            clear HC12
            try clear c1
            try clear p2
            try clear c5
            try clear c5b0
            try clear c5b1
            try clear c13
            try clear hcz10_0
            try clear hcz10_1
            try clear hcz10_2
            try clear hcz14_0
            try clear hcz14_1
            try clear hcz14_2
            try clear hcz7_0
            try clear hcz7_1
            try clear hcz7_2
            try clear hcz9_0
            try clear hcz9_1
            try clear hcz9_2
            try clear hfz10_0
            try clear hfz10_1
            try clear hfz10_2
            try clear hfz14_0
            try clear hfz14_1
            try clear hfz14_2
            try clear hfz7_0
            try clear hfz7_1
            try clear hfz7_2
            try clear hfz9_0
            try clear hfz9_1
            try clear hfz9_2
            try clear p2
            obtain ⟨kq,x22_11,rfl,HA,HJ11,BK153,HB⟩:=hcut
            cases kq with
            | zero=>exact absurd HA.out (by simp [saronref09_Check.j2])
            | succ kj11 =>
              have H:=HA.out
              clear HA
              simp only [saronref09_Check.j2] at H
              by_cases c15:x22_11=true
              · subst c15
                have H1:(if 0≤x4_2 then (if x4_2<(l0_2.length:Int) then ((saronref00_Sits.f ((rd_T62 l0_2 x4_2).f0) 0 (wrap64 ((l0_1.length:Int) - 1))).bind fun t157=>(if t157=true then ((saronref09_areTones.f kj11 ((rd_T62 l0_2 x4_2).f1) 1 24).bind fun t159=>(saronref09_Check.l0 kj11 t159 (wrap64 (x4_2+1)) a0_0 l0_1 l0_2)) else (saronref09_Check.l0 kj11 false (wrap64 (x4_2+1)) a0_0 l0_1 l0_2))) else (none)) else (none))=some r:=by rw [if_pos rfl] at H;exact H
                clear H
                have H:=H1
                clear H1
                by_cases c16:0≤x4_2
                · rw [if_pos c16] at H
                  have c16b0:decide (0≤x4_2)=true:=decide_eq_true c16
                  clear c16
                  by_cases c17:x4_2<(l0_2.length:Int)
                  · rw [if_pos c17] at H
                    have c17b0:decide (x4_2<(l0_2.length:Int))=true:=decide_eq_true c17
                    clear c17
                    replace H:=Option.bind_eq_some_iff.mp H
                    obtain ⟨t157,A180,H⟩:=H
                    replace H:(if t157=true then ((saronref09_areTones.f kj11 ((rd_T62 l0_2 x4_2).f1) 1 24).bind fun t159=>(saronref09_Check.l0 kj11 t159 (wrap64 (x4_2+1)) a0_0 l0_1 l0_2)) else (saronref09_Check.l0 kj11 false (wrap64 (x4_2+1)) a0_0 l0_1 l0_2))=some r:=H
                    have A18:=Aside0.mk A180
                    clear A180
                    by_cases c19:t157=true
                    · subst c19
                      have H1:((saronref09_areTones.f kj11 ((rd_T62 l0_2 x4_2).f1) 1 24).bind fun t159=>(saronref09_Check.l0 kj11 t159 (wrap64 (x4_2+1)) a0_0 l0_1 l0_2))=some r:=by rw [if_pos rfl] at H;exact H
                      clear H
                      have H:=H1
                      clear H1
                      replace H:=Option.bind_eq_some_iff.mp H
                      obtain ⟨t159,A200,H⟩:=H
                      replace H:(saronref09_Check.l0 kj11 t159 (wrap64 (x4_2+1)) a0_0 l0_1 l0_2)=some r:=H
                      have A20:=Aside0.mk A200
                      clear A200
                      have H':=Aside0.mk H
                      clear H
                      have hcz21_0:wc.cell? ⟨gb153,0,none⟩=some (.int .i64 a0_0):=(blk_cell BK153.out 0).trans rfl
                      have hcz21_1:wc.cell? ⟨gb153,1,none⟩=some (.slice A0_1 l0_1.length c0_1):=(blk_cell BK153.out 1).trans rfl
                      have hcz21_2:wc.cell? ⟨gb153,2,none⟩=some (.slice A0_2 l0_2.length c0_2):=(blk_cell BK153.out 2).trans rfl
                      have hfz21_0:=blk_frozen BK153.out 0
                      have hfz21_1:=blk_frozen BK153.out 1
                      have hfz21_2:=blk_frozen BK153.out 2
                      have p156:0≤(x4_2:Int):=of_decide_eq_true (by first|(with_reducible assumption)|assumption)
                      have q156:x4_2<(l0_2.length:Int):=of_decide_eq_true (by first|(with_reducible assumption)|assumption)
                      obtain ⟨ad156,A156_1,c156_1,e156,hx156_0,hx156_1,hl156_1,hi156_1⟩:=at_T62 HR0_2.out x4_2 p156 q156
                      cases e156
                      replace hx156_0:=(HB.out.cell (World.block_lt_of_cell? w _ hx156_0)).trans hx156_0
                      replace hx156_1:=(HB.out.cell (World.block_lt_of_cell? w _ hx156_1)).trans hx156_1
                      have HR156_1:=Aside0.mk hi156_1
                      have HC156_1:=Aside0.mk hl156_1
                      clear hi156_1 hl156_1
                      replace p156:=eq_true p156
                      replace q156:=eq_true q156
                      go_wp2_with fail
                      go_quiet (first|(go_at_call 41;(with_reducible refine (saronref00_Sits.calls ((rd_T62 l0_2 x4_2).f0) 0 (wrap64 ((l0_1.length:Int) - 1)) true _ A18.out).mono ?_);rintro e w' ⟨rfl,⟨nd,rfl⟩⟩;first|exact ⟨rfl,_,World.drewN_drewN _ _ _⟩|exact ⟨rfl,_,Eq.trans (World.drewN_drewN _ _ _) (congrArg (World.drewN _) (Nat.add_assoc _ _ _))⟩)|(go_at_call 68;(with_reducible refine (saronref09_areTones.calls kj11 _ _ ((rd_T62 l0_2 x4_2).f1) 1 24 t159 _ ?side1 ?side2 A20.out).mono ?_);(case side1=>repeat (first|exact (Kd.C_below HR156_1.out HB.out)|(with_reducible refine Kd.C_alloc ?_ _)|(with_reducible refine Kd.C_drewN ?_ _)|(with_reducible refine Kd.C_drew ?_)));(case side2=>exact HC156_1.out);rintro e w' ⟨rfl,⟨nd,rfl⟩⟩;first|exact ⟨rfl,_,World.drewN_drewN _ _ _⟩|exact ⟨rfl,_,Eq.trans (World.drewN_drewN _ _ _) (congrArg (World.drewN _) (Nat.add_assoc _ _ _))⟩))
                      go_wp2_with fail
                      go_roundg kj11
                      case measure=>have:=HJ1.out;have:=HK2.out;have:=HJ11.out;omega
                      case rel=>exact ⟨(t159),(wrap64 (x4_2+1)),(by first|rfl|(simp;done)|(simp [*];done)),(by first|rfl|(simp;done)|(simp [*];done)),H',⟨by have:=HJ1.out;have:=HK2.out;have:=HJ11.out;omega⟩,⟨by (with_reducible repeat (first|refine blk_drewN ?_ _|refine blk_drew ?_|refine blk_alloc ?_ _));exact BK153.out⟩,⟨by repeat (first|(with_reducible first|exact HB.out|apply below_alloc|apply pw_below_drewN|apply below_drew1|refine below_set ?_ GE153.out)|exact HB.out)⟩⟩
                    · replace c19:=Bool.eq_false_iff.mpr c19
                      subst c19
                      have H1:(saronref09_Check.l0 kj11 false (wrap64 (x4_2+1)) a0_0 l0_1 l0_2)=some r:=by rw [if_neg (show ¬ (false=true) by decide)] at H;exact H
                      clear H
                      have H:=H1
                      clear H1
                      have H':=Aside0.mk H
                      clear H
                      have hcz22_0:wc.cell? ⟨gb153,0,none⟩=some (.int .i64 a0_0):=(blk_cell BK153.out 0).trans rfl
                      have hcz22_1:wc.cell? ⟨gb153,1,none⟩=some (.slice A0_1 l0_1.length c0_1):=(blk_cell BK153.out 1).trans rfl
                      have hcz22_2:wc.cell? ⟨gb153,2,none⟩=some (.slice A0_2 l0_2.length c0_2):=(blk_cell BK153.out 2).trans rfl
                      have hfz22_0:=blk_frozen BK153.out 0
                      have hfz22_1:=blk_frozen BK153.out 1
                      have hfz22_2:=blk_frozen BK153.out 2
                      have p156:0≤(x4_2:Int):=of_decide_eq_true (by first|(with_reducible assumption)|assumption)
                      have q156:x4_2<(l0_2.length:Int):=of_decide_eq_true (by first|(with_reducible assumption)|assumption)
                      obtain ⟨ad156,A156_1,c156_1,e156,hx156_0,hx156_1,hl156_1,hi156_1⟩:=at_T62 HR0_2.out x4_2 p156 q156
                      cases e156
                      replace hx156_0:=(HB.out.cell (World.block_lt_of_cell? w _ hx156_0)).trans hx156_0
                      replace hx156_1:=(HB.out.cell (World.block_lt_of_cell? w _ hx156_1)).trans hx156_1
                      have HR156_1:=Aside0.mk hi156_1
                      have HC156_1:=Aside0.mk hl156_1
                      clear hi156_1 hl156_1
                      replace p156:=eq_true p156
                      replace q156:=eq_true q156
                      go_wp2_with (first|(go_at_call 41;(with_reducible refine (saronref00_Sits.calls ((rd_T62 l0_2 x4_2).f0) 0 (wrap64 ((l0_1.length:Int) - 1)) false _ A18.out).mono ?_);rintro e w' ⟨rfl,⟨nd,rfl⟩⟩;(try first|exact ⟨rfl,_,World.drewN_drewN _ _ _⟩|exact ⟨rfl,_,Eq.trans (World.drewN_drewN _ _ _) (congrArg (World.drewN _) (Nat.add_assoc _ _ _))⟩)))
                      repeat (go_quiet (first|(go_at_call 41;(with_reducible refine (saronref00_Sits.calls ((rd_T62 l0_2 x4_2).f0) 0 (wrap64 ((l0_1.length:Int) - 1)) false _ A18.out).mono ?_);rintro e w' ⟨rfl,⟨nd,rfl⟩⟩;(try first|exact ⟨rfl,_,World.drewN_drewN _ _ _⟩|exact ⟨rfl,_,Eq.trans (World.drewN_drewN _ _ _) (congrArg (World.drewN _) (Nat.add_assoc _ _ _))⟩)));try go_wp2_with (first|(go_at_call 41;(with_reducible refine (saronref00_Sits.calls ((rd_T62 l0_2 x4_2).f0) 0 (wrap64 ((l0_1.length:Int) - 1)) false _ A18.out).mono ?_);rintro e w' ⟨rfl,⟨nd,rfl⟩⟩;(try first|exact ⟨rfl,_,World.drewN_drewN _ _ _⟩|exact ⟨rfl,_,Eq.trans (World.drewN_drewN _ _ _) (congrArg (World.drewN _) (Nat.add_assoc _ _ _))⟩))))
                      go_roundg kj11
                      case measure=>have:=HJ1.out;have:=HK2.out;have:=HJ11.out;omega
                      case rel=>exact ⟨(false),(wrap64 (x4_2+1)),(by first|rfl|(simp;done)|(simp [*];done)),(by first|rfl|(simp;done)|(simp [*];done)),H',⟨by have:=HJ1.out;have:=HK2.out;have:=HJ11.out;omega⟩,⟨by (with_reducible repeat (first|refine blk_drewN ?_ _|refine blk_drew ?_|refine blk_alloc ?_ _));exact BK153.out⟩,⟨by repeat (first|(with_reducible first|exact HB.out|apply below_alloc|apply pw_below_drewN|apply below_drew1|refine below_set ?_ GE153.out)|exact HB.out)⟩⟩
                  · rw [if_neg c17] at H
                    exact absurd H (by simp)
                · rw [if_neg c16] at H
                  exact absurd H (by simp)
              · replace c15:=Bool.eq_false_iff.mpr c15
                subst c15
                have H1:(if x3_2=true then (some 0) else (some 90))=some r:=by rw [if_neg (show ¬ (false=true) by decide)] at H;exact H
                clear H
                have H:=H1
                clear H1
                by_cases c23:x3_2=true
                · subst c23
                  have H1:(some 0)=some r:=by rw [if_pos rfl] at H;exact H
                  clear H
                  have H:=H1
                  clear H1
                  obtain rfl:=Option.some.inj H
                  go_wp2
                  repeat (go_quiet (fail);try go_wp2)
                  go_ret
                  exact ⟨by first|rfl|(simp [errW_none,errW_some] <;> rfl)|(simp [*,errW_none,errW_some] <;> rfl),by repeat (first|(with_reducible first|exact HB.out|apply below_alloc|apply pw_below_drewN|apply below_drew1|refine below_set ?_ GE153.out)|exact HB.out)⟩
                · replace c23:=Bool.eq_false_iff.mpr c23
                  subst c23
                  have H1:(some 90)=some r:=by rw [if_neg (show ¬ (false=true) by decide)] at H;exact H
                  clear H
                  have H:=H1
                  clear H1
                  obtain rfl:=Option.some.inj H
                  go_wp2
                  repeat (go_quiet (fail);try go_wp2)
                  go_ret
                  exact ⟨by first|rfl|(simp [errW_none,errW_some] <;> rfl)|(simp [*,errW_none,errW_some] <;> rfl),by repeat (first|(with_reducible first|exact HB.out|apply below_alloc|apply pw_below_drewN|apply below_drew1|refine below_set ?_ GE153.out)|exact HB.out)⟩
end Go.Proofs.YthnilelmhpmanaaDoor.PHeardFits
end
section
namespace Go.Proofs.YthnilelmhpmanaaDoor.PHeardFits
open Go.RowKit Go.Proofs.YthnilelmhpmanaaDoorW.PrintWords Go.Proofs.YthnilelmhpmanaaDoorW.PrintLast Go.Proofs.YthnilelmhpmanaaDoorW.PrintMore
attribute [local go_sem] max2_int min2_int max_two min_two max_three min_three max_four min_four
set_option linter.unusedVariables false
set_option linter.unusedSimpArgs false
def saronref09_asked.f (k:Nat) (a0_0:Int) (l0_1:List (S85)) (l0_2:List (S62)) (a1:Bool):Option (Int):=(saronref09_Check.f k a0_0 l0_1 l0_2).bind fun t154=>(if t154=0 then (if a1=true then (some 0) else (some 91)) else (some t154))
set_option maxHeartbeats 8000000 in
set_option maxRecDepth 100000 in
theorem saronref09_asked.calls (k:Nat) (a0_0:Int) (A0_1:Option Addr) (c0_1:Nat) (l0_1:List (S85)) (A0_2:Option Addr) (c0_2:Nat) (l0_2:List (S62)) (a1:Bool) (r:Int) (w:World) (hr0_1:Kd.C k85 w A0_1 l0_1.length l0_1) (hc0_1:l0_1.length≤c0_1) (hr0_2:Kd.C k62 w A0_2 l0_2.length l0_2) (hc0_2:l0_2.length≤c0_2) (h:saronref09_asked.f k a0_0 l0_1 l0_2 a1=some r) :
  Calls Tryd.prog 60 #[.agg #[.int .i64 a0_0,.slice A0_1 l0_1.length c0_1,.slice A0_2 l0_2.length c0_2],.bool a1] w fun e w'=>e=.returned (.int .i64 r)∧Below w.heap.size w w':=by
 have hu27:=Tryd.underlying27
 have HR0_1:=Aside0.mk hr0_1
 have HC0_1:=Aside0.mk hc0_1
 clear hr0_1 hc0_1
 have HR0_2:=Aside0.mk hr0_2
 have HC0_2:=Aside0.mk hc0_2
 clear hr0_2 hc0_2
 have HB:=Aside0.mk (Below.refl w.heap.size w)
 have H:((saronref09_Check.f k a0_0 l0_1 l0_2).bind fun t154=>(if t154=0 then (if a1=true then (some 0) else (some 91)) else (some t154)))=some r:=h
 clear h
 replace H:=Option.bind_eq_some_iff.mp H
 obtain ⟨t154,A30,H⟩:=H
 try dsimp only at H
 have A3:=Aside0.mk A30
 clear A30
 by_cases c4:t154=0
 ·rw [if_pos c4] at H
  have c4b0:(t154 == 0)=true:=beq_iff_eq.mpr c4
  have c4b1:(t154 != 0)=false:=bne_eq_false_iff_eq.mpr c4
  clear c4
  by_cases c5:a1=true
  ·subst c5
   rw [if_pos rfl] at H
   obtain rfl:=Option.some.inj H
   go_enter Tryd.func60,Tryd.ntmps60
   go_wp2_with (first|((with_reducible refine gate_dst (N:=2) rfl ?_);refine box_event ?hg (N:=2) ?hd (cs:=#[.int .i64 a0_0,.slice A0_1 l0_1.length c0_1,.slice A0_2 l0_2.length c0_2]) (t:=27) ?hr ?_;(case hd=>rfl);(case hg=>rfl);(case hr=>first|(go_simp;done)|(go_simp;rfl));intro gb153 hg w6 hbox hb;have n0_:=Aside0.mk (below_step (by repeat (first|(with_reducible first|exact HB.out|apply below_alloc|apply pw_below_drewN|apply below_drew1)|exact HB.out)) hb);have n1_:=Aside0.mk (hbox);have n2_:=Aside0.mk ((by rw [hg];exact (below_size (by repeat (first|(with_reducible first|exact HB.out|apply below_alloc|apply pw_below_drewN|apply below_drew1)|exact HB.out))):w.heap.size≤gb153));have n3_:=Aside0.mk ((by rw [hg];exact (below_size (by repeat (first|(with_reducible first|exact HB.out|apply below_alloc|apply pw_below_drewN|apply below_drew1)|exact HB.out))):w.heap.size≤gb153));clear HB;have HB:=n0_;have BK153:=n1_;have GW153:=n2_;have GE153:=n3_;clear n0_ n1_ n2_ n3_;clear hb hbox hg;have hcz7_0:w6.cell? ⟨gb153,0,none⟩=some (.int .i64 a0_0):=(blk_cell BK153.out 0).trans rfl;have hcz7_1:w6.cell? ⟨gb153,1,none⟩=some (.slice A0_1 l0_1.length c0_1):=(blk_cell BK153.out 1).trans rfl;have hcz7_2:w6.cell? ⟨gb153,2,none⟩=some (.slice A0_2 l0_2.length c0_2):=(blk_cell BK153.out 2).trans rfl;have hfz7_0:=blk_frozen BK153.out 0;have hfz7_1:=blk_frozen BK153.out 1;have hfz7_2:=blk_frozen BK153.out 2)|((with_reducible refine gate_callee (f:=18) rfl ?_);refine goesL_ (some 7) rfl rfl Tryd.func18 (by kernel_rfl) rfl #[.agg #[.int .i64 a0_0,.slice A0_1 l0_1.length c0_1,.slice A0_2 l0_2.length c0_2]] rfl (by (try simp only [List.map_toArray,List.map_cons,List.map_nil]);first|done|rfl|(simp only [List.length_drop,List.length_take];rfl)) ?_;(with_reducible refine (saronref09_Check.calls k a0_0 _ _ l0_1 _ _ l0_2 t154 _ ?side1 ?side2 ?side3 ?side4 A3.out).mono ?_);(case side1=>repeat (first|exact (Kd.C_below HR0_1.out HB.out)|(with_reducible refine Kd.C_alloc ?_ _)|(with_reducible refine Kd.C_drewN ?_ _)|(with_reducible refine Kd.C_drew ?_)));(case side2=>exact HC0_1.out);(case side3=>repeat (first|exact (Kd.C_below HR0_2.out HB.out)|(with_reducible refine Kd.C_alloc ?_ _)|(with_reducible refine Kd.C_drewN ?_ _)|(with_reducible refine Kd.C_drew ?_)));(case side4=>exact HC0_2.out);rintro e w8 ⟨rfl,hb⟩;refine ⟨_,rfl,?_⟩;have n0_:=Aside0.mk (blk_below (g:=gb153) (o:=.cells #[.int .i64 a0_0,.slice A0_1 l0_1.length c0_1,.slice A0_2 l0_2.length c0_2] 27 (0,0)) (by (with_reducible repeat (first|refine blk_drewN ?_ _|refine blk_drew ?_|refine blk_alloc ?_ _));exact BK153.out) hb);have n1_:=Aside0.mk (below_step (by repeat (first|(with_reducible first|exact HB.out|apply below_alloc|apply pw_below_drewN|apply below_drew1|refine below_set ?_ GE153.out)|exact HB.out)) hb);clear BK153;clear HB;have BK153:=n0_;have HB:=n1_;clear n0_ n1_;(try clear hb);(try clear hb2);(try clear hk);(try clear hi)))
   go_ret
   exact ⟨by first|rfl|(simp [errW_none,errW_some] <;> rfl)|(simp [*,errW_none,errW_some] <;> rfl),by repeat (first|(with_reducible first|exact HB.out|apply below_alloc|apply pw_below_drewN|apply below_drew1|refine below_set ?_ GE153.out)|exact HB.out)⟩
  ·replace c5:=Bool.eq_false_iff.mpr c5
   subst c5
   rw [if_neg (show ¬ (false=true) by decide)] at H
   obtain rfl:=Option.some.inj H
   go_enter Tryd.func60,Tryd.ntmps60
   go_wp2_with (first|((with_reducible refine gate_dst (N:=2) rfl ?_);refine box_event ?hg (N:=2) ?hd (cs:=#[.int .i64 a0_0,.slice A0_1 l0_1.length c0_1,.slice A0_2 l0_2.length c0_2]) (t:=27) ?hr ?_;(case hd=>rfl);(case hg=>rfl);(case hr=>first|(go_simp;done)|(go_simp;rfl));intro gb153 hg w9 hbox hb;have n0_:=Aside0.mk (below_step (by repeat (first|(with_reducible first|exact HB.out|apply below_alloc|apply pw_below_drewN|apply below_drew1)|exact HB.out)) hb);have n1_:=Aside0.mk (hbox);have n2_:=Aside0.mk ((by rw [hg];exact (below_size (by repeat (first|(with_reducible first|exact HB.out|apply below_alloc|apply pw_below_drewN|apply below_drew1)|exact HB.out))):w.heap.size≤gb153));have n3_:=Aside0.mk ((by rw [hg];exact (below_size (by repeat (first|(with_reducible first|exact HB.out|apply below_alloc|apply pw_below_drewN|apply below_drew1)|exact HB.out))):w.heap.size≤gb153));clear HB;have HB:=n0_;have BK153:=n1_;have GW153:=n2_;have GE153:=n3_;clear n0_ n1_ n2_ n3_;clear hb hbox hg;have hcz10_0:w9.cell? ⟨gb153,0,none⟩=some (.int .i64 a0_0):=(blk_cell BK153.out 0).trans rfl;have hcz10_1:w9.cell? ⟨gb153,1,none⟩=some (.slice A0_1 l0_1.length c0_1):=(blk_cell BK153.out 1).trans rfl;have hcz10_2:w9.cell? ⟨gb153,2,none⟩=some (.slice A0_2 l0_2.length c0_2):=(blk_cell BK153.out 2).trans rfl;have hfz10_0:=blk_frozen BK153.out 0;have hfz10_1:=blk_frozen BK153.out 1;have hfz10_2:=blk_frozen BK153.out 2)|((with_reducible refine gate_callee (f:=18) rfl ?_);refine goesL_ (some 7) rfl rfl Tryd.func18 (by kernel_rfl) rfl #[.agg #[.int .i64 a0_0,.slice A0_1 l0_1.length c0_1,.slice A0_2 l0_2.length c0_2]] rfl (by (try simp only [List.map_toArray,List.map_cons,List.map_nil]);first|done|rfl|(simp only [List.length_drop,List.length_take];rfl)) ?_;(with_reducible refine (saronref09_Check.calls k a0_0 _ _ l0_1 _ _ l0_2 t154 _ ?side1 ?side2 ?side3 ?side4 A3.out).mono ?_);(case side1=>repeat (first|exact (Kd.C_below HR0_1.out HB.out)|(with_reducible refine Kd.C_alloc ?_ _)|(with_reducible refine Kd.C_drewN ?_ _)|(with_reducible refine Kd.C_drew ?_)));(case side2=>exact HC0_1.out);(case side3=>repeat (first|exact (Kd.C_below HR0_2.out HB.out)|(with_reducible refine Kd.C_alloc ?_ _)|(with_reducible refine Kd.C_drewN ?_ _)|(with_reducible refine Kd.C_drew ?_)));(case side4=>exact HC0_2.out);rintro e w11 ⟨rfl,hb⟩;refine ⟨_,rfl,?_⟩;have n0_:=Aside0.mk (blk_below (g:=gb153) (o:=.cells #[.int .i64 a0_0,.slice A0_1 l0_1.length c0_1,.slice A0_2 l0_2.length c0_2] 27 (0,0)) (by (with_reducible repeat (first|refine blk_drewN ?_ _|refine blk_drew ?_|refine blk_alloc ?_ _));exact BK153.out) hb);have n1_:=Aside0.mk (below_step (by repeat (first|(with_reducible first|exact HB.out|apply below_alloc|apply pw_below_drewN|apply below_drew1|refine below_set ?_ GE153.out)|exact HB.out)) hb);clear BK153;clear HB;have BK153:=n0_;have HB:=n1_;clear n0_ n1_;(try clear hb);(try clear hb2);(try clear hk);(try clear hi)))
   go_ret
   exact ⟨by first|rfl|(simp [errW_none,errW_some] <;> rfl)|(simp [*,errW_none,errW_some] <;> rfl),by repeat (first|(with_reducible first|exact HB.out|apply below_alloc|apply pw_below_drewN|apply below_drew1|refine below_set ?_ GE153.out)|exact HB.out)⟩
 ·rw [if_neg c4] at H
  have c4b0:(t154 == 0)=false:=beq_eq_false_iff_ne.mpr c4
  have c4b1:(t154 != 0)=true:=bne_iff_ne.mpr c4
  obtain rfl:=Option.some.inj H
  go_enter Tryd.func60,Tryd.ntmps60
  go_wp2_with (first|((with_reducible refine gate_dst (N:=2) rfl ?_);refine box_event ?hg (N:=2) ?hd (cs:=#[.int .i64 a0_0,.slice A0_1 l0_1.length c0_1,.slice A0_2 l0_2.length c0_2]) (t:=27) ?hr ?_;(case hd=>rfl);(case hg=>rfl);(case hr=>first|(go_simp;done)|(go_simp;rfl));intro gb153 hg w12 hbox hb;have n0_:=Aside0.mk (below_step (by repeat (first|(with_reducible first|exact HB.out|apply below_alloc|apply pw_below_drewN|apply below_drew1)|exact HB.out)) hb);have n1_:=Aside0.mk (hbox);have n2_:=Aside0.mk ((by rw [hg];exact (below_size (by repeat (first|(with_reducible first|exact HB.out|apply below_alloc|apply pw_below_drewN|apply below_drew1)|exact HB.out))):w.heap.size≤gb153));have n3_:=Aside0.mk ((by rw [hg];exact (below_size (by repeat (first|(with_reducible first|exact HB.out|apply below_alloc|apply pw_below_drewN|apply below_drew1)|exact HB.out))):w.heap.size≤gb153));clear HB;have HB:=n0_;have BK153:=n1_;have GW153:=n2_;have GE153:=n3_;clear n0_ n1_ n2_ n3_;clear hb hbox hg;have hcz13_0:w12.cell? ⟨gb153,0,none⟩=some (.int .i64 a0_0):=(blk_cell BK153.out 0).trans rfl;have hcz13_1:w12.cell? ⟨gb153,1,none⟩=some (.slice A0_1 l0_1.length c0_1):=(blk_cell BK153.out 1).trans rfl;have hcz13_2:w12.cell? ⟨gb153,2,none⟩=some (.slice A0_2 l0_2.length c0_2):=(blk_cell BK153.out 2).trans rfl;have hfz13_0:=blk_frozen BK153.out 0;have hfz13_1:=blk_frozen BK153.out 1;have hfz13_2:=blk_frozen BK153.out 2)|((with_reducible refine gate_callee (f:=18) rfl ?_);refine goesL_ (some 7) rfl rfl Tryd.func18 (by kernel_rfl) rfl #[.agg #[.int .i64 a0_0,.slice A0_1 l0_1.length c0_1,.slice A0_2 l0_2.length c0_2]] rfl (by (try simp only [List.map_toArray,List.map_cons,List.map_nil]);first|done|rfl|(simp only [List.length_drop,List.length_take];rfl)) ?_;(with_reducible refine (saronref09_Check.calls k a0_0 _ _ l0_1 _ _ l0_2 t154 _ ?side1 ?side2 ?side3 ?side4 A3.out).mono ?_);(case side1=>repeat (first|exact (Kd.C_below HR0_1.out HB.out)|(with_reducible refine Kd.C_alloc ?_ _)|(with_reducible refine Kd.C_drewN ?_ _)|(with_reducible refine Kd.C_drew ?_)));(case side2=>exact HC0_1.out);(case side3=>repeat (first|exact (Kd.C_below HR0_2.out HB.out)|(with_reducible refine Kd.C_alloc ?_ _)|(with_reducible refine Kd.C_drewN ?_ _)|(with_reducible refine Kd.C_drew ?_)));(case side4=>exact HC0_2.out);rintro e w14 ⟨rfl,hb⟩;refine ⟨_,rfl,?_⟩;have n0_:=Aside0.mk (blk_below (g:=gb153) (o:=.cells #[.int .i64 a0_0,.slice A0_1 l0_1.length c0_1,.slice A0_2 l0_2.length c0_2] 27 (0,0)) (by (with_reducible repeat (first|refine blk_drewN ?_ _|refine blk_drew ?_|refine blk_alloc ?_ _));exact BK153.out) hb);have n1_:=Aside0.mk (below_step (by repeat (first|(with_reducible first|exact HB.out|apply below_alloc|apply pw_below_drewN|apply below_drew1|refine below_set ?_ GE153.out)|exact HB.out)) hb);clear BK153;clear HB;have BK153:=n0_;have HB:=n1_;clear n0_ n1_;(try clear hb);(try clear hb2);(try clear hk);(try clear hi)))
  go_ret
  exact ⟨by first|rfl|(simp [errW_none,errW_some] <;> rfl)|(simp [*,errW_none,errW_some] <;> rfl),by repeat (first|(with_reducible first|exact HB.out|apply below_alloc|apply pw_below_drewN|apply below_drew1|refine below_set ?_ GE153.out)|exact HB.out)⟩
end Go.Proofs.YthnilelmhpmanaaDoor.PHeardFits
end
section
namespace Go.Proofs.YthnilelmhpmanaaDoor.PHeardFits
open Go.RowKit Go.Proofs.YthnilelmhpmanaaDoorW.PrintWords Go.Proofs.YthnilelmhpmanaaDoorW.PrintLast Go.Proofs.YthnilelmhpmanaaDoorW.PrintMore
attribute [local go_sem] max2_int min2_int max_two min_two max_three min_three max_four min_four
set_option linter.unusedVariables false
set_option linter.unusedSimpArgs false
def saronref09_isPiece.f (a0_0:Int) (l0_1:List (S85)) (l0_2:List (S62)) (a1:Int):Option (Bool):=(saronref00_Sits.f a1 0 (wrap64 ((l0_2.length:Int) - 1))).bind fun t156=>(some t156)
set_option maxHeartbeats 8000000 in
set_option maxRecDepth 100000 in
theorem saronref09_isPiece.calls (a0_0:Int) (A0_1:Option Addr) (c0_1:Nat) (l0_1:List (S85)) (A0_2:Option Addr) (c0_2:Nat) (l0_2:List (S62)) (a1:Int) (r:Bool) (w:World) (hr0_1:Kd.C k85 w A0_1 l0_1.length l0_1) (hc0_1:l0_1.length≤c0_1) (hr0_2:Kd.C k62 w A0_2 l0_2.length l0_2) (hc0_2:l0_2.length≤c0_2) (h:saronref09_isPiece.f a0_0 l0_1 l0_2 a1=some r) :
  Calls Tryd.prog 61 #[.agg #[.int .i64 a0_0,.slice A0_1 l0_1.length c0_1,.slice A0_2 l0_2.length c0_2],.int .i64 a1] w fun e w'=>e=.returned (.bool r)∧Below w.heap.size w w':=by
 have hu27:=Tryd.underlying27
 have HR0_1:=Aside0.mk hr0_1
 have HC0_1:=Aside0.mk hc0_1
 clear hr0_1 hc0_1
 have HR0_2:=Aside0.mk hr0_2
 have HC0_2:=Aside0.mk hc0_2
 clear hr0_2 hc0_2
 have HB:=Aside0.mk (Below.refl w.heap.size w)
 have H:((saronref00_Sits.f a1 0 (wrap64 ((l0_2.length:Int) - 1))).bind fun t156=>(some t156))=some r:=h
 clear h
 replace H:=Option.bind_eq_some_iff.mp H
 obtain ⟨t156,A30,H⟩:=H
 try dsimp only at H
 have A3:=Aside0.mk A30
 clear A30
 obtain rfl:=Option.some.inj H
 go_enter Tryd.func61,Tryd.ntmps61
 go_wp2_with (first|((with_reducible refine gate_dst (N:=2) rfl ?_);refine box_event ?hg (N:=2) ?hd (cs:=#[.int .i64 a0_0,.slice A0_1 l0_1.length c0_1,.slice A0_2 l0_2.length c0_2]) (t:=27) ?hr ?_;(case hd=>rfl);(case hg=>rfl);(case hr=>first|(go_simp;done)|(go_simp;rfl));intro gb155 hg w4 hbox hb;have n0_:=Aside0.mk (below_step (by repeat (first|(with_reducible first|exact HB.out|apply below_alloc|apply pw_below_drewN|apply below_drew1)|exact HB.out)) hb);have n1_:=Aside0.mk (hbox);have n2_:=Aside0.mk ((by rw [hg];exact (below_size (by repeat (first|(with_reducible first|exact HB.out|apply below_alloc|apply pw_below_drewN|apply below_drew1)|exact HB.out))):w.heap.size≤gb155));have n3_:=Aside0.mk ((by rw [hg];exact (below_size (by repeat (first|(with_reducible first|exact HB.out|apply below_alloc|apply pw_below_drewN|apply below_drew1)|exact HB.out))):w.heap.size≤gb155));clear HB;have HB:=n0_;have BK155:=n1_;have GW155:=n2_;have GE155:=n3_;clear n0_ n1_ n2_ n3_;clear hb hbox hg;have hcz5_0:w4.cell? ⟨gb155,0,none⟩=some (.int .i64 a0_0):=(blk_cell BK155.out 0).trans rfl;have hcz5_1:w4.cell? ⟨gb155,1,none⟩=some (.slice A0_1 l0_1.length c0_1):=(blk_cell BK155.out 1).trans rfl;have hcz5_2:w4.cell? ⟨gb155,2,none⟩=some (.slice A0_2 l0_2.length c0_2):=(blk_cell BK155.out 2).trans rfl;have hfz5_0:=blk_frozen BK155.out 0;have hfz5_1:=blk_frozen BK155.out 1;have hfz5_2:=blk_frozen BK155.out 2)|((with_reducible refine gate_callee (f:=41) rfl ?_);refine goesL_ (some 10) rfl rfl Tryd.func41 (by kernel_rfl) rfl #[.int .i64 a1,.int .i64 0,.int .i64 (wrap64 ((l0_2.length:Int) - 1))] rfl (by (try simp only [List.map_toArray,List.map_cons,List.map_nil]);first|done|rfl|(simp only [List.length_drop,List.length_take];rfl)) ?_;(with_reducible refine (saronref00_Sits.calls a1 0 (wrap64 ((l0_2.length:Int) - 1)) t156 _ A3.out).mono ?_);rintro e w' ⟨rfl,⟨nd,rfl⟩⟩;refine ⟨_,rfl,?_⟩))
 go_ret
 exact ⟨by first|rfl|(simp [errW_none,errW_some] <;> rfl)|(simp [*,errW_none,errW_some] <;> rfl),by repeat (first|(with_reducible first|exact HB.out|apply below_alloc|apply pw_below_drewN|apply below_drew1|refine below_set ?_ GE155.out)|exact HB.out)⟩
end Go.Proofs.YthnilelmhpmanaaDoor.PHeardFits
end
section
namespace Go.Proofs.YthnilelmhpmanaaDoor.PHeardFits
open Go.RowKit Go.Proofs.YthnilelmhpmanaaDoorW.PrintWords Go.Proofs.YthnilelmhpmanaaDoorW.PrintLast Go.Proofs.YthnilelmhpmanaaDoorW.PrintMore
attribute [local go_sem] max2_int min2_int max_two min_two max_three min_three max_four min_four
set_option linter.unusedVariables false
set_option linter.unusedSimpArgs false
mutual
def saronref09_share.l0:Nat→List Int→List Int→List Int→Int→Option (Int)
 | 0,_,_,_,_=>none
 | k+1,x0,x1,x5,x6=>if x6<(x0.length:Int) then (if 0≤(wrap64 ((x1.length:Int)+1)) then (if (wrap64 ((x1.length:Int)+1):Int).toNat≤35184372088832 then (saronref09_share.l1 k x0 x1 x5 x6 (List.replicate (wrap64 ((x1.length:Int)+1):Int).toNat 0) 0) else (none)) else (none)) else (if 0≤(x1.length:Int) then (if (x1.length:Int)<(x5.length:Int) then (some (rd x5 (x1.length:Int))) else (none)) else (none))
def saronref09_share.l1:Nat→List Int→List Int→List Int→Int→List Int→Int→Option (Int)
 | 0,_,_,_,_,_,_=>none
 | k+1,x0,x1,x5,x6,x7,x8=>if x8<(x1.length:Int) then (if 0≤x8 then (if x8<(x7.length:Int) then (if 0≤(wrap64 (x8+1)) then (if (wrap64 (x8+1))<(x5.length:Int) then (if (wrap64 (x8+1))<(x7.length:Int) then ((some (x7.set ((wrap64 (x8+1)):Int).toNat (mx (rd x7 x8) (rd x5 (wrap64 (x8+1)))):List Int)).bind fun y501=>(if 0≤x6 then (if x6<(x0.length:Int) then (if (rd x0 x6)=(rd x1 x8) then (if x8<(x5.length:Int) then (saronref09_share.l1 k x0 x1 x5 x6 (y501.set ((wrap64 (x8+1)):Int).toNat (mx (rd y501 (wrap64 (x8+1))) (wrap64 ((rd x5 x8)+1)))) (wrap64 (x8+1))) else (none)) else (saronref09_share.l1 k x0 x1 x5 x6 y501 (wrap64 (x8+1)))) else (none)) else (none))) else (none)) else (none)) else (none)) else (none)) else (none)) else (saronref09_share.l0 k x0 x1 x7 (wrap64 (x6+1)))
end
def saronref09_share.f (k:Nat) (l0:List Int) (l1:List Int):Option (Int):=if 0≤(wrap64 ((l1.length:Int)+1)) then (if (wrap64 ((l1.length:Int)+1):Int).toNat≤35184372088832 then (saronref09_share.l0 k l0 l1 (List.replicate (wrap64 ((l1.length:Int)+1):Int).toNat 0) 0) else (none)) else (none)
def saronref09_share.T9:Bool×List (List Nat×List Nat):=(true,[([],[]),([],[]),([1],[1]),([],[]),([],[]),([3,4],[3,4]),([5],[5]),([],[]),([],[]),([8],[8]),([7,9],[7,9]),([10],[10]),([6,11],[6,11]),([0,2,0,1,2,3,4,5,6,7,8,9,10,11,12],[0,2]),([13,12,0,1,2,3,4,5,6,7,8,9,10,11,12],[12,13])])
def saronref09_share.B9:List Nat:=[0,0,2,0,0,24,56,0,0,256,896,1920,4088,8191,16383]
theorem saronref09_share.tab9:rtab .any (opsOf Tryd.f79 9)=saronref09_share.T9:=by kernel_rfl
theorem saronref09_share.bits9:waitsOk saronref09_share.T9.2 saronref09_share.B9=true:=by kernel_rfl
def saronref09_share.T10:Bool×List (List Nat×List Nat):=(true,[([],[]),([],[]),([0,1],[0,1]),([2],[2]),([],[]),([],[]),([4,5],[4,5]),([6],[6]),([3,7],[3,7])])
def saronref09_share.B10:List Nat:=[0,0,3,7,0,0,48,112,255]
theorem saronref09_share.tab10:rtab .any (opsOf Tryd.f79 10)=saronref09_share.T10:=by kernel_rfl
theorem saronref09_share.bits10:waitsOk saronref09_share.T10.2 saronref09_share.B10=true:=by kernel_rfl
def saronref09_share.T11:Bool×List (List Nat×List Nat):=(true,[([],[]),([],[]),([1],[1]),([],[]),([],[]),([4],[4]),([3,5],[3,5]),([6],[6]),([],[]),([],[]),([8,9],[8,9]),([10],[10]),([11],[11]),([7,12],[7,12]),([0,2,0,1,2,3,4,5,6,7,8,9,10,11,12,13],[0,2]),([14,13,0,1,2,3,4,5,6,7,8,9,10,11,12,13],[13,14])])
def saronref09_share.B11:List Nat:=[0,0,2,0,0,16,56,120,0,0,768,1792,3840,8184,16383,32767]
theorem saronref09_share.tab11:rtab .any (opsOf Tryd.f79 11)=saronref09_share.T11:=by kernel_rfl
theorem saronref09_share.bits11:waitsOk saronref09_share.T11.2 saronref09_share.B11=true:=by kernel_rfl
set_option maxHeartbeats 8000000 in
set_option maxRecDepth 100000 in
theorem saronref09_share.calls (k:Nat) (A0:Option Addr) (c0:Nat) (l0:List Int) (A1:Option Addr) (c1:Nat) (l1:List Int) (r:Int) (w:World) (hr0:Kd.C (Kd.int .i64) w A0 l0.length l0) (hc0:l0.length≤c0) (hr1:Kd.C (Kd.int .i64) w A1 l1.length l1) (hc1:l1.length≤c1) (h:saronref09_share.f k l0 l1=some r) :
  Calls Tryd.prog 79 #[.slice A0 l0.length c0,.slice A1 l1.length c1] w fun e w'=>e=.returned (.int .i64 r)∧Below w.heap.size w w':=by
 have HR0:=Aside0.mk hr0
 have HC0:=Aside0.mk hc0
 clear hr0 hc0
 have HR1:=Aside0.mk hr1
 have HC1:=Aside0.mk hc1
 clear hr1 hc1
 have HB:=Aside0.mk (Below.refl w.heap.size w)
 have H:(if 0≤(wrap64 ((l1.length:Int)+1)) then (if (wrap64 ((l1.length:Int)+1):Int).toNat≤35184372088832 then (saronref09_share.l0 k l0 l1 (List.replicate (wrap64 ((l1.length:Int)+1):Int).toNat 0) 0) else (none)) else (none))=some r:=h
 clear h
 obtain ⟨ji3,hji3⟩:∃ j_:Int,(wrap64 ((l1.length:Int)+1))=j_:=⟨_,rfl⟩
 replace H:(if 0≤(ji3) then (if (ji3:Int).toNat≤35184372088832 then (saronref09_share.l0 k l0 l1 (List.replicate (ji3:Int).toNat 0) 0) else (none)) else (none))=some r:=by first|(rw [hji3] at H;exact H)|(simp only [hji3] at H ⊢;exact H)
 have hji3w:(IntKind.i64.wrap ((l1.length:Int)+1))=ji3:=(i64_w _).trans hji3
 by_cases c4:0≤(ji3)
 ·rw [if_pos c4] at H
  have c4b0:=eq_true c4
  have c4b1:decide (0≤(ji3))=true:=decide_eq_true c4
  clear c4
  by_cases c5:(ji3:Int).toNat≤35184372088832
  ·rw [if_pos c5] at H
   have c5b0:=eq_true c5
   have c5b1:decide ((ji3:Int).toNat≤35184372088832)=true:=decide_eq_true c5
   clear c5
   obtain ⟨y492,hy492⟩:∃ y_:List Int,y_=(List.replicate (ji3:Int).toNat 0):=⟨_,rfl⟩
   replace H:(saronref09_share.l0 k l0 l1 y492 0)=some r:=by first|(rw [hy492];with_reducible exact H)|(have H2_:=(Option.bind_some _ _).symm.trans H;rw [hy492];with_reducible exact H2_)|(have H2_:=(Option.bind_some _ _).symm.trans H;with_reducible exact H2_)|with_reducible exact H|(rw [hy492];exact H)|exact H
   have Ny492:=Aside0.mk hy492
   clear hy492
   have H':=Aside0.mk H
   clear H
   go_enter Tryd.func79,Tryd.ntmps79
   go_wp2_with (first|((with_reducible refine gate_dst (N:=12) rfl ?_);refine Kd.R_make (Kd.int .i64) _ 3 rfl (N:=12) rfl 28 _ _ rfl ji3 rfl rfl Tryd.underlying28 (.int .i64 0) 8 info3 rfl (by decide) (by omega) 0 (ok:=fun _=>True) (okp:=fun _=>True) rfl (fun _ hk=>hk) trivial (of_decide_eq_true (by first|(with_reducible assumption)|assumption)) (Nat.le_trans (Nat.mul_le_mul_right _ (of_decide_eq_true (by first|(with_reducible assumption)|assumption):ji3.toNat≤35184372088832)) (by omega)) (Below.refl _ _) (Nat.le_refl _) ?_;intro v493 w6 ho7 hb hg_ hnew_;clear hg_ hnew_;(first|rw [← Ny492.out] at ho7|(simp only [Int.reduceToNat] at ho7;rw [← Ny492.out] at ho7));have n0_:=Aside0.mk (Kd.R_lower ho7 (below_size (by repeat (first|(with_reducible first|exact HB.out|apply below_alloc|apply pw_below_drewN|apply below_drew1)|exact HB.out))));have n1_:=Aside0.mk (below_step (by repeat (first|(with_reducible first|exact HB.out|apply below_alloc|apply pw_below_drewN|apply below_drew1)|exact HB.out)) hb);clear HB;have HO494:=n0_;have HB:=n1_;clear n0_ n1_;clear hb ho7))
   go_loopg [5,6] k (fun kq v5 v6 w'=>∃ (x5_1:List Int) (x6_1:Int),v6=.int .i64 x6_1∧Aside0 (saronref09_share.l0 kq l0 l1 x5_1 x6_1=some r)∧Aside0 (kq≤k)∧Aside0 (Kd.R (Kd.int .i64) 3 w' w.heap.size (fun _=>True) v5 x5_1)∧Aside0 (Below w.heap.size w w'))
   case atStart=>exact ⟨(y492),(0),(by first|rfl|(simp;done)|(simp [*];done)),H',⟨Nat.le_refl _⟩,⟨by (with_reducible repeat (first|apply Kd.R_alloc|apply Kd.R_drewN|apply Kd.R_drew));exact HO494.out⟩,⟨by repeat (first|(with_reducible first|exact HB.out|apply below_alloc|apply pw_below_drewN|apply below_drew1)|exact HB.out)⟩⟩
   case round =>
    clear H'
    try clear c1
    try clear p2
    try clear c4
    try clear c4b0
    try clear c4b1
    try clear c5
    try clear c5b0
    try clear c5b1
    try clear p6
    try clear c7
    obtain ⟨x5_1,x6_1,rfl,HA,HK1,HO_5,HB⟩:=hrel
    cases gk with
    | zero=>exact absurd HA.out (by simp [saronref09_share.l0])
    | succ k1 =>
     have H:=HA.out
     clear HA
     simp only [saronref09_share.l0] at H
     by_cases c8:x6_1<(l0.length:Int)
     ·rw [if_pos c8] at H
      have c8b0:decide (x6_1<(l0.length:Int))=true:=decide_eq_true c8
      clear c8
      obtain ⟨ji9,hji9⟩:∃ j_:Int,(wrap64 ((l1.length:Int)+1))=j_:=⟨_,rfl⟩
      have e93_:ji9=ji3:=hji9.symm.trans hji3
      subst e93_
      replace H:(if 0≤(ji9) then (if (ji9:Int).toNat≤35184372088832 then (saronref09_share.l1 k1 l0 l1 x5_1 x6_1 (List.replicate (ji9:Int).toNat 0) 0) else (none)) else (none))=some r:=by first|(rw [hji9] at H;exact H)|(simp only [hji9] at H ⊢;exact H)
      have hji9w:(IntKind.i64.wrap ((l1.length:Int)+1))=ji9:=(i64_w _).trans hji9
      by_cases c10:0≤(ji9)
      ·rw [if_pos c10] at H
       have c10b0:=eq_true c10
       have c10b1:decide (0≤(ji9))=true:=decide_eq_true c10
       clear c10
       by_cases c11:(ji9:Int).toNat≤35184372088832
       ·rw [if_pos c11] at H
        have c11b0:=eq_true c11
        have c11b1:decide ((ji9:Int).toNat≤35184372088832)=true:=decide_eq_true c11
        clear c11
        obtain ⟨y496,hy496⟩:∃ y_:List Int,y_=(List.replicate (ji9:Int).toNat 0):=⟨_,rfl⟩
        replace H:(saronref09_share.l1 k1 l0 l1 x5_1 x6_1 y496 0)=some r:=by first|(rw [hy496];with_reducible exact H)|(have H2_:=(Option.bind_some _ _).symm.trans H;rw [hy496];with_reducible exact H2_)|(have H2_:=(Option.bind_some _ _).symm.trans H;with_reducible exact H2_)|with_reducible exact H|(rw [hy496];exact H)|exact H
        have Ny496:=Aside0.mk hy496
        clear hy496
        have H':=Aside0.mk H
        clear H
        go_wp2_with (first|((with_reducible refine gate_dst (N:=22) rfl ?_);refine Kd.R_make (Kd.int .i64) _ 3 rfl (N:=22) rfl 28 _ _ rfl ji9 rfl rfl Tryd.underlying28 (.int .i64 0) 8 info3 rfl (by decide) (by omega) 0 (ok:=fun _=>True) (okp:=fun _=>True) rfl (fun _ hk=>hk) trivial (of_decide_eq_true (by first|(with_reducible assumption)|assumption)) (Nat.le_trans (Nat.mul_le_mul_right _ (of_decide_eq_true (by first|(with_reducible assumption)|assumption):ji9.toNat≤35184372088832)) (by omega)) (Below.refl _ _) (Nat.le_refl _) ?_;intro v497 w12 ho13 hb hg_ hnew_;clear hg_ hnew_;(first|rw [← Ny496.out] at ho13|(simp only [Int.reduceToNat] at ho13;rw [← Ny496.out] at ho13));have n0_:=Aside0.mk (Kd.R_elder' (by (with_reducible repeat (first|apply Kd.R_alloc|apply Kd.R_drewN|apply Kd.R_drew));exact HO_5.out) (Kd.R_base ho13) hb);have n1_:=Aside0.mk (Kd.R_lower (Kd.R_new' ho13 (Kd.R_lt (by (with_reducible repeat (first|apply Kd.R_alloc|apply Kd.R_drewN|apply Kd.R_drew));exact HO_5.out))) (below_size (by repeat (first|(with_reducible first|exact HB.out|apply below_alloc|apply pw_below_drewN|apply below_drew1)|exact HB.out))));have n2_:=Aside0.mk (below_step (by repeat (first|(with_reducible first|exact HB.out|apply below_alloc|apply pw_below_drewN|apply below_drew1)|exact HB.out)) hb);clear HO_5;clear HB;have HO_5:=n0_;have HO498:=n1_;have HB:=n2_;clear n0_ n1_ n2_;clear hb ho13))
        go_loopg [8] k1 (fun kq v8 w'=>∃ (x7_2:List Int) (x8_2:Int),v8=.int .i64 x8_2∧Aside0 (saronref09_share.l1 kq l0 l1 x5_1 x6_1 x7_2 x8_2=some r)∧Aside0 (kq≤k1)∧Aside0 (Kd.R (Kd.int .i64) 3 w' w.heap.size (fun k_=>some k_≠(v497:Value).ownBlock) u5 x5_1)∧Aside0 (Kd.R (Kd.int .i64) 3 w' w.heap.size (fun k_=>some k_≠(u5:Value).ownBlock) v497 x7_2)∧Aside0 (Below w.heap.size w w'))
        case atStart=>exact ⟨(y496),(0),(by first|rfl|(simp;done)|(simp [*];done)),H',⟨Nat.le_refl _⟩,⟨by (with_reducible repeat (first|apply Kd.R_alloc|apply Kd.R_drewN|apply Kd.R_drew));exact Kd.R_mono HO_5.out (fun _ hk=>hk.2)⟩,⟨by (with_reducible repeat (first|apply Kd.R_alloc|apply Kd.R_drewN|apply Kd.R_drew));exact Kd.R_mono HO498.out (fun _ hk=>hk.2)⟩,⟨by repeat (first|(with_reducible first|exact HB.out|apply below_alloc|apply pw_below_drewN|apply below_drew1)|exact HB.out)⟩⟩
        case round =>
         clear H'
         try clear c1
         try clear p2
         try clear c4
         try clear c4b0
         try clear c4b1
         try clear c5
         try clear c5b0
         try clear c5b1
         try clear p6
         try clear c7
         try clear c8
         try clear c8b0
         try clear c10
         try clear c10b0
         try clear c10b1
         try clear c11
         try clear c11b0
         try clear c11b1
         try clear p2
         try clear p6
         obtain ⟨x7_2,x8_2,rfl,HA,HK2,HO_5,HO_7,HB⟩:=hrel
         cases gk with
         | zero=>exact absurd HA.out (by simp [saronref09_share.l1])
         | succ k2 =>
          have H:=HA.out
          clear HA
          simp only [saronref09_share.l1] at H
          by_cases c14:x8_2<(l1.length:Int)
          ·rw [if_pos c14] at H
           have c14b0:decide (x8_2<(l1.length:Int))=true:=decide_eq_true c14
           clear c14
           by_cases c15:0≤x8_2
           ·rw [if_pos c15] at H
            have c15b0:decide (0≤x8_2)=true:=decide_eq_true c15
            clear c15
            by_cases c16:x8_2<(x7_2.length:Int)
            ·rw [if_pos c16] at H
             have c16b0:decide (x8_2<(x7_2.length:Int))=true:=decide_eq_true c16
             clear c16
             obtain ⟨ji17,hji17⟩:∃ j_:Int,(wrap64 (x8_2+1))=j_:=⟨_,rfl⟩
             replace H:(if 0≤(ji17) then (if (ji17)<(x5_1.length:Int) then (if (ji17)<(x7_2.length:Int) then ((some (x7_2.set ((ji17):Int).toNat (mx (rd x7_2 x8_2) (rd x5_1 (ji17))):List Int)).bind fun y501=>(if 0≤x6_1 then (if x6_1<(l0.length:Int) then (if (rd l0 x6_1)=(rd l1 x8_2) then (if x8_2<(x5_1.length:Int) then (saronref09_share.l1 k2 l0 l1 x5_1 x6_1 (y501.set ((ji17):Int).toNat (mx (rd y501 (ji17)) (wrap64 ((rd x5_1 x8_2)+1)))) ji17) else (none)) else (saronref09_share.l1 k2 l0 l1 x5_1 x6_1 y501 ji17)) else (none)) else (none))) else (none)) else (none)) else (none))=some r:=by first|(rw [hji17] at H;exact H)|(simp only [hji17] at H ⊢;exact H)
             have hji17w:(IntKind.i64.wrap (x8_2+1))=ji17:=(i64_w _).trans hji17
             by_cases c18:0≤(ji17)
             ·rw [if_pos c18] at H
              have c18b0:decide (0≤(ji17))=true:=decide_eq_true c18
              clear c18
              by_cases c19:(ji17)<(x5_1.length:Int)
              ·rw [if_pos c19] at H
               have c19b0:decide ((ji17)<(x5_1.length:Int))=true:=decide_eq_true c19
               clear c19
               obtain ⟨ji20,hji20⟩:∃ j_:Int,(mx (rd x7_2 x8_2) (rd x5_1 (ji17)))=j_:=⟨_,rfl⟩
               replace H:(if (ji17)<(x7_2.length:Int) then ((some (x7_2.set ((ji17):Int).toNat (ji20):List Int)).bind fun y501=>(if 0≤x6_1 then (if x6_1<(l0.length:Int) then (if (rd l0 x6_1)=(rd l1 x8_2) then (if x8_2<(x5_1.length:Int) then (saronref09_share.l1 k2 l0 l1 x5_1 x6_1 (y501.set ((ji17):Int).toNat (mx (rd y501 (ji17)) (wrap64 ((rd x5_1 x8_2)+1)))) ji17) else (none)) else (saronref09_share.l1 k2 l0 l1 x5_1 x6_1 y501 ji17)) else (none)) else (none))) else (none))=some r:=by first|(rw [hji20] at H;exact H)|(simp only [hji20] at H ⊢;exact H)
               have hji20_:(if (rd x7_2 x8_2)<(rd x5_1 (ji17)) then (rd x5_1 (ji17)) else (rd x7_2 x8_2))=ji20:=hji20
               by_cases c21:(ji17)<(x7_2.length:Int)
               ·rw [if_pos c21] at H
                have c21b0:decide ((ji17)<(x7_2.length:Int))=true:=decide_eq_true c21
                clear c21
                obtain ⟨y501,hy501⟩:∃ y_:List Int,y_=(x7_2.set ((ji17):Int).toNat (ji20)):=⟨_,rfl⟩
                replace H:(if 0≤x6_1 then (if x6_1<(l0.length:Int) then (if (rd l0 x6_1)=(rd l1 x8_2) then (if x8_2<(x5_1.length:Int) then (saronref09_share.l1 k2 l0 l1 x5_1 x6_1 (y501.set ((ji17):Int).toNat (mx (rd y501 (ji17)) (wrap64 ((rd x5_1 x8_2)+1)))) ji17) else (none)) else (saronref09_share.l1 k2 l0 l1 x5_1 x6_1 y501 ji17)) else (none)) else (none))=some r:=by first|(rw [hy501];with_reducible exact H)|(have H2_:=(Option.bind_some _ _).symm.trans H;rw [hy501];with_reducible exact H2_)|(have H2_:=(Option.bind_some _ _).symm.trans H;with_reducible exact H2_)|with_reducible exact H|(rw [hy501];exact H)|exact H
                have Ny501:=Aside0.mk hy501
                clear hy501
                by_cases c23:0≤x6_1
                ·rw [if_pos c23] at H
                 have c23b0:decide (0≤x6_1)=true:=decide_eq_true c23
                 clear c23
                 by_cases c24:x6_1<(l0.length:Int)
                 ·rw [if_pos c24] at H
                  have c24b0:decide (x6_1<(l0.length:Int))=true:=decide_eq_true c24
                  clear c24
                  by_cases c25:(rd l0 x6_1)=(rd l1 x8_2)
                  ·rw [if_pos c25] at H
                   have c25b0:((rd l0 x6_1) == (rd l1 x8_2))=true:=beq_iff_eq.mpr c25
                   have c25b1:((rd l0 x6_1) != (rd l1 x8_2))=false:=bne_eq_false_iff_eq.mpr c25
                   clear c25
                   by_cases c26:x8_2<(x5_1.length:Int)
                   ·rw [if_pos c26] at H
                    have c26b0:decide (x8_2<(x5_1.length:Int))=true:=decide_eq_true c26
                    clear c26
                    obtain ⟨ji27,hji27⟩:∃ j_:Int,(mx (rd y501 (ji17)) (wrap64 ((rd x5_1 x8_2)+1)))=j_:=⟨_,rfl⟩
                    replace H:(saronref09_share.l1 k2 l0 l1 x5_1 x6_1 (y501.set ((ji17):Int).toNat (ji27)) ji17)=some r:=by first|(rw [hji27] at H;exact H)|(simp only [hji27] at H ⊢;exact H)
                    have hji27_:(if (rd y501 (ji17))<(wrap64 ((rd x5_1 x8_2)+1)) then (wrap64 ((rd x5_1 x8_2)+1)) else (rd y501 (ji17)))=ji27:=hji27
                    obtain ⟨y506,hy506⟩:∃ y_:List Int,y_=(y501.set ((ji17):Int).toNat (ji27)):=⟨_,rfl⟩
                    replace H:(saronref09_share.l1 k2 l0 l1 x5_1 x6_1 y506 ji17)=some r:=by first|(rw [hy506];with_reducible exact H)|(have H2_:=(Option.bind_some _ _).symm.trans H;rw [hy506];with_reducible exact H2_)|(have H2_:=(Option.bind_some _ _).symm.trans H;with_reducible exact H2_)|with_reducible exact H|(rw [hy506];exact H)|exact H
                    have Ny506:=Aside0.mk hy506
                    clear hy506
                    have H':=Aside0.mk H
                    clear H
                    try go_wp2
                    have n0_:=Aside0.mk (Kd.R_drew HO_5.out)
                    have n1_:=Aside0.mk (Kd.R_drew HO_7.out)
                    have n2_:=Aside0.mk (below_drew1 HB.out)
                    clear HO_5
                    clear HO_7
                    clear HB
                    have HO_5:=n0_
                    have HO_7:=n1_
                    have HB:=n2_
                    clear n0_ n1_ n2_
                    obtain ⟨Ao30,co30,eo30⟩:=Kd.R_slice HO_7.out
                    (first|subst eo30|(injection eo30 with f1_ f2_ f3_;have f4_:=f1_.symm;have f5_:=f3_.symm;clear f1_ f2_ f3_;subst f4_;subst f5_))
                    have p499:0≤(x8_2:Int):=of_decide_eq_true (by first|(with_reducible assumption)|assumption)
                    have q499:x8_2<(x7_2.length:Int):=of_decide_eq_true (by first|(with_reducible assumption)|assumption)
                    obtain ⟨ad499,e499,hx499_0⟩:=Kd.at_int (Kd.R_reads' HO_7.out).2.2 x8_2 p499 q499
                    cases e499
                    replace p499:=eq_true p499
                    replace q499:=eq_true q499
                    obtain ⟨Ao31,co31,eo31⟩:=Kd.R_slice HO_5.out
                    (first|subst eo31|(injection eo31 with f1_ f2_ f3_;have f4_:=f1_.symm;have f5_:=f3_.symm;clear f1_ f2_ f3_;subst f4_;subst f5_))
                    have p500:0≤((ji17):Int):=of_decide_eq_true (by first|(with_reducible assumption)|assumption)
                    have q500:(ji17)<(x5_1.length:Int):=of_decide_eq_true (by first|(with_reducible assumption)|assumption)
                    obtain ⟨ad500,e500,hx500_0⟩:=Kd.at_int (Kd.R_reads' HO_5.out).2.2 (ji17) p500 q500
                    cases e500
                    replace p500:=eq_true p500
                    replace q500:=eq_true q500
                    have p22:0≤((ji17):Int):=of_decide_eq_true (by first|(with_reducible assumption)|assumption)
                    have q22:((ji17):Int)<((x7_2.length:Int):Int):=of_decide_eq_true (by first|(with_reducible assumption)|assumption)
                    obtain ⟨go22,co22,eo22,gb22,gl22,cl22,HG22⟩:=Kd.R_form HO_7.out (by omega)
                    (first|cases eo22|(injection eo22 with ea_ en_ ec_;(first|subst ea_|(injection ea_ with ea_;subst ea_));subst ec_;clear en_))
                    have GB22:=Aside0.mk gb22
                    have GG22:=Aside0.mk HG22
                    clear gb22 gl22 HG22
                    (first|simp only [add_plain] at hx499_0|skip)
                    obtain ⟨hx22_0,hf22_0⟩:=Kd.R_celln 0 HO_7.out ((ji17):Int) p22 q22
                    replace p22:=eq_true p22
                    replace q22:=eq_true q22
                    have HP32:=Kd.R_putn HO_7.out ((ji17):Int) ji20
                    rw [← Ny501.out] at HP32
                    have HQ32:=Aside0.mk HP32
                    clear HP32
                    refine start_ (n:=15) (S:=fun w'=>w'.cell? ⟨go22,(x8_2).toNat,none⟩=some (.int .i64 (rd x7_2 x8_2))∧w'.cell? (ad500.add ((ji17)).toNat)=some (.int .i64 (rd x5_1 (ji17)))) (ds:=[14]) #[false,false,false,false,false,false,false,false,false,false,false,false,false,false,false] (by kernel_rfl) rfl rfl ⟨hx499_0,hx500_0⟩ (fun hHeld=>?_);refine with_tabW saronref09_share.tab9 saronref09_share.bits9 (fun HT_ HW_=>?_)
                    generalize wr.drew=w29 at HO_5 HO_7 HB GG22 HQ32 hf22_0 hx22_0 hx499_0 hx500_0 hHeld ⊢
                    refine pure_ (i:=0) (N:=some 29) (v:=?_) (a':=?_) #[true,false,false,false,false,false,false,false,false,false,false,false,false,false,false] rfl rfl (any_of HT_.out (by kernel_rfl)) (fun _ _ _ h=>h) (Or.inl ⟨by rfl,?_⟩) ?_ ?_
                    rotate_left
                    ·intro w'
                     go_simp
                     with_reducible rfl
                    rotate_left
                    ·simp only [Act.put,List.setIfInBounds_toArray,List.set_cons_zero,List.set_cons_succ,i64_w,i32_w]
                     rfl
                    refine pure_ (i:=1) (N:=some 30) (v:=?_) (a':=?_) #[true,true,false,false,false,false,false,false,false,false,false,false,false,false,false] rfl rfl (any_of HT_.out (by kernel_rfl)) (fun _ _ _ h=>h) (Or.inl ⟨by rfl,?_⟩) ?_ ?_
                    rotate_left
                    ·intro w'
                     go_simp
                     with_reducible rfl
                    rotate_left
                    ·simp only [Act.put,List.setIfInBounds_toArray,List.set_cons_zero,List.set_cons_succ,i64_w,i32_w]
                     rfl
                    refine pure_ (i:=2) (N:=some 31) (v:=?_) (a':=?_) #[true,true,true,false,false,false,false,false,false,false,false,false,false,false,false] rfl rfl (any_of HT_.out (by kernel_rfl)) (fun _ _ _ h=>h) (Or.inl ⟨by rfl,?_⟩) ?_ ?_
                    rotate_left
                    ·intro w'
                     go_simp
                     with_reducible rfl
                    rotate_left
                    ·simp only [Act.put,List.setIfInBounds_toArray,List.set_cons_zero,List.set_cons_succ,i64_w,i32_w]
                     rfl
                    refine pure_ (i:=3) (N:=some 32) (v:=?_) (a':=?_) #[true,true,true,true,false,false,false,false,false,false,false,false,false,false,false] rfl rfl (any_of HT_.out (by kernel_rfl)) (fun _ _ _ h=>h) (Or.inl ⟨by rfl,?_⟩) ?_ ?_
                    rotate_left
                    ·intro w'
                     go_simp
                     with_reducible rfl
                    rotate_left
                    ·simp only [Act.put,List.setIfInBounds_toArray,List.set_cons_zero,List.set_cons_succ,i64_w,i32_w]
                     rfl
                    refine pure_ (i:=4) (N:=some 33) (v:=?_) (a':=?_) #[true,true,true,true,true,false,false,false,false,false,false,false,false,false,false] rfl rfl (any_of HT_.out (by kernel_rfl)) (fun _ _ _ h=>h) (Or.inl ⟨by rfl,?_⟩) ?_ ?_
                    rotate_left
                    ·intro w'
                     go_simp
                     with_reducible rfl
                    rotate_left
                    ·simp only [Act.put,List.setIfInBounds_toArray,List.set_cons_zero,List.set_cons_succ,i64_w,i32_w]
                     rfl
                    refine pure_ (i:=5) (N:=some 34) (v:=?_) (a':=?_) #[true,true,true,true,true,true,false,false,false,false,false,false,false,false,false] rfl rfl (any_of HT_.out (by kernel_rfl)) (fun _ _ _ h=>h) (Or.inl ⟨by rfl,?_⟩) ?_ ?_
                    rotate_left
                    ·intro w'
                     go_simp
                     with_reducible rfl
                    rotate_left
                    ·simp only [Act.put,List.setIfInBounds_toArray,List.set_cons_zero,List.set_cons_succ,i64_w,i32_w]
                     rfl
                    refine pure_ (i:=7) (N:=some 36) (v:=?_) (a':=?_) #[true,true,true,true,true,true,false,true,false,false,false,false,false,false,false] rfl rfl (any_of HT_.out (by kernel_rfl)) (fun _ _ _ h=>h) (Or.inl ⟨by rfl,?_⟩) ?_ ?_
                    rotate_left
                    ·intro w'
                     go_simp
                     with_reducible rfl
                    rotate_left
                    ·simp only [Act.put,List.setIfInBounds_toArray,List.set_cons_zero,List.set_cons_succ,i64_w,i32_w]
                     rfl
                    refine pure_ (i:=8) (N:=some 37) (v:=?_) (a':=?_) #[true,true,true,true,true,true,false,true,true,false,false,false,false,false,false] rfl rfl (any_of HT_.out (by kernel_rfl)) (fun _ _ _ h=>h) (Or.inl ⟨by rfl,?_⟩) ?_ ?_
                    rotate_left
                    ·intro w'
                     go_simp
                     with_reducible rfl
                    rotate_left
                    ·simp only [Act.put,List.setIfInBounds_toArray,List.set_cons_zero,List.set_cons_succ,i64_w,i32_w]
                     rfl
                    refine pure_ (i:=9) (N:=some 38) (v:=?_) (a':=?_) #[true,true,true,true,true,true,false,true,true,true,false,false,false,false,false] rfl rfl (any_of HT_.out (by kernel_rfl)) (fun _ _ _ h=>h) (Or.inl ⟨by rfl,?_⟩) ?_ ?_
                    rotate_left
                    ·intro w'
                     go_simp
                     with_reducible rfl
                    rotate_left
                    ·simp only [Act.put,List.setIfInBounds_toArray,List.set_cons_zero,List.set_cons_succ,i64_w,i32_w]
                     rfl
                    refine pure_ (i:=10) (N:=some 39) (v:=?_) (a':=?_) #[true,true,true,true,true,true,false,true,true,true,true,false,false,false,false] rfl rfl (any_of HT_.out (by kernel_rfl)) (fun _ _ _ h=>h) (Or.inl ⟨by rfl,?_⟩) ?_ ?_
                    rotate_left
                    ·intro w'
                     go_simp
                     with_reducible rfl
                    rotate_left
                    ·simp only [Act.put,List.setIfInBounds_toArray,List.set_cons_zero,List.set_cons_succ,i64_w,i32_w]
                     rfl
                    refine take_ (i:=6) (N:=some 35) (v:=?_) (a':=?_) #[true,true,true,true,true,true,true,true,true,true,true,false,false,false,false] rfl rfl (take_ofW HT_.out HW_.out (by kernel_rfl)) (fun _ _ _ h=>h) (Or.inl ⟨by rfl,?_⟩) hHeld ?_ ?_
                    rotate_left
                    ·rintro w' ⟨s0,s1⟩
                     go_simp
                     with_reducible rfl
                    rotate_left
                    ·simp only [Act.put,List.setIfInBounds_toArray,List.set_cons_zero,List.set_cons_succ,i64_w,i32_w]
                     rfl
                    refine take_ (i:=11) (N:=some 40) (v:=?_) (a':=?_) #[true,true,true,true,true,true,true,true,true,true,true,true,false,false,false] rfl rfl (take_ofW HT_.out HW_.out (by kernel_rfl)) (fun _ _ _ h=>h) (Or.inl ⟨by rfl,?_⟩) hHeld ?_ ?_
                    rotate_left
                    ·rintro w' ⟨s0,s1⟩
                     go_simp
                     with_reducible rfl
                    rotate_left
                    ·simp only [Act.put,List.setIfInBounds_toArray,List.set_cons_zero,List.set_cons_succ,i64_w,i32_w]
                     rfl
                    refine pure_ (i:=12) (N:=some 41) (v:=?_) (a':=?_) #[true,true,true,true,true,true,true,true,true,true,true,true,true,false,false] rfl rfl (any_of HT_.out (by kernel_rfl)) (fun _ _ _ h=>h) (Or.inl ⟨by rfl,?_⟩) ?_ ?_
                    rotate_left
                    ·intro w'
                     go_simp
                     with_reducible rfl
                    rotate_left
                    ·simp only [Act.put,List.setIfInBounds_toArray,List.set_cons_zero,List.set_cons_succ,i64_w,i32_w]
                     rfl
                    refine pure_ (i:=13) (N:=some 42) (v:=?_) (a':=?_) #[true,true,true,true,true,true,true,true,true,true,true,true,true,true,false] rfl rfl (any_of HT_.out (by kernel_rfl)) (fun _ _ _ h=>h) (Or.inl ⟨by rfl,?_⟩) ?_ ?_
                    rotate_left
                    ·intro w'
                     go_simp
                     with_reducible rfl
                    rotate_left
                    ·simp only [Act.put,List.setIfInBounds_toArray,List.set_cons_zero,List.set_cons_succ,i64_w,i32_w]
                     rfl
                    refine last_ (i:=14) (N:=none) #[true,true,true,true,true,true,true,true,true,true,true,true,true,true,true] rfl rfl (one_of HT_.out (by kernel_rfl)) (by decide) (fun K hK=>?_)
                    refine skip_ (w1:=?_) (by rfl) rfl ?_ ?_
                    rotate_left
                    ·go_simp
                     rfl
                    refine hK.out _ _ ?_
                    clear hK K
                    refine done_ (done_of HT_.out (by kernel_rfl)) ?_
                    try go_wp2
                    have n0_:Aside0 (Kd.R (Kd.int .i64) 3 (w29.setCell ⟨go22,((ji17):Int).toNat,none⟩ (.int .i64 ji20)) w.heap.size (fun k_=>some k_≠(.slice (some ⟨go22,0,none⟩) x7_2.length co30:Value).ownBlock) (.slice (some ad500) x5_1.length co31) x5_1):=⟨by (with_reducible repeat (first|apply Kd.R_alloc|apply Kd.R_drewN|apply Kd.R_drew));exact Kd.R_mono (Kd.R_far (p:=⟨go22,((ji17):Int).toNat,none⟩) (Kd.R_mono HO_5.out (fun k_ hk=>(⟨hk,fun e_=>hk (by rw [e_];rfl)⟩:_∧k_≠go22))) (fun _ hk=>hk.2) (.int .i64 ji20)) (fun _ hk=>hk.1)⟩
                    have n1_:Aside0 (Kd.R (Kd.int .i64) 3 (w29.setCell ⟨go22,((ji17):Int).toNat,none⟩ (.int .i64 ji20)) w.heap.size (fun k_=>some k_≠(.slice (some ad500) x5_1.length co31:Value).ownBlock) (.slice (some ⟨go22,0,none⟩) x7_2.length co30) y501):=⟨by (with_reducible repeat (first|apply Kd.R_alloc|apply Kd.R_drewN|apply Kd.R_drew));exact HQ32.out⟩
                    have n2_:Aside0 (Below w.heap.size w (w29.setCell ⟨go22,((ji17):Int).toNat,none⟩ (.int .i64 ji20))):=⟨by repeat (first|(with_reducible first|exact HB.out|apply below_alloc|apply pw_below_drewN|apply below_drew1|refine below_set ?_ GB22.out)|exact HB.out)⟩
                    (try clear HO_5)
                    (try clear HO_7)
                    (try clear HB)
                    generalize (w29.setCell ⟨go22,((ji17):Int).toNat,none⟩ (.int .i64 ji20))=w33 at n0_ n1_ n2_ ⊢
                    have HO_5:=n0_
                    have HO_7:=n1_
                    have HB:=n2_
                    clear n0_ n1_ n2_
                    have n0_:=Aside0.mk (Kd.R_drew HO_5.out)
                    have n1_:=Aside0.mk (Kd.R_drew HO_7.out)
                    have n2_:=Aside0.mk (below_drew1 HB.out)
                    clear HO_5
                    clear HO_7
                    clear HB
                    have HO_5:=n0_
                    have HO_7:=n1_
                    have HB:=n2_
                    clear n0_ n1_ n2_
                    have p502:0≤(x6_1:Int):=of_decide_eq_true (by first|(with_reducible assumption)|assumption)
                    have q502:x6_1<(l0.length:Int):=of_decide_eq_true (by first|(with_reducible assumption)|assumption)
                    obtain ⟨ad502,e502,hx502_0⟩:=Kd.at_int HR0.out x6_1 p502 q502
                    have hw502_0:=hx502_0
                    cases e502
                    replace hx502_0:=(HB.out.cell (World.block_lt_of_cell? w _ hx502_0)).trans hx502_0
                    replace p502:=eq_true p502
                    replace q502:=eq_true q502
                    have p503:0≤(x8_2:Int):=of_decide_eq_true (by first|(with_reducible assumption)|assumption)
                    have q503:x8_2<(l1.length:Int):=of_decide_eq_true (by first|(with_reducible assumption)|assumption)
                    obtain ⟨ad503,e503,hx503_0⟩:=Kd.at_int HR1.out x8_2 p503 q503
                    have hw503_0:=hx503_0
                    cases e503
                    replace hx503_0:=(HB.out.cell (World.block_lt_of_cell? w _ hx503_0)).trans hx503_0
                    replace p503:=eq_true p503
                    replace q503:=eq_true q503
                    refine start_ (n:=9) (S:=fun w'=>w'.cell? (ad502.add (x6_1).toNat)=some (.int .i64 (rd l0 x6_1))∧w'.cell? (ad503.add (x8_2).toNat)=some (.int .i64 (rd l1 x8_2))) (ds:=[]) #[false,false,false,false,false,false,false,false,false] (by kernel_rfl) rfl rfl ⟨((HB.out.cell (World.block_lt_of_cell? w _ hw502_0)).trans hw502_0),((HB.out.cell (World.block_lt_of_cell? w _ hw503_0)).trans hw503_0)⟩ (fun hHeld=>?_);refine with_tabW saronref09_share.tab10 saronref09_share.bits10 (fun HT_ HW_=>?_)
                    generalize w33.drew=w34 at HO_5 HO_7 HB HQ32 hx502_0 hx503_0 hHeld ⊢
                    refine pure_ (i:=0) (N:=some 43) (v:=?_) (a':=?_) #[true,false,false,false,false,false,false,false,false] rfl rfl (any_of HT_.out (by kernel_rfl)) (fun _ _ _ h=>h) (Or.inl ⟨by rfl,?_⟩) ?_ ?_
                    rotate_left
                    ·intro w'
                     go_simp
                     with_reducible rfl
                    rotate_left
                    ·simp only [Act.put,List.setIfInBounds_toArray,List.set_cons_zero,List.set_cons_succ,i64_w,i32_w]
                     rfl
                    refine pure_ (i:=1) (N:=some 44) (v:=?_) (a':=?_) #[true,true,false,false,false,false,false,false,false] rfl rfl (any_of HT_.out (by kernel_rfl)) (fun _ _ _ h=>h) (Or.inl ⟨by rfl,?_⟩) ?_ ?_
                    rotate_left
                    ·intro w'
                     go_simp
                     with_reducible rfl
                    rotate_left
                    ·simp only [Act.put,List.setIfInBounds_toArray,List.set_cons_zero,List.set_cons_succ,i64_w,i32_w]
                     rfl
                    refine pure_ (i:=2) (N:=some 45) (v:=?_) (a':=?_) #[true,true,true,false,false,false,false,false,false] rfl rfl (any_of HT_.out (by kernel_rfl)) (fun _ _ _ h=>h) (Or.inl ⟨by rfl,?_⟩) ?_ ?_
                    rotate_left
                    ·intro w'
                     go_simp
                     with_reducible rfl
                    rotate_left
                    ·simp only [Act.put,List.setIfInBounds_toArray,List.set_cons_zero,List.set_cons_succ,i64_w,i32_w]
                     rfl
                    refine pure_ (i:=4) (N:=some 47) (v:=?_) (a':=?_) #[true,true,true,false,true,false,false,false,false] rfl rfl (any_of HT_.out (by kernel_rfl)) (fun _ _ _ h=>h) (Or.inl ⟨by rfl,?_⟩) ?_ ?_
                    rotate_left
                    ·intro w'
                     go_simp
                     with_reducible rfl
                    rotate_left
                    ·simp only [Act.put,List.setIfInBounds_toArray,List.set_cons_zero,List.set_cons_succ,i64_w,i32_w]
                     rfl
                    refine pure_ (i:=5) (N:=some 48) (v:=?_) (a':=?_) #[true,true,true,false,true,true,false,false,false] rfl rfl (any_of HT_.out (by kernel_rfl)) (fun _ _ _ h=>h) (Or.inl ⟨by rfl,?_⟩) ?_ ?_
                    rotate_left
                    ·intro w'
                     go_simp
                     with_reducible rfl
                    rotate_left
                    ·simp only [Act.put,List.setIfInBounds_toArray,List.set_cons_zero,List.set_cons_succ,i64_w,i32_w]
                     rfl
                    refine pure_ (i:=6) (N:=some 49) (v:=?_) (a':=?_) #[true,true,true,false,true,true,true,false,false] rfl rfl (any_of HT_.out (by kernel_rfl)) (fun _ _ _ h=>h) (Or.inl ⟨by rfl,?_⟩) ?_ ?_
                    rotate_left
                    ·intro w'
                     go_simp
                     with_reducible rfl
                    rotate_left
                    ·simp only [Act.put,List.setIfInBounds_toArray,List.set_cons_zero,List.set_cons_succ,i64_w,i32_w]
                     rfl
                    refine take_ (i:=3) (N:=some 46) (v:=?_) (a':=?_) #[true,true,true,true,true,true,true,false,false] rfl rfl (take_ofW HT_.out HW_.out (by kernel_rfl)) (fun _ _ _ h=>h) (Or.inl ⟨by rfl,?_⟩) hHeld ?_ ?_
                    rotate_left
                    ·rintro w' ⟨s0,s1⟩
                     go_simp
                     with_reducible rfl
                    rotate_left
                    ·simp only [Act.put,List.setIfInBounds_toArray,List.set_cons_zero,List.set_cons_succ,i64_w,i32_w]
                     rfl
                    refine take_ (i:=7) (N:=some 50) (v:=?_) (a':=?_) #[true,true,true,true,true,true,true,true,false] rfl rfl (take_ofW HT_.out HW_.out (by kernel_rfl)) (fun _ _ _ h=>h) (Or.inl ⟨by rfl,?_⟩) hHeld ?_ ?_
                    rotate_left
                    ·rintro w' ⟨s0,s1⟩
                     go_simp
                     with_reducible rfl
                    rotate_left
                    ·simp only [Act.put,List.setIfInBounds_toArray,List.set_cons_zero,List.set_cons_succ,i64_w,i32_w]
                     rfl
                    refine pure_ (i:=8) (N:=some 51) (v:=?_) (a':=?_) #[true,true,true,true,true,true,true,true,true] rfl rfl (any_of HT_.out (by kernel_rfl)) (fun _ _ _ h=>h) (Or.inl ⟨by rfl,?_⟩) ?_ ?_
                    rotate_left
                    ·intro w'
                     go_simp
                     with_reducible rfl
                    rotate_left
                    ·simp only [Act.put,List.setIfInBounds_toArray,List.set_cons_zero,List.set_cons_succ,i64_w,i32_w]
                     rfl
                    refine done_ (done_of HT_.out (by kernel_rfl)) ?_
                    try go_wp2
                    have n0_:=Aside0.mk (Kd.R_drew HO_5.out)
                    have n1_:=Aside0.mk (Kd.R_drew HO_7.out)
                    have n2_:=Aside0.mk (below_drew1 HB.out)
                    clear HO_5
                    clear HO_7
                    clear HB
                    have HO_5:=n0_
                    have HO_7:=n1_
                    have HB:=n2_
                    clear n0_ n1_ n2_
                    have p504:0≤((ji17):Int):=of_decide_eq_true (by first|(with_reducible assumption)|assumption)
                    have q504:(ji17)<(y501.length:Int):=(by have h_:((ji17):Int)<((x7_2.length:Int):Int):=of_decide_eq_true (by first|(with_reducible assumption)|assumption);first|(have e_:=(Kd.R_reads' HO_7.out).1;omega)|simpa only [Ny501.out,List.length_set] using h_)
                    have ql504:(((ji17):Int)<((x7_2.length:Int):Int))=True:=eq_true (of_decide_eq_true (by first|(with_reducible assumption)|assumption))
                    obtain ⟨ad504,e504,hx504_0⟩:=Kd.at_int (Kd.R_reads' HO_7.out).2.2 (ji17) p504 q504
                    obtain rfl:(⟨go22,0,none⟩:Addr)=ad504:=(by injection e504)
                    (first|simp only [add_plain] at hx504_0|simp only [add_at] at hx504_0|simp only [Addr.add,Nat.zero_add] at hx504_0|skip)
                    replace p504:=eq_true p504
                    replace q504:=eq_true q504
                    have p505:0≤(x8_2:Int):=of_decide_eq_true (by first|(with_reducible assumption)|assumption)
                    have q505:x8_2<(x5_1.length:Int):=of_decide_eq_true (by first|(with_reducible assumption)|assumption)
                    obtain ⟨ad505,e505,hx505_0⟩:=Kd.at_int (Kd.R_reads' HO_5.out).2.2 x8_2 p505 q505
                    obtain rfl:ad500=ad505:=(by injection e505)
                    replace p505:=eq_true p505
                    replace q505:=eq_true q505
                    have p28:0≤((ji17):Int):=of_decide_eq_true (by first|(with_reducible assumption)|assumption)
                    have q28:((ji17):Int)<((x7_2.length:Int):Int):=of_decide_eq_true (by first|(with_reducible assumption)|assumption)
                    obtain ⟨hx28_0,hf28_0⟩:=Kd.R_celln 0 HO_7.out ((ji17):Int) p28 q28
                    replace p28:=eq_true p28
                    replace q28:=eq_true q28
                    have HP36:=Kd.R_putn HO_7.out ((ji17):Int) ji27
                    rw [← Ny506.out] at HP36
                    have HQ36:=Aside0.mk HP36
                    clear HP36
                    refine start_ (n:=16) (S:=fun w'=>w'.cell? ⟨go22,((ji17)).toNat,none⟩=some (.int .i64 (rd y501 (ji17)))∧w'.cell? (ad500.add (x8_2).toNat)=some (.int .i64 (rd x5_1 x8_2))) (ds:=[15]) #[false,false,false,false,false,false,false,false,false,false,false,false,false,false,false,false] (by kernel_rfl) rfl rfl ⟨hx504_0,hx505_0⟩ (fun hHeld=>?_);refine with_tabW saronref09_share.tab11 saronref09_share.bits11 (fun HT_ HW_=>?_)
                    generalize w34.drew=w35 at HO_5 HO_7 HB HQ36 hf28_0 hx28_0 hx504_0 hx505_0 hHeld ⊢
                    refine pure_ (i:=0) (N:=some 52) (v:=?_) (a':=?_) #[true,false,false,false,false,false,false,false,false,false,false,false,false,false,false,false] rfl rfl (any_of HT_.out (by kernel_rfl)) (fun _ _ _ h=>h) (Or.inl ⟨by rfl,?_⟩) ?_ ?_
                    rotate_left
                    ·intro w'
                     go_simp
                     with_reducible rfl
                    rotate_left
                    ·simp only [Act.put,List.setIfInBounds_toArray,List.set_cons_zero,List.set_cons_succ,i64_w,i32_w]
                     rfl
                    refine pure_ (i:=1) (N:=some 53) (v:=?_) (a':=?_) #[true,true,false,false,false,false,false,false,false,false,false,false,false,false,false,false] rfl rfl (any_of HT_.out (by kernel_rfl)) (fun _ _ _ h=>h) (Or.inl ⟨by rfl,?_⟩) ?_ ?_
                    rotate_left
                    ·intro w'
                     go_simp
                     with_reducible rfl
                    rotate_left
                    ·simp only [Act.put,List.setIfInBounds_toArray,List.set_cons_zero,List.set_cons_succ,i64_w,i32_w]
                     rfl
                    refine pure_ (i:=2) (N:=some 54) (v:=?_) (a':=?_) #[true,true,true,false,false,false,false,false,false,false,false,false,false,false,false,false] rfl rfl (any_of HT_.out (by kernel_rfl)) (fun _ _ _ h=>h) (Or.inl ⟨by rfl,?_⟩) ?_ ?_
                    rotate_left
                    ·intro w'
                     go_simp
                     with_reducible rfl
                    rotate_left
                    ·simp only [Act.put,List.setIfInBounds_toArray,List.set_cons_zero,List.set_cons_succ,i64_w,i32_w]
                     rfl
                    refine pure_ (i:=3) (N:=some 55) (v:=?_) (a':=?_) #[true,true,true,true,false,false,false,false,false,false,false,false,false,false,false,false] rfl rfl (any_of HT_.out (by kernel_rfl)) (fun _ _ _ h=>h) (Or.inl ⟨by rfl,?_⟩) ?_ ?_
                    rotate_left
                    ·intro w'
                     go_simp
                     with_reducible rfl
                    rotate_left
                    ·simp only [Act.put,List.setIfInBounds_toArray,List.set_cons_zero,List.set_cons_succ,i64_w,i32_w]
                     rfl
                    refine pure_ (i:=4) (N:=some 56) (v:=?_) (a':=?_) #[true,true,true,true,true,false,false,false,false,false,false,false,false,false,false,false] rfl rfl (any_of HT_.out (by kernel_rfl)) (fun _ _ _ h=>h) (Or.inl ⟨by rfl,?_⟩) ?_ ?_
                    rotate_left
                    ·intro w'
                     go_simp
                     with_reducible rfl
                    rotate_left
                    ·simp only [Act.put,List.setIfInBounds_toArray,List.set_cons_zero,List.set_cons_succ,i64_w,i32_w]
                     rfl
                    refine pure_ (i:=5) (N:=some 57) (v:=?_) (a':=?_) #[true,true,true,true,true,true,false,false,false,false,false,false,false,false,false,false] rfl rfl (any_of HT_.out (by kernel_rfl)) (fun _ _ _ h=>h) (Or.inl ⟨by rfl,?_⟩) ?_ ?_
                    rotate_left
                    ·intro w'
                     go_simp
                     with_reducible rfl
                    rotate_left
                    ·simp only [Act.put,List.setIfInBounds_toArray,List.set_cons_zero,List.set_cons_succ,i64_w,i32_w]
                     rfl
                    refine pure_ (i:=6) (N:=some 58) (v:=?_) (a':=?_) #[true,true,true,true,true,true,true,false,false,false,false,false,false,false,false,false] rfl rfl (any_of HT_.out (by kernel_rfl)) (fun _ _ _ h=>h) (Or.inl ⟨by rfl,?_⟩) ?_ ?_
                    rotate_left
                    ·intro w'
                     go_simp
                     with_reducible rfl
                    rotate_left
                    ·simp only [Act.put,List.setIfInBounds_toArray,List.set_cons_zero,List.set_cons_succ,i64_w,i32_w]
                     rfl
                    refine pure_ (i:=8) (N:=some 60) (v:=?_) (a':=?_) #[true,true,true,true,true,true,true,false,true,false,false,false,false,false,false,false] rfl rfl (any_of HT_.out (by kernel_rfl)) (fun _ _ _ h=>h) (Or.inl ⟨by rfl,?_⟩) ?_ ?_
                    rotate_left
                    ·intro w'
                     go_simp
                     with_reducible rfl
                    rotate_left
                    ·simp only [Act.put,List.setIfInBounds_toArray,List.set_cons_zero,List.set_cons_succ,i64_w,i32_w]
                     rfl
                    refine pure_ (i:=9) (N:=some 61) (v:=?_) (a':=?_) #[true,true,true,true,true,true,true,false,true,true,false,false,false,false,false,false] rfl rfl (any_of HT_.out (by kernel_rfl)) (fun _ _ _ h=>h) (Or.inl ⟨by rfl,?_⟩) ?_ ?_
                    rotate_left
                    ·intro w'
                     go_simp
                     with_reducible rfl
                    rotate_left
                    ·simp only [Act.put,List.setIfInBounds_toArray,List.set_cons_zero,List.set_cons_succ,i64_w,i32_w]
                     rfl
                    refine pure_ (i:=10) (N:=some 62) (v:=?_) (a':=?_) #[true,true,true,true,true,true,true,false,true,true,true,false,false,false,false,false] rfl rfl (any_of HT_.out (by kernel_rfl)) (fun _ _ _ h=>h) (Or.inl ⟨by rfl,?_⟩) ?_ ?_
                    rotate_left
                    ·intro w'
                     go_simp
                     with_reducible rfl
                    rotate_left
                    ·simp only [Act.put,List.setIfInBounds_toArray,List.set_cons_zero,List.set_cons_succ,i64_w,i32_w]
                     rfl
                    refine take_ (i:=7) (N:=some 59) (v:=?_) (a':=?_) #[true,true,true,true,true,true,true,true,true,true,true,false,false,false,false,false] rfl rfl (take_ofW HT_.out HW_.out (by kernel_rfl)) (fun _ _ _ h=>h) (Or.inl ⟨by rfl,?_⟩) hHeld ?_ ?_
                    rotate_left
                    ·rintro w' ⟨s0,s1⟩
                     go_simp
                     with_reducible rfl
                    rotate_left
                    ·simp only [Act.put,List.setIfInBounds_toArray,List.set_cons_zero,List.set_cons_succ,i64_w,i32_w]
                     rfl
                    refine take_ (i:=11) (N:=some 63) (v:=?_) (a':=?_) #[true,true,true,true,true,true,true,true,true,true,true,true,false,false,false,false] rfl rfl (take_ofW HT_.out HW_.out (by kernel_rfl)) (fun _ _ _ h=>h) (Or.inl ⟨by rfl,?_⟩) hHeld ?_ ?_
                    rotate_left
                    ·rintro w' ⟨s0,s1⟩
                     go_simp
                     with_reducible rfl
                    rotate_left
                    ·simp only [Act.put,List.setIfInBounds_toArray,List.set_cons_zero,List.set_cons_succ,i64_w,i32_w]
                     rfl
                    refine pure_ (i:=12) (N:=some 64) (v:=?_) (a':=?_) #[true,true,true,true,true,true,true,true,true,true,true,true,true,false,false,false] rfl rfl (any_of HT_.out (by kernel_rfl)) (fun _ _ _ h=>h) (Or.inl ⟨by rfl,?_⟩) ?_ ?_
                    rotate_left
                    ·intro w'
                     go_simp
                     with_reducible rfl
                    rotate_left
                    ·simp only [Act.put,List.setIfInBounds_toArray,List.set_cons_zero,List.set_cons_succ,i64_w,i32_w]
                     rfl
                    refine pure_ (i:=13) (N:=some 65) (v:=?_) (a':=?_) #[true,true,true,true,true,true,true,true,true,true,true,true,true,true,false,false] rfl rfl (any_of HT_.out (by kernel_rfl)) (fun _ _ _ h=>h) (Or.inl ⟨by rfl,?_⟩) ?_ ?_
                    rotate_left
                    ·intro w'
                     go_simp
                     with_reducible rfl
                    rotate_left
                    ·simp only [Act.put,List.setIfInBounds_toArray,List.set_cons_zero,List.set_cons_succ,i64_w,i32_w]
                     rfl
                    refine pure_ (i:=14) (N:=some 66) (v:=?_) (a':=?_) #[true,true,true,true,true,true,true,true,true,true,true,true,true,true,true,false] rfl rfl (any_of HT_.out (by kernel_rfl)) (fun _ _ _ h=>h) (Or.inl ⟨by rfl,?_⟩) ?_ ?_
                    rotate_left
                    ·intro w'
                     go_simp
                     with_reducible rfl
                    rotate_left
                    ·simp only [Act.put,List.setIfInBounds_toArray,List.set_cons_zero,List.set_cons_succ,i64_w,i32_w]
                     rfl
                    refine last_ (i:=15) (N:=none) #[true,true,true,true,true,true,true,true,true,true,true,true,true,true,true,true] rfl rfl (one_of HT_.out (by kernel_rfl)) (by decide) (fun K hK=>?_)
                    refine skip_ (w1:=?_) (by rfl) rfl ?_ ?_
                    rotate_left
                    ·go_simp
                     rfl
                    refine hK.out _ _ ?_
                    clear hK K
                    refine done_ (done_of HT_.out (by kernel_rfl)) ?_
                    try go_wp2
                    go_roundg k2
                    case measure=>have:=HK1.out;have:=HK2.out;omega
                    case rel=>exact ⟨(y506),(ji17),(by first|rfl|(simp;done)|(simp only [← hji17] <;> (first|rfl|simp))|(simp [*];done)),H',⟨by have:=HK1.out;have:=HK2.out;omega⟩,⟨by (with_reducible repeat (first|apply Kd.R_alloc|apply Kd.R_drewN|apply Kd.R_drew));exact Kd.R_mono (Kd.R_far (p:=⟨go22,((ji17):Int).toNat,none⟩) (Kd.R_mono HO_5.out (fun k_ hk=>(⟨hk,fun e_=>hk (by rw [e_];rfl)⟩:_∧k_≠go22))) (fun _ hk=>hk.2) (.int .i64 ji27)) (fun _ hk=>hk.1)⟩,⟨by (with_reducible repeat (first|apply Kd.R_alloc|apply Kd.R_drewN|apply Kd.R_drew));exact HQ36.out⟩,⟨by repeat (first|(with_reducible first|exact HB.out|apply below_alloc|apply pw_below_drewN|apply below_drew1|refine below_set ?_ GB22.out)|exact HB.out)⟩⟩
                   ·rw [if_neg c26] at H
                    exact absurd H (by simp)
                  ·rw [if_neg c25] at H
                   have c25b0:((rd l0 x6_1) == (rd l1 x8_2))=false:=beq_eq_false_iff_ne.mpr c25
                   have c25b1:((rd l0 x6_1) != (rd l1 x8_2))=true:=bne_iff_ne.mpr c25
                   have H':=Aside0.mk H
                   clear H
                   try go_wp2
                   have n0_:=Aside0.mk (Kd.R_drew HO_5.out)
                   have n1_:=Aside0.mk (Kd.R_drew HO_7.out)
                   have n2_:=Aside0.mk (below_drew1 HB.out)
                   clear HO_5
                   clear HO_7
                   clear HB
                   have HO_5:=n0_
                   have HO_7:=n1_
                   have HB:=n2_
                   clear n0_ n1_ n2_
                   obtain ⟨Ao38,co38,eo38⟩:=Kd.R_slice HO_7.out
                   (first|subst eo38|(injection eo38 with f1_ f2_ f3_;have f4_:=f1_.symm;have f5_:=f3_.symm;clear f1_ f2_ f3_;subst f4_;subst f5_))
                   have p499:0≤(x8_2:Int):=of_decide_eq_true (by first|(with_reducible assumption)|assumption)
                   have q499:x8_2<(x7_2.length:Int):=of_decide_eq_true (by first|(with_reducible assumption)|assumption)
                   obtain ⟨ad499,e499,hx499_0⟩:=Kd.at_int (Kd.R_reads' HO_7.out).2.2 x8_2 p499 q499
                   cases e499
                   replace p499:=eq_true p499
                   replace q499:=eq_true q499
                   obtain ⟨Ao39,co39,eo39⟩:=Kd.R_slice HO_5.out
                   (first|subst eo39|(injection eo39 with f1_ f2_ f3_;have f4_:=f1_.symm;have f5_:=f3_.symm;clear f1_ f2_ f3_;subst f4_;subst f5_))
                   have p500:0≤((ji17):Int):=of_decide_eq_true (by first|(with_reducible assumption)|assumption)
                   have q500:(ji17)<(x5_1.length:Int):=of_decide_eq_true (by first|(with_reducible assumption)|assumption)
                   obtain ⟨ad500,e500,hx500_0⟩:=Kd.at_int (Kd.R_reads' HO_5.out).2.2 (ji17) p500 q500
                   cases e500
                   replace p500:=eq_true p500
                   replace q500:=eq_true q500
                   have p22:0≤((ji17):Int):=of_decide_eq_true (by first|(with_reducible assumption)|assumption)
                   have q22:((ji17):Int)<((x7_2.length:Int):Int):=of_decide_eq_true (by first|(with_reducible assumption)|assumption)
                   obtain ⟨go22,co22,eo22,gb22,gl22,cl22,HG22⟩:=Kd.R_form HO_7.out (by omega)
                   (first|cases eo22|(injection eo22 with ea_ en_ ec_;(first|subst ea_|(injection ea_ with ea_;subst ea_));subst ec_;clear en_))
                   have GB22:=Aside0.mk gb22
                   have GG22:=Aside0.mk HG22
                   clear gb22 gl22 HG22
                   (first|simp only [add_plain] at hx499_0|skip)
                   obtain ⟨hx22_0,hf22_0⟩:=Kd.R_celln 0 HO_7.out ((ji17):Int) p22 q22
                   replace p22:=eq_true p22
                   replace q22:=eq_true q22
                   have HP40:=Kd.R_putn HO_7.out ((ji17):Int) ji20
                   rw [← Ny501.out] at HP40
                   have HQ40:=Aside0.mk HP40
                   clear HP40
                   refine start_ (n:=15) (S:=fun w'=>w'.cell? ⟨go22,(x8_2).toNat,none⟩=some (.int .i64 (rd x7_2 x8_2))∧w'.cell? (ad500.add ((ji17)).toNat)=some (.int .i64 (rd x5_1 (ji17)))) (ds:=[14]) #[false,false,false,false,false,false,false,false,false,false,false,false,false,false,false] (by kernel_rfl) rfl rfl ⟨hx499_0,hx500_0⟩ (fun hHeld=>?_);refine with_tabW saronref09_share.tab9 saronref09_share.bits9 (fun HT_ HW_=>?_)
                   generalize wr.drew=w37 at HO_5 HO_7 HB GG22 HQ40 hf22_0 hx22_0 hx499_0 hx500_0 hHeld ⊢
                   refine pure_ (i:=0) (N:=some 29) (v:=?_) (a':=?_) #[true,false,false,false,false,false,false,false,false,false,false,false,false,false,false] rfl rfl (any_of HT_.out (by kernel_rfl)) (fun _ _ _ h=>h) (Or.inl ⟨by rfl,?_⟩) ?_ ?_
                   rotate_left
                   ·intro w'
                    go_simp
                    with_reducible rfl
                   rotate_left
                   ·simp only [Act.put,List.setIfInBounds_toArray,List.set_cons_zero,List.set_cons_succ,i64_w,i32_w]
                    rfl
                   refine pure_ (i:=1) (N:=some 30) (v:=?_) (a':=?_) #[true,true,false,false,false,false,false,false,false,false,false,false,false,false,false] rfl rfl (any_of HT_.out (by kernel_rfl)) (fun _ _ _ h=>h) (Or.inl ⟨by rfl,?_⟩) ?_ ?_
                   rotate_left
                   ·intro w'
                    go_simp
                    with_reducible rfl
                   rotate_left
                   ·simp only [Act.put,List.setIfInBounds_toArray,List.set_cons_zero,List.set_cons_succ,i64_w,i32_w]
                    rfl
                   refine pure_ (i:=2) (N:=some 31) (v:=?_) (a':=?_) #[true,true,true,false,false,false,false,false,false,false,false,false,false,false,false] rfl rfl (any_of HT_.out (by kernel_rfl)) (fun _ _ _ h=>h) (Or.inl ⟨by rfl,?_⟩) ?_ ?_
                   rotate_left
                   ·intro w'
                    go_simp
                    with_reducible rfl
                   rotate_left
                   ·simp only [Act.put,List.setIfInBounds_toArray,List.set_cons_zero,List.set_cons_succ,i64_w,i32_w]
                    rfl
                   refine pure_ (i:=3) (N:=some 32) (v:=?_) (a':=?_) #[true,true,true,true,false,false,false,false,false,false,false,false,false,false,false] rfl rfl (any_of HT_.out (by kernel_rfl)) (fun _ _ _ h=>h) (Or.inl ⟨by rfl,?_⟩) ?_ ?_
                   rotate_left
                   ·intro w'
                    go_simp
                    with_reducible rfl
                   rotate_left
                   ·simp only [Act.put,List.setIfInBounds_toArray,List.set_cons_zero,List.set_cons_succ,i64_w,i32_w]
                    rfl
                   refine pure_ (i:=4) (N:=some 33) (v:=?_) (a':=?_) #[true,true,true,true,true,false,false,false,false,false,false,false,false,false,false] rfl rfl (any_of HT_.out (by kernel_rfl)) (fun _ _ _ h=>h) (Or.inl ⟨by rfl,?_⟩) ?_ ?_
                   rotate_left
                   ·intro w'
                    go_simp
                    with_reducible rfl
                   rotate_left
                   ·simp only [Act.put,List.setIfInBounds_toArray,List.set_cons_zero,List.set_cons_succ,i64_w,i32_w]
                    rfl
                   refine pure_ (i:=5) (N:=some 34) (v:=?_) (a':=?_) #[true,true,true,true,true,true,false,false,false,false,false,false,false,false,false] rfl rfl (any_of HT_.out (by kernel_rfl)) (fun _ _ _ h=>h) (Or.inl ⟨by rfl,?_⟩) ?_ ?_
                   rotate_left
                   ·intro w'
                    go_simp
                    with_reducible rfl
                   rotate_left
                   ·simp only [Act.put,List.setIfInBounds_toArray,List.set_cons_zero,List.set_cons_succ,i64_w,i32_w]
                    rfl
                   refine pure_ (i:=7) (N:=some 36) (v:=?_) (a':=?_) #[true,true,true,true,true,true,false,true,false,false,false,false,false,false,false] rfl rfl (any_of HT_.out (by kernel_rfl)) (fun _ _ _ h=>h) (Or.inl ⟨by rfl,?_⟩) ?_ ?_
                   rotate_left
                   ·intro w'
                    go_simp
                    with_reducible rfl
                   rotate_left
                   ·simp only [Act.put,List.setIfInBounds_toArray,List.set_cons_zero,List.set_cons_succ,i64_w,i32_w]
                    rfl
                   refine pure_ (i:=8) (N:=some 37) (v:=?_) (a':=?_) #[true,true,true,true,true,true,false,true,true,false,false,false,false,false,false] rfl rfl (any_of HT_.out (by kernel_rfl)) (fun _ _ _ h=>h) (Or.inl ⟨by rfl,?_⟩) ?_ ?_
                   rotate_left
                   ·intro w'
                    go_simp
                    with_reducible rfl
                   rotate_left
                   ·simp only [Act.put,List.setIfInBounds_toArray,List.set_cons_zero,List.set_cons_succ,i64_w,i32_w]
                    rfl
                   refine pure_ (i:=9) (N:=some 38) (v:=?_) (a':=?_) #[true,true,true,true,true,true,false,true,true,true,false,false,false,false,false] rfl rfl (any_of HT_.out (by kernel_rfl)) (fun _ _ _ h=>h) (Or.inl ⟨by rfl,?_⟩) ?_ ?_
                   rotate_left
                   ·intro w'
                    go_simp
                    with_reducible rfl
                   rotate_left
                   ·simp only [Act.put,List.setIfInBounds_toArray,List.set_cons_zero,List.set_cons_succ,i64_w,i32_w]
                    rfl
                   refine pure_ (i:=10) (N:=some 39) (v:=?_) (a':=?_) #[true,true,true,true,true,true,false,true,true,true,true,false,false,false,false] rfl rfl (any_of HT_.out (by kernel_rfl)) (fun _ _ _ h=>h) (Or.inl ⟨by rfl,?_⟩) ?_ ?_
                   rotate_left
                   ·intro w'
                    go_simp
                    with_reducible rfl
                   rotate_left
                   ·simp only [Act.put,List.setIfInBounds_toArray,List.set_cons_zero,List.set_cons_succ,i64_w,i32_w]
                    rfl
                   refine take_ (i:=6) (N:=some 35) (v:=?_) (a':=?_) #[true,true,true,true,true,true,true,true,true,true,true,false,false,false,false] rfl rfl (take_ofW HT_.out HW_.out (by kernel_rfl)) (fun _ _ _ h=>h) (Or.inl ⟨by rfl,?_⟩) hHeld ?_ ?_
                   rotate_left
                   ·rintro w' ⟨s0,s1⟩
                    go_simp
                    with_reducible rfl
                   rotate_left
                   ·simp only [Act.put,List.setIfInBounds_toArray,List.set_cons_zero,List.set_cons_succ,i64_w,i32_w]
                    rfl
                   refine take_ (i:=11) (N:=some 40) (v:=?_) (a':=?_) #[true,true,true,true,true,true,true,true,true,true,true,true,false,false,false] rfl rfl (take_ofW HT_.out HW_.out (by kernel_rfl)) (fun _ _ _ h=>h) (Or.inl ⟨by rfl,?_⟩) hHeld ?_ ?_
                   rotate_left
                   ·rintro w' ⟨s0,s1⟩
                    go_simp
                    with_reducible rfl
                   rotate_left
                   ·simp only [Act.put,List.setIfInBounds_toArray,List.set_cons_zero,List.set_cons_succ,i64_w,i32_w]
                    rfl
                   refine pure_ (i:=12) (N:=some 41) (v:=?_) (a':=?_) #[true,true,true,true,true,true,true,true,true,true,true,true,true,false,false] rfl rfl (any_of HT_.out (by kernel_rfl)) (fun _ _ _ h=>h) (Or.inl ⟨by rfl,?_⟩) ?_ ?_
                   rotate_left
                   ·intro w'
                    go_simp
                    with_reducible rfl
                   rotate_left
                   ·simp only [Act.put,List.setIfInBounds_toArray,List.set_cons_zero,List.set_cons_succ,i64_w,i32_w]
                    rfl
                   refine pure_ (i:=13) (N:=some 42) (v:=?_) (a':=?_) #[true,true,true,true,true,true,true,true,true,true,true,true,true,true,false] rfl rfl (any_of HT_.out (by kernel_rfl)) (fun _ _ _ h=>h) (Or.inl ⟨by rfl,?_⟩) ?_ ?_
                   rotate_left
                   ·intro w'
                    go_simp
                    with_reducible rfl
                   rotate_left
                   ·simp only [Act.put,List.setIfInBounds_toArray,List.set_cons_zero,List.set_cons_succ,i64_w,i32_w]
                    rfl
                   refine last_ (i:=14) (N:=none) #[true,true,true,true,true,true,true,true,true,true,true,true,true,true,true] rfl rfl (one_of HT_.out (by kernel_rfl)) (by decide) (fun K hK=>?_)
                   refine skip_ (w1:=?_) (by rfl) rfl ?_ ?_
                   rotate_left
                   ·go_simp
                    rfl
                   refine hK.out _ _ ?_
                   clear hK K
                   refine done_ (done_of HT_.out (by kernel_rfl)) ?_
                   try go_wp2
                   have n0_:Aside0 (Kd.R (Kd.int .i64) 3 (w37.setCell ⟨go22,((ji17):Int).toNat,none⟩ (.int .i64 ji20)) w.heap.size (fun k_=>some k_≠(.slice (some ⟨go22,0,none⟩) x7_2.length co38:Value).ownBlock) (.slice (some ad500) x5_1.length co39) x5_1):=⟨by (with_reducible repeat (first|apply Kd.R_alloc|apply Kd.R_drewN|apply Kd.R_drew));exact Kd.R_mono (Kd.R_far (p:=⟨go22,((ji17):Int).toNat,none⟩) (Kd.R_mono HO_5.out (fun k_ hk=>(⟨hk,fun e_=>hk (by rw [e_];rfl)⟩:_∧k_≠go22))) (fun _ hk=>hk.2) (.int .i64 ji20)) (fun _ hk=>hk.1)⟩
                   have n1_:Aside0 (Kd.R (Kd.int .i64) 3 (w37.setCell ⟨go22,((ji17):Int).toNat,none⟩ (.int .i64 ji20)) w.heap.size (fun k_=>some k_≠(.slice (some ad500) x5_1.length co39:Value).ownBlock) (.slice (some ⟨go22,0,none⟩) x7_2.length co38) y501):=⟨by (with_reducible repeat (first|apply Kd.R_alloc|apply Kd.R_drewN|apply Kd.R_drew));exact HQ40.out⟩
                   have n2_:Aside0 (Below w.heap.size w (w37.setCell ⟨go22,((ji17):Int).toNat,none⟩ (.int .i64 ji20))):=⟨by repeat (first|(with_reducible first|exact HB.out|apply below_alloc|apply pw_below_drewN|apply below_drew1|refine below_set ?_ GB22.out)|exact HB.out)⟩
                   (try clear HO_5)
                   (try clear HO_7)
                   (try clear HB)
                   generalize (w37.setCell ⟨go22,((ji17):Int).toNat,none⟩ (.int .i64 ji20))=w41 at n0_ n1_ n2_ ⊢
                   have HO_5:=n0_
                   have HO_7:=n1_
                   have HB:=n2_
                   clear n0_ n1_ n2_
                   have n0_:=Aside0.mk (Kd.R_drew HO_5.out)
                   have n1_:=Aside0.mk (Kd.R_drew HO_7.out)
                   have n2_:=Aside0.mk (below_drew1 HB.out)
                   clear HO_5
                   clear HO_7
                   clear HB
                   have HO_5:=n0_
                   have HO_7:=n1_
                   have HB:=n2_
                   clear n0_ n1_ n2_
                   have p502:0≤(x6_1:Int):=of_decide_eq_true (by first|(with_reducible assumption)|assumption)
                   have q502:x6_1<(l0.length:Int):=of_decide_eq_true (by first|(with_reducible assumption)|assumption)
                   obtain ⟨ad502,e502,hx502_0⟩:=Kd.at_int HR0.out x6_1 p502 q502
                   have hw502_0:=hx502_0
                   cases e502
                   replace hx502_0:=(HB.out.cell (World.block_lt_of_cell? w _ hx502_0)).trans hx502_0
                   replace p502:=eq_true p502
                   replace q502:=eq_true q502
                   have p503:0≤(x8_2:Int):=of_decide_eq_true (by first|(with_reducible assumption)|assumption)
                   have q503:x8_2<(l1.length:Int):=of_decide_eq_true (by first|(with_reducible assumption)|assumption)
                   obtain ⟨ad503,e503,hx503_0⟩:=Kd.at_int HR1.out x8_2 p503 q503
                   have hw503_0:=hx503_0
                   cases e503
                   replace hx503_0:=(HB.out.cell (World.block_lt_of_cell? w _ hx503_0)).trans hx503_0
                   replace p503:=eq_true p503
                   replace q503:=eq_true q503
                   refine start_ (n:=9) (S:=fun w'=>w'.cell? (ad502.add (x6_1).toNat)=some (.int .i64 (rd l0 x6_1))∧w'.cell? (ad503.add (x8_2).toNat)=some (.int .i64 (rd l1 x8_2))) (ds:=[]) #[false,false,false,false,false,false,false,false,false] (by kernel_rfl) rfl rfl ⟨((HB.out.cell (World.block_lt_of_cell? w _ hw502_0)).trans hw502_0),((HB.out.cell (World.block_lt_of_cell? w _ hw503_0)).trans hw503_0)⟩ (fun hHeld=>?_);refine with_tabW saronref09_share.tab10 saronref09_share.bits10 (fun HT_ HW_=>?_)
                   generalize w41.drew=w42 at HO_5 HO_7 HB HQ40 hx502_0 hx503_0 hHeld ⊢
                   refine pure_ (i:=0) (N:=some 43) (v:=?_) (a':=?_) #[true,false,false,false,false,false,false,false,false] rfl rfl (any_of HT_.out (by kernel_rfl)) (fun _ _ _ h=>h) (Or.inl ⟨by rfl,?_⟩) ?_ ?_
                   rotate_left
                   ·intro w'
                    go_simp
                    with_reducible rfl
                   rotate_left
                   ·simp only [Act.put,List.setIfInBounds_toArray,List.set_cons_zero,List.set_cons_succ,i64_w,i32_w]
                    rfl
                   refine pure_ (i:=1) (N:=some 44) (v:=?_) (a':=?_) #[true,true,false,false,false,false,false,false,false] rfl rfl (any_of HT_.out (by kernel_rfl)) (fun _ _ _ h=>h) (Or.inl ⟨by rfl,?_⟩) ?_ ?_
                   rotate_left
                   ·intro w'
                    go_simp
                    with_reducible rfl
                   rotate_left
                   ·simp only [Act.put,List.setIfInBounds_toArray,List.set_cons_zero,List.set_cons_succ,i64_w,i32_w]
                    rfl
                   refine pure_ (i:=2) (N:=some 45) (v:=?_) (a':=?_) #[true,true,true,false,false,false,false,false,false] rfl rfl (any_of HT_.out (by kernel_rfl)) (fun _ _ _ h=>h) (Or.inl ⟨by rfl,?_⟩) ?_ ?_
                   rotate_left
                   ·intro w'
                    go_simp
                    with_reducible rfl
                   rotate_left
                   ·simp only [Act.put,List.setIfInBounds_toArray,List.set_cons_zero,List.set_cons_succ,i64_w,i32_w]
                    rfl
                   refine pure_ (i:=4) (N:=some 47) (v:=?_) (a':=?_) #[true,true,true,false,true,false,false,false,false] rfl rfl (any_of HT_.out (by kernel_rfl)) (fun _ _ _ h=>h) (Or.inl ⟨by rfl,?_⟩) ?_ ?_
                   rotate_left
                   ·intro w'
                    go_simp
                    with_reducible rfl
                   rotate_left
                   ·simp only [Act.put,List.setIfInBounds_toArray,List.set_cons_zero,List.set_cons_succ,i64_w,i32_w]
                    rfl
                   refine pure_ (i:=5) (N:=some 48) (v:=?_) (a':=?_) #[true,true,true,false,true,true,false,false,false] rfl rfl (any_of HT_.out (by kernel_rfl)) (fun _ _ _ h=>h) (Or.inl ⟨by rfl,?_⟩) ?_ ?_
                   rotate_left
                   ·intro w'
                    go_simp
                    with_reducible rfl
                   rotate_left
                   ·simp only [Act.put,List.setIfInBounds_toArray,List.set_cons_zero,List.set_cons_succ,i64_w,i32_w]
                    rfl
                   refine pure_ (i:=6) (N:=some 49) (v:=?_) (a':=?_) #[true,true,true,false,true,true,true,false,false] rfl rfl (any_of HT_.out (by kernel_rfl)) (fun _ _ _ h=>h) (Or.inl ⟨by rfl,?_⟩) ?_ ?_
                   rotate_left
                   ·intro w'
                    go_simp
                    with_reducible rfl
                   rotate_left
                   ·simp only [Act.put,List.setIfInBounds_toArray,List.set_cons_zero,List.set_cons_succ,i64_w,i32_w]
                    rfl
                   refine take_ (i:=3) (N:=some 46) (v:=?_) (a':=?_) #[true,true,true,true,true,true,true,false,false] rfl rfl (take_ofW HT_.out HW_.out (by kernel_rfl)) (fun _ _ _ h=>h) (Or.inl ⟨by rfl,?_⟩) hHeld ?_ ?_
                   rotate_left
                   ·rintro w' ⟨s0,s1⟩
                    go_simp
                    with_reducible rfl
                   rotate_left
                   ·simp only [Act.put,List.setIfInBounds_toArray,List.set_cons_zero,List.set_cons_succ,i64_w,i32_w]
                    rfl
                   refine take_ (i:=7) (N:=some 50) (v:=?_) (a':=?_) #[true,true,true,true,true,true,true,true,false] rfl rfl (take_ofW HT_.out HW_.out (by kernel_rfl)) (fun _ _ _ h=>h) (Or.inl ⟨by rfl,?_⟩) hHeld ?_ ?_
                   rotate_left
                   ·rintro w' ⟨s0,s1⟩
                    go_simp
                    with_reducible rfl
                   rotate_left
                   ·simp only [Act.put,List.setIfInBounds_toArray,List.set_cons_zero,List.set_cons_succ,i64_w,i32_w]
                    rfl
                   refine pure_ (i:=8) (N:=some 51) (v:=?_) (a':=?_) #[true,true,true,true,true,true,true,true,true] rfl rfl (any_of HT_.out (by kernel_rfl)) (fun _ _ _ h=>h) (Or.inl ⟨by rfl,?_⟩) ?_ ?_
                   rotate_left
                   ·intro w'
                    go_simp
                    with_reducible rfl
                   rotate_left
                   ·simp only [Act.put,List.setIfInBounds_toArray,List.set_cons_zero,List.set_cons_succ,i64_w,i32_w]
                    rfl
                   refine done_ (done_of HT_.out (by kernel_rfl)) ?_
                   try go_wp2
                   go_roundg k2
                   case measure=>have:=HK1.out;have:=HK2.out;omega
                   case rel=>exact ⟨(y501),(ji17),(by first|rfl|(simp;done)|(simp only [← hji17] <;> (first|rfl|simp))|(simp [*];done)),H',⟨by have:=HK1.out;have:=HK2.out;omega⟩,⟨by (with_reducible repeat (first|apply Kd.R_alloc|apply Kd.R_drewN|apply Kd.R_drew));exact HO_5.out⟩,⟨by (with_reducible repeat (first|apply Kd.R_alloc|apply Kd.R_drewN|apply Kd.R_drew));exact HO_7.out⟩,⟨by repeat (first|(with_reducible first|exact HB.out|apply below_alloc|apply pw_below_drewN|apply below_drew1)|exact HB.out)⟩⟩
                 ·rw [if_neg c24] at H
                  exact absurd H (by simp)
                ·rw [if_neg c23] at H
                 exact absurd H (by simp)
               ·rw [if_neg c21] at H
                exact absurd H (by simp)
              ·rw [if_neg c19] at H
               exact absurd H (by simp)
             ·rw [if_neg c18] at H
              exact absurd H (by simp)
            ·rw [if_neg c16] at H
             exact absurd H (by simp)
           ·rw [if_neg c15] at H
            exact absurd H (by simp)
          ·rw [if_neg c14] at H
           have c14b0:decide (x8_2<(l1.length:Int))=false:=decide_eq_false c14
           clear c14
           have H':=Aside0.mk H
           clear H
           go_wp2
           go_roundg k2
           case measure=>have:=HK1.out;have:=HK2.out;omega
           case rel=>exact ⟨(x7_2),(wrap64 (x6_1+1)),(by first|rfl|(simp;done)|(simp [*];done)),H',⟨by have:=HK1.out;have:=HK2.out;omega⟩,⟨by (with_reducible repeat (first|apply Kd.R_alloc|apply Kd.R_drewN|apply Kd.R_drew));exact Kd.R_mono HO_7.out (fun _ hk=>trivial)⟩,⟨by repeat (first|(with_reducible first|exact HB.out|apply below_alloc|apply pw_below_drewN|apply below_drew1)|exact HB.out)⟩⟩
       ·rw [if_neg c11] at H
        exact absurd H (by simp)
      ·rw [if_neg c10] at H
       exact absurd H (by simp)
     ·rw [if_neg c8] at H
      have c8b0:decide (x6_1<(l0.length:Int))=false:=decide_eq_false c8
      clear c8
      by_cases c43:0≤(l1.length:Int)
      ·rw [if_pos c43] at H
       have c43b0:decide (0≤(l1.length:Int))=true:=decide_eq_true c43
       have c43b1:decide (0≤l1.length)=true:=decide_eq_true (by omega)
       clear c43
       by_cases c44:(l1.length:Int)<(x5_1.length:Int)
       ·rw [if_pos c44] at H
        have c44b0:decide ((l1.length:Int)<(x5_1.length:Int))=true:=decide_eq_true c44
        have c44b1:decide (l1.length<x5_1.length)=true:=decide_eq_true (Int.ofNat_lt.mp c44)
        clear c44
        obtain rfl:=Option.some.inj H
        obtain ⟨Ao45,co45,eo45⟩:=Kd.R_slice HO_5.out
        subst eo45
        have p495:0≤((l1.length:Int):Int):=of_decide_eq_true (by first|(with_reducible assumption)|assumption)
        have q495:(l1.length:Int)<(x5_1.length:Int):=of_decide_eq_true (by first|(with_reducible assumption)|assumption)
        obtain ⟨ad495,e495,hx495_0⟩:=Kd.at_int (Kd.R_reads' HO_5.out).2.2 (l1.length:Int) p495 q495
        cases e495
        (try simp only [Go.IntWalk.toNatUp] at hx495_0)
        replace p495:=eq_true p495
        replace q495:=eq_true q495
        go_wp2
        go_ret
        exact ⟨by first|rfl|(simp [errW_none,errW_some] <;> rfl)|(simp only [← hji3];first|rfl|(simp [errW_none,errW_some] <;> rfl))|(simp [*,errW_none,errW_some] <;> rfl),by repeat (first|(with_reducible first|exact HB.out|apply below_alloc|apply pw_below_drewN|apply below_drew1)|exact HB.out)⟩
       ·rw [if_neg c44] at H
        exact absurd H (by simp)
      ·rw [if_neg c43] at H
       exact absurd H (by simp)
  ·rw [if_neg c5] at H
   exact absurd H (by simp)
 ·rw [if_neg c4] at H
  exact absurd H (by simp)
end Go.Proofs.YthnilelmhpmanaaDoor.PHeardFits
end
