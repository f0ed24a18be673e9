/- A part of the proof: contracts and laws. -/
import Derived.Test.YthnilelmhpmanaaDoorProg
import Derived.Test.YthnilelmhpmanaaDoorWxq3
import Derived.Test.YthnilelmhpmanaaDoorWxq4
section
namespace Go.Proofs.YthnilelmhpmanaaDoor.PHeardFits
open Go.RowKit Go.Proofs.YthnilelmhpmanaaDoorW.PrintWords Go.Proofs.YthnilelmhpmanaaDoorW.PrintLast Go.Proofs.YthnilelmhpmanaaDoorW.PrintMore
attribute [local go_sem] max2_int min2_int max_two min_two max_three min_three max_four min_four
set_option linter.unusedVariables false
set_option linter.unusedSimpArgs false
def errW:Option Int→Value
  | none=>.nilIface
  | some c=>.iface 0 (.int .i64 c)
theorem errW_none:errW none=.nilIface:=rfl
theorem errW_some (c:Int):errW (some c)=.iface 0 (.int .i64 c):=rfl
theorem info3:(Tryd.prog.info? 3).map (fun i=>(i.zero,i.size,i.bytes))=some (some (.int .i64 0),1,8):=by kernel_rfl
theorem info62:(Tryd.prog.info? 62).map (fun i=>(i.zero,i.size,i.bytes))=some (some (.agg #[(.int .i64 0),(.slice none 0 0)]),2,32):=by kernel_rfl
def rd_L1 (xs:List (List Int)) (i:Int):(List Int):=xs.getD i.toNat ([]:List Int)
theorem at_L1 {w:World} {A:Option Addr} {n:Nat} {xs:List (List Int)} (h:Kd.C (Kd.slice 3 (Kd.int .i64)) w A n xs) (i:Int) (h0:0≤i) (h1:i<n):∃ ad A0 c0,A=some ad∧w.cell? (ad.add i.toNat)=some (.slice A0 (rd_L1 xs i).length c0)∧(rd_L1 xs i).length≤c0∧(Kd.int .i64).C w A0 (rd_L1 xs i).length (rd_L1 xs i):=by
  obtain ⟨ad,c,e,_,hK,hc0⟩:=Kd.C_get h ([]:List Int) i h0 h1
  have hc:∀ j u,c[j]?=some u→w.cell? (ad.add (i.toNat * 1+j))=some u:=hc0
  obtain ⟨A0,c0,rfl,l0,g0⟩:=hK
  exact ⟨ad,A0,c0,e,by have hq:=hc 0 _ rfl;rwa [Nat.mul_one,Nat.add_zero] at hq,l0,g0⟩
structure S85 where
  f0:Int
  f1:(List (List Int))
def z85:S85:=⟨(0:Int),([]:List (List Int))⟩
def k85:Kd S85:=Kd.iso (Kd.pair (Kd.int .i64) (Kd.slice 28 (Kd.slice 3 (Kd.int .i64)))) (fun x:S85=>(x.f0,x.f1))
theorem k85_open {w:World} {x:S85} {cs:List Value} (h:k85.K w x cs):∃ A1 c1,cs=[.int .i64 x.f0,.slice A1 x.f1.length c1]∧x.f1.length≤c1∧(Kd.slice 3 (Kd.int .i64)).C w A1 x.f1.length x.f1:=by
  obtain ⟨_,_,rfl,rfl,⟨A1,c1,rfl,l1,g1⟩⟩:=h
  exact ⟨A1,c1,rfl,l1,g1⟩
theorem k85_mk (w:World) (x:S85) {A1:Option Addr} {c1:Nat} (l1:x.f1.length≤c1) (g1:(Kd.slice 3 (Kd.int .i64)).C w A1 x.f1.length x.f1):k85.K w x [.int .i64 x.f0,.slice A1 x.f1.length c1]:=⟨[.int .i64 x.f0],[.slice A1 x.f1.length c1],rfl,rfl,⟨A1,c1,rfl,l1,g1⟩⟩
theorem k85_mkF (W:World) (ok:Nat→Prop) (x:S85) {A1:Option Addr} {c1:Nat} (l1:x.f1.length≤c1) (g1:Kd.F (Kd.slice 3 (Kd.int .i64)) W ok A1 x.f1.length x.f1):Kd.FK k85 W ok x [.int .i64 x.f0,.slice A1 x.f1.length c1]:=fun W2 hW=>k85_mk W2 x l1 (g1 W2 hW)
def rd_T85 (xs:List S85) (i:Int):S85:=xs.getD i.toNat z85
theorem at_T85 {w:World} {A:Option Addr} {n:Nat} {xs:List S85} (h:Kd.C k85 w A n xs) (i:Int) (h0:0≤i) (h1:i<n):∃ ad A1 c1,A=some ad∧w.cell? (ad.add (i.toNat * 2))=some (.int .i64 (rd_T85 xs i).f0)∧w.cell? ⟨(ad.add (i.toNat * 2)).block,(ad.add (i.toNat * 2)).off+1,none⟩=some (.slice A1 (rd_T85 xs i).f1.length c1)∧(rd_T85 xs i).f1.length≤c1∧(Kd.slice 3 (Kd.int .i64)).C w A1 (rd_T85 xs i).f1.length (rd_T85 xs i).f1:=by
  obtain ⟨ad,c,e,_,hK,hc0⟩:=Kd.C_get h z85 i h0 h1
  have hc:∀ j u,c[j]?=some u→w.cell? (ad.add (i.toNat * 2+j))=some u:=hc0
  obtain ⟨A1,c1,rfl,l1,g1⟩:=k85_open hK
  exact ⟨ad,A1,c1,e,hc 0 _ rfl,by rw [← add_field _ _ 1 (by omega)];exact hc 1 _ rfl,l1,g1⟩
structure S62 where
  f0:Int
  f1:(List Int)
def z62:S62:=⟨(0:Int),([]:List Int)⟩
def k62:Kd S62:=Kd.iso (Kd.pair (Kd.int .i64) (Kd.slice 3 (Kd.int .i64))) (fun x:S62=>(x.f0,x.f1))
theorem k62_open {w:World} {x:S62} {cs:List Value} (h:k62.K w x cs):∃ A1 c1,cs=[.int .i64 x.f0,.slice A1 x.f1.length c1]∧x.f1.length≤c1∧(Kd.int .i64).C w A1 x.f1.length x.f1:=by
  obtain ⟨_,_,rfl,rfl,⟨A1,c1,rfl,l1,g1⟩⟩:=h
  exact ⟨A1,c1,rfl,l1,g1⟩
theorem k62_mk (w:World) (x:S62) {A1:Option Addr} {c1:Nat} (l1:x.f1.length≤c1) (g1:(Kd.int .i64).C w A1 x.f1.length x.f1):k62.K w x [.int .i64 x.f0,.slice A1 x.f1.length c1]:=⟨[.int .i64 x.f0],[.slice A1 x.f1.length c1],rfl,rfl,⟨A1,c1,rfl,l1,g1⟩⟩
theorem k62_mkF (W:World) (ok:Nat→Prop) (x:S62) {A1:Option Addr} {c1:Nat} (l1:x.f1.length≤c1) (g1:Kd.F (Kd.int .i64) W ok A1 x.f1.length x.f1):Kd.FK k62 W ok x [.int .i64 x.f0,.slice A1 x.f1.length c1]:=fun W2 hW=>k62_mk W2 x l1 (g1 W2 hW)
def rd_T62 (xs:List S62) (i:Int):S62:=xs.getD i.toNat z62
theorem at_T62 {w:World} {A:Option Addr} {n:Nat} {xs:List S62} (h:Kd.C k62 w A n xs) (i:Int) (h0:0≤i) (h1:i<n):∃ ad A1 c1,A=some ad∧w.cell? (ad.add (i.toNat * 2))=some (.int .i64 (rd_T62 xs i).f0)∧w.cell? ⟨(ad.add (i.toNat * 2)).block,(ad.add (i.toNat * 2)).off+1,none⟩=some (.slice A1 (rd_T62 xs i).f1.length c1)∧(rd_T62 xs i).f1.length≤c1∧(Kd.int .i64).C w A1 (rd_T62 xs i).f1.length (rd_T62 xs i).f1:=by
  obtain ⟨ad,c,e,_,hK,hc0⟩:=Kd.C_get h z62 i h0 h1
  have hc:∀ j u,c[j]?=some u→w.cell? (ad.add (i.toNat * 2+j))=some u:=hc0
  obtain ⟨A1,c1,rfl,l1,g1⟩:=k62_open hK
  exact ⟨ad,A1,c1,e,hc 0 _ rfl,by rw [← add_field _ _ 1 (by omega)];exact hc 1 _ rfl,l1,g1⟩
structure S24 where
  f0:Int
  f1:(List S85)
def k24:Kd S24:=Kd.iso (Kd.pair (Kd.int .i64) (Kd.slice 85 k85)) (fun x:S24=>(x.f0,x.f1))
theorem k24_open {w:World} {x:S24} {cs:List Value} (h:k24.K w x cs):∃ A1 c1,cs=[.int .i64 x.f0,.slice A1 x.f1.length c1]∧x.f1.length≤c1∧k85.C w A1 x.f1.length x.f1:=by
  obtain ⟨_,_,rfl,rfl,⟨A1,c1,rfl,l1,g1⟩⟩:=h
  exact ⟨A1,c1,rfl,l1,g1⟩
theorem k24_mk (w:World) (x:S24) {A1:Option Addr} {c1:Nat} (l1:x.f1.length≤c1) (g1:k85.C w A1 x.f1.length x.f1):k24.K w x [.int .i64 x.f0,.slice A1 x.f1.length c1]:=⟨[.int .i64 x.f0],[.slice A1 x.f1.length c1],rfl,rfl,⟨A1,c1,rfl,l1,g1⟩⟩
structure S27 where
  f0:S24
  f1:(List S62)
def k27:Kd S27:=Kd.iso (Kd.pair k24 (Kd.slice 62 k62)) (fun x:S27=>(x.f0,x.f1))
theorem k27_open {w:World} {x:S27} {cs:List Value} (h:k27.K w x cs):∃ A1 c1 A2 c2,cs=[.int .i64 x.f0.f0,.slice A1 x.f0.f1.length c1,.slice A2 x.f1.length c2]∧x.f0.f1.length≤c1∧k85.C w A1 x.f0.f1.length x.f0.f1∧x.f1.length≤c2∧k62.C w A2 x.f1.length x.f1:=by
  obtain ⟨_,_,rfl,s0,⟨A2,c2,rfl,l2,g2⟩⟩:=h
  obtain ⟨A1,c1,rfl,l1,g1⟩:=k24_open s0
  exact ⟨A1,c1,A2,c2,rfl,l1,g1,l2,g2⟩
theorem k27_mk (w:World) (x:S27) {A1:Option Addr} {c1:Nat} (l1:x.f0.f1.length≤c1) (g1:k85.C w A1 x.f0.f1.length x.f0.f1) {A2:Option Addr} {c2:Nat} (l2:x.f1.length≤c2) (g2:k62.C w A2 x.f1.length x.f1):k27.K w x [.int .i64 x.f0.f0,.slice A1 x.f0.f1.length c1,.slice A2 x.f1.length c2]:=⟨[.int .i64 x.f0.f0,.slice A1 x.f0.f1.length c1],[.slice A2 x.f1.length c2],rfl,(k24_mk w x.f0 l1 g1),⟨A2,c2,rfl,l2,g2⟩⟩
structure S30 where
  f0:(List Int)
  f1:(List Int)
  f2:Int
  f3:Int
def z30:S30:=⟨([]:List Int),([]:List Int),(0:Int),(0:Int)⟩
def k30:Kd S30:=Kd.iso (Kd.pair (Kd.slice 3 (Kd.int .i64)) (Kd.pair (Kd.slice 3 (Kd.int .i64)) (Kd.pair (Kd.int .i64) (Kd.int .i64)))) (fun x:S30=>(x.f0,x.f1,x.f2,x.f3))
theorem k30_open {w:World} {x:S30} {cs:List Value} (h:k30.K w x cs):∃ A0 c0 A1 c1,cs=[.slice A0 x.f0.length c0,.slice A1 x.f1.length c1,.int .i64 x.f2,.int .i64 x.f3]∧x.f0.length≤c0∧(Kd.int .i64).C w A0 x.f0.length x.f0∧x.f1.length≤c1∧(Kd.int .i64).C w A1 x.f1.length x.f1:=by
  obtain ⟨_,_,rfl,⟨A0,c0,rfl,l0,g0⟩,⟨_,_,rfl,⟨A1,c1,rfl,l1,g1⟩,⟨_,_,rfl,rfl,rfl⟩⟩⟩:=h
  exact ⟨A0,c0,A1,c1,rfl,l0,g0,l1,g1⟩
theorem k30_mk (w:World) (x:S30) {A0:Option Addr} {c0:Nat} (l0:x.f0.length≤c0) (g0:(Kd.int .i64).C w A0 x.f0.length x.f0) {A1:Option Addr} {c1:Nat} (l1:x.f1.length≤c1) (g1:(Kd.int .i64).C w A1 x.f1.length x.f1):k30.K w x [.slice A0 x.f0.length c0,.slice A1 x.f1.length c1,.int .i64 x.f2,.int .i64 x.f3]:=⟨[.slice A0 x.f0.length c0],[.slice A1 x.f1.length c1,.int .i64 x.f2,.int .i64 x.f3],rfl,⟨A0,c0,rfl,l0,g0⟩,⟨[.slice A1 x.f1.length c1],[.int .i64 x.f2,.int .i64 x.f3],rfl,⟨A1,c1,rfl,l1,g1⟩,⟨[.int .i64 x.f2],[.int .i64 x.f3],rfl,rfl,rfl⟩⟩⟩
def rd_T30 (xs:List S30) (i:Int):S30:=xs.getD i.toNat z30
theorem at_T30 {w:World} {A:Option Addr} {n:Nat} {xs:List S30} (h:Kd.C k30 w A n xs) (i:Int) (h0:0≤i) (h1:i<n):∃ ad A0 c0 A1 c1,A=some ad∧w.cell? (ad.add (i.toNat * 4))=some (.slice A0 (rd_T30 xs i).f0.length c0)∧w.cell? ⟨(ad.add (i.toNat * 4)).block,(ad.add (i.toNat * 4)).off+1,none⟩=some (.slice A1 (rd_T30 xs i).f1.length c1)∧w.cell? ⟨(ad.add (i.toNat * 4)).block,(ad.add (i.toNat * 4)).off+2,none⟩=some (.int .i64 (rd_T30 xs i).f2)∧w.cell? ⟨(ad.add (i.toNat * 4)).block,(ad.add (i.toNat * 4)).off+3,none⟩=some (.int .i64 (rd_T30 xs i).f3)∧(rd_T30 xs i).f0.length≤c0∧(Kd.int .i64).C w A0 (rd_T30 xs i).f0.length (rd_T30 xs i).f0∧(rd_T30 xs i).f1.length≤c1∧(Kd.int .i64).C w A1 (rd_T30 xs i).f1.length (rd_T30 xs i).f1:=by
  obtain ⟨ad,c,e,_,hK,hc0⟩:=Kd.C_get h z30 i h0 h1
  have hc:∀ j u,c[j]?=some u→w.cell? (ad.add (i.toNat * 4+j))=some u:=hc0
  obtain ⟨A0,c0,A1,c1,rfl,l0,g0,l1,g1⟩:=k30_open hK
  exact ⟨ad,A0,c0,A1,c1,e,hc 0 _ rfl,by rw [← add_field _ _ 1 (by omega)];exact hc 1 _ rfl,by rw [← add_field _ _ 2 (by omega)];exact hc 2 _ rfl,by rw [← add_field _ _ 3 (by omega)];exact hc 3 _ rfl,l0,g0,l1,g1⟩
end Go.Proofs.YthnilelmhpmanaaDoor.PHeardFits
end
section
namespace Go.Proofs.YthnilelmhpmanaaDoor.PHeardFits
open Go.RowKit Go.Proofs.YthnilelmhpmanaaDoorW.PrintWords Go.Proofs.YthnilelmhpmanaaDoorW.PrintLast Go.Proofs.YthnilelmhpmanaaDoorW.PrintMore
attribute [local go_sem] max2_int min2_int max_two min_two max_three min_three max_four min_four
set_option linter.unusedVariables false
set_option linter.unusedSimpArgs false
def cycle_lies.f (a0:Int) (a1:Int) (a2:Int):Option (Bool):=if a1≤a0 then (some (decide (a0≤a2))) else (some false)
set_option maxHeartbeats 8000000 in
set_option maxRecDepth 100000 in
theorem cycle_lies.calls (a0:Int) (a1:Int) (a2:Int) (r:Bool) (w:World) (h:cycle_lies.f a0 a1 a2=some r) :
  Calls Tryd.prog 101 #[.int .i64 a0,.int .i64 a1,.int .i64 a2] w fun e w'=>e=.returned (.bool r)∧Drawn0 w w':=by
 have H:(if a1≤a0 then (some (decide (a0≤a2))) else (some false))=some r:=h
 clear h
 by_cases c4:a1≤a0
 ·rw [if_pos c4] at H
  have c4b0:decide (a1≤a0)=true:=decide_eq_true c4
  clear c4
  obtain rfl:=Option.some.inj H
  go_enter Tryd.func101,Tryd.ntmps101
  go_wp2
  go_ret
  exact ⟨by first|rfl|(simp;done)|(simp [*];done),by repeat (first|exact Drawn0.refl _|apply Drawn0.step)⟩
 ·rw [if_neg c4] at H
  have c4b0:decide (a1≤a0)=false:=decide_eq_false c4
  clear c4
  obtain rfl:=Option.some.inj H
  go_enter Tryd.func101,Tryd.ntmps101
  go_wp2
  go_ret
  exact ⟨by first|rfl|(simp;done)|(simp [*];done),by repeat (first|exact Drawn0.refl _|apply Drawn0.step)⟩
end Go.Proofs.YthnilelmhpmanaaDoor.PHeardFits
end
section
namespace Go.Proofs.YthnilelmhpmanaaDoor.PHeardFits
open Go.RowKit Go.Proofs.YthnilelmhpmanaaDoorW.PrintWords Go.Proofs.YthnilelmhpmanaaDoorW.PrintLast Go.Proofs.YthnilelmhpmanaaDoorW.PrintMore
attribute [local go_sem] max2_int min2_int max_two min_two max_three min_three max_four min_four
set_option linter.unusedVariables false
set_option linter.unusedSimpArgs false
def cycle_grows.l0:Nat→Int→Int→List Int→Int→Int→Option (Bool)
 | 0,_,_,_,_,_=>none
 | k+1,x1,x5,x8,x9,x10=>if x10<x9 then (if 0≤x10 then (if x10<(x8.length:Int) then ((cycle_lies.f (rd x8 x10) (wrap64 (x5+1)) (wrap64 (x1 - 1))).bind fun t102=>(if t102=true then (cycle_grows.l0 k x1 (rd x8 x10) x8 x9 (wrap64 (x10+1))) else (some false))) else (none)) else (none)) else (some true)
def cycle_grows.f (k:Nat) (l0:List Int) (a1:Int):Option (Bool):=cycle_grows.l0 k a1 (-1) l0 (l0.length:Int) 0
set_option maxHeartbeats 8000000 in
set_option maxRecDepth 100000 in
theorem cycle_grows.calls (k:Nat) (A0:Option Addr) (c0:Nat) (l0:List Int) (a1:Int) (r:Bool) (w:World) (hr0:Kd.C (Kd.int .i64) w A0 l0.length l0) (hc0:l0.length≤c0) (h:cycle_grows.f k l0 a1=some r) :
  Calls Tryd.prog 102 #[.slice A0 l0.length c0,.int .i64 a1] w fun e w'=>e=.returned (.bool r)∧Drawn0 w w':=by
 have HR0:=Aside0.mk hr0
 have HC0:=Aside0.mk hc0
 clear hr0 hc0
 have H:(cycle_grows.l0 k a1 (-1) l0 (l0.length:Int) 0)=some r:=h
 clear h
 have H':=Aside0.mk H
 clear H
 go_enter Tryd.func102,Tryd.ntmps102
 go_wp2
 go_loopg [5,10] k (fun kq v5 v10 w'=>∃ (x5_1:Int) (x10_1:Int),v5=.int .i64 x5_1∧v10=.int .i64 x10_1∧Aside0 (cycle_grows.l0 kq a1 x5_1 l0 (l0.length:Int) x10_1=some r)∧Aside0 (kq≤k)∧Drawn0 w w')
 case atStart=>exact ⟨((-1)),(0),(by first|rfl|(simp;done)|(simp [*];done)),(by first|rfl|(simp;done)|(simp [*];done)),H',⟨Nat.le_refl _⟩,by repeat (first|exact Drawn0.refl _|apply Drawn0.step)⟩
 case round =>
  clear H'
  try clear c1
  try clear p2
  obtain ⟨x5_1,x10_1,rfl,rfl,HA,HK1,⟨m1,rfl⟩⟩:=hrel
  cases gk with
  | zero=>exact absurd HA.out (by simp [cycle_grows.l0])
  | succ k1 =>
   have H:=HA.out
   clear HA
   simp only [cycle_grows.l0] at H
   by_cases c3:x10_1<(l0.length:Int)
   ·rw [if_pos c3] at H
    have c3b0:decide (x10_1<(l0.length:Int))=true:=decide_eq_true c3
    clear c3
    by_cases c4:0≤x10_1
    ·rw [if_pos c4] at H
     have c4b0:decide (0≤x10_1)=true:=decide_eq_true c4
     clear c4
     by_cases c5:x10_1<(l0.length:Int)
     ·rw [if_pos c5] at H
      have c5b0:decide (x10_1<(l0.length:Int))=true:=decide_eq_true c5
      clear c5
      replace H:=Option.bind_eq_some_iff.mp H
      obtain ⟨t102,A60,H⟩:=H
      try dsimp only at H
      have A6:=Aside0.mk A60
      clear A60
      by_cases c7:t102=true
      ·subst c7
       rw [if_pos rfl] at H
       have H':=Aside0.mk H
       clear H
       have p101:0≤(x10_1:Int):=of_decide_eq_true (by first|(with_reducible assumption)|assumption)
       have q101:x10_1<(l0.length:Int):=of_decide_eq_true (by first|(with_reducible assumption)|assumption)
       obtain ⟨ad101,e101,hx101_0⟩:=Kd.at_int HR0.out x10_1 p101 q101
       cases e101
       replace p101:=eq_true p101
       replace q101:=eq_true q101
       go_wp2_with (first|((with_reducible refine gate_callee (f:=101) rfl ?_);refine goesL_ (some 19) rfl rfl Tryd.func101 (by kernel_rfl) rfl #[.int .i64 (rd l0 x10_1),.int .i64 (wrap64 (x5_1+1)),.int .i64 (wrap64 (a1 - 1))] rfl (by (try simp only [List.map_toArray,List.map_cons,List.map_nil]);first|done|rfl|(simp only [List.length_drop,List.length_take];rfl)) ?_;(with_reducible refine (cycle_lies.calls (rd l0 x10_1) (wrap64 (x5_1+1)) (wrap64 (a1 - 1)) true _ A6.out).mono ?_);rintro e w' ⟨rfl,⟨nd,rfl⟩⟩;refine ⟨_,rfl,?_⟩))
       go_roundg k1
       case measure=>have:=HK1.out;omega
       case rel=>exact ⟨(rd l0 x10_1),(wrap64 (x10_1+1)),(by first|rfl|(simp;done)|(simp [*];done)),(by first|rfl|(simp;done)|(simp [*];done)),H',⟨by have:=HK1.out;omega⟩,by repeat (first|exact Drawn0.refl _|apply Drawn0.step)⟩
      ·replace c7:=Bool.eq_false_iff.mpr c7
       subst c7
       rw [if_neg (show ¬ (false=true) by decide)] at H
       obtain rfl:=Option.some.inj H
       have p101:0≤(x10_1:Int):=of_decide_eq_true (by first|(with_reducible assumption)|assumption)
       have q101:x10_1<(l0.length:Int):=of_decide_eq_true (by first|(with_reducible assumption)|assumption)
       obtain ⟨ad101,e101,hx101_0⟩:=Kd.at_int HR0.out x10_1 p101 q101
       cases e101
       replace p101:=eq_true p101
       replace q101:=eq_true q101
       go_wp2_with (first|((with_reducible refine gate_callee (f:=101) rfl ?_);refine goesL_ (some 19) rfl rfl Tryd.func101 (by kernel_rfl) rfl #[.int .i64 (rd l0 x10_1),.int .i64 (wrap64 (x5_1+1)),.int .i64 (wrap64 (a1 - 1))] rfl (by (try simp only [List.map_toArray,List.map_cons,List.map_nil]);first|done|rfl|(simp only [List.length_drop,List.length_take];rfl)) ?_;(with_reducible refine (cycle_lies.calls (rd l0 x10_1) (wrap64 (x5_1+1)) (wrap64 (a1 - 1)) false _ A6.out).mono ?_);rintro e w' ⟨rfl,⟨nd,rfl⟩⟩;refine ⟨_,rfl,?_⟩))
       go_ret
       exact ⟨by first|rfl|(simp;done)|(simp [*];done),by repeat (first|exact Drawn0.refl _|apply Drawn0.step)⟩
     ·rw [if_neg c5] at H
      exact absurd H (by simp)
    ·rw [if_neg c4] at H
     exact absurd H (by simp)
   ·rw [if_neg c3] at H
    have c3b0:decide (x10_1<(l0.length:Int))=false:=decide_eq_false c3
    clear c3
    obtain rfl:=Option.some.inj H
    go_wp2
    go_ret
    exact ⟨by first|rfl|(simp;done)|(simp [*];done),by repeat (first|exact Drawn0.refl _|apply Drawn0.step)⟩
end Go.Proofs.YthnilelmhpmanaaDoor.PHeardFits
end
section
namespace Go.Proofs.YthnilelmhpmanaaDoor.PHeardFits
open Go.RowKit Go.Proofs.YthnilelmhpmanaaDoorW.PrintWords Go.Proofs.YthnilelmhpmanaaDoorW.PrintLast Go.Proofs.YthnilelmhpmanaaDoorW.PrintMore
attribute [local go_sem] max2_int min2_int max_two min_two max_three min_three max_four min_four
set_option linter.unusedVariables false
set_option linter.unusedSimpArgs false
def slices_Equal_int_int.l0:Nat→List Int→List Int→Int→Int→Option (Bool)
 | 0,_,_,_,_=>none
 | k+1,x0,x1,x12,x13=>if x13<x12 then (if 0≤x13 then (if x13<(x0.length:Int) then (if x13<(x1.length:Int) then (if (rd x0 x13)=(rd x1 x13) then (slices_Equal_int_int.l0 k x0 x1 x12 (wrap64 (x13+1))) else (some false)) else (none)) else (none)) else (none)) else (some true)
def slices_Equal_int_int.f (k:Nat) (l0:List Int) (l1:List Int):Option (Bool):=if (l0.length:Int)=(l1.length:Int) then (slices_Equal_int_int.l0 k l0 l1 (l0.length:Int) 0) else (some false)
set_option maxHeartbeats 8000000 in
set_option maxRecDepth 100000 in
theorem slices_Equal_int_int.calls (k:Nat) (A0:Option Addr) (c0:Nat) (l0:List Int) (A1:Option Addr) (c1:Nat) (l1:List Int) (r:Bool) (w:World) (hr0:Kd.C (Kd.int .i64) w A0 l0.length l0) (hc0:l0.length≤c0) (hr1:Kd.C (Kd.int .i64) w A1 l1.length l1) (hc1:l1.length≤c1) (h:slices_Equal_int_int.f k l0 l1=some r) :
  Calls Tryd.prog 103 #[.slice A0 l0.length c0,.slice A1 l1.length c1] w fun e w'=>e=.returned (.bool r)∧Drawn0 w w':=by
 have HR0:=Aside0.mk hr0
 have HC0:=Aside0.mk hc0
 clear hr0 hc0
 have HR1:=Aside0.mk hr1
 have HC1:=Aside0.mk hc1
 clear hr1 hc1
 have H:(if (l0.length:Int)=(l1.length:Int) then (slices_Equal_int_int.l0 k l0 l1 (l0.length:Int) 0) else (some false))=some r:=h
 clear h
 by_cases c3:(l0.length:Int)=(l1.length:Int)
 ·rw [if_pos c3] at H
  have c3b0:((l0.length:Int) == (l1.length:Int))=true:=beq_iff_eq.mpr c3
  have c3b1:((l0.length:Int) != (l1.length:Int))=false:=bne_eq_false_iff_eq.mpr c3
  have c3b2:(l0.length == l1.length)=true:=by first|simpa using c3|(simp at c3 ⊢;omega)
  clear c3
  have H':=Aside0.mk H
  clear H
  go_enter Tryd.func103,Tryd.ntmps103
  go_wp2
  repeat (go_quiet (fail);try go_wp2)
  go_loopg [13] k (fun kq v13 w'=>∃ (x13_1:Int),v13=.int .i64 x13_1∧Aside0 (slices_Equal_int_int.l0 kq l0 l1 (l0.length:Int) x13_1=some r)∧Aside0 (kq≤k)∧Drawn0 w w')
  case atStart=>exact ⟨(0),(by first|rfl|(simp;done)|(simp [*];done)),H',⟨Nat.le_refl _⟩,by repeat (first|exact Drawn0.refl _|apply Drawn0.step)⟩
  case round =>
   clear H'
   try clear c1
   try clear p2
   try clear c3
   try clear c3b0
   try clear c3b1
   try clear c3b2
   obtain ⟨x13_1,rfl,HA,HK1,⟨m1,rfl⟩⟩:=hrel
   cases gk with
   | zero=>exact absurd HA.out (by simp [slices_Equal_int_int.l0])
   | succ k1 =>
    have H:=HA.out
    clear HA
    simp only [slices_Equal_int_int.l0] at H
    by_cases c4:x13_1<(l0.length:Int)
    ·rw [if_pos c4] at H
     have c4b0:decide (x13_1<(l0.length:Int))=true:=decide_eq_true c4
     clear c4
     by_cases c5:0≤x13_1
     ·rw [if_pos c5] at H
      have c5b0:decide (0≤x13_1)=true:=decide_eq_true c5
      clear c5
      by_cases c6:x13_1<(l0.length:Int)
      ·rw [if_pos c6] at H
       have c6b0:decide (x13_1<(l0.length:Int))=true:=decide_eq_true c6
       clear c6
       by_cases c7:x13_1<(l1.length:Int)
       ·rw [if_pos c7] at H
        have c7b0:decide (x13_1<(l1.length:Int))=true:=decide_eq_true c7
        clear c7
        by_cases c8:(rd l0 x13_1)=(rd l1 x13_1)
        ·rw [if_pos c8] at H
         have c8b0:((rd l0 x13_1) == (rd l1 x13_1))=true:=beq_iff_eq.mpr c8
         have c8b1:((rd l0 x13_1) != (rd l1 x13_1))=false:=bne_eq_false_iff_eq.mpr c8
         clear c8
         have H':=Aside0.mk H
         clear H
         have p103:0≤(x13_1:Int):=of_decide_eq_true (by first|(with_reducible assumption)|assumption)
         have q103:x13_1<(l0.length:Int):=of_decide_eq_true (by first|(with_reducible assumption)|assumption)
         obtain ⟨ad103,e103,hx103_0⟩:=Kd.at_int HR0.out x13_1 p103 q103
         cases e103
         replace p103:=eq_true p103
         replace q103:=eq_true q103
         have p104:0≤(x13_1:Int):=of_decide_eq_true (by first|(with_reducible assumption)|assumption)
         have q104:x13_1<(l1.length:Int):=of_decide_eq_true (by first|(with_reducible assumption)|assumption)
         obtain ⟨ad104,e104,hx104_0⟩:=Kd.at_int HR1.out x13_1 p104 q104
         cases e104
         replace p104:=eq_true p104
         replace q104:=eq_true q104
         go_wp2
         repeat (go_quiet (fail);try go_wp2)
         go_roundg k1
         case measure=>have:=HK1.out;omega
         case rel=>exact ⟨(wrap64 (x13_1+1)),(by first|rfl|(simp;done)|(simp [*];done)),H',⟨by have:=HK1.out;omega⟩,by repeat (first|exact Drawn0.refl _|apply Drawn0.step)⟩
        ·rw [if_neg c8] at H
         have c8b0:((rd l0 x13_1) == (rd l1 x13_1))=false:=beq_eq_false_iff_ne.mpr c8
         have c8b1:((rd l0 x13_1) != (rd l1 x13_1))=true:=bne_iff_ne.mpr c8
         obtain rfl:=Option.some.inj H
         have p103:0≤(x13_1:Int):=of_decide_eq_true (by first|(with_reducible assumption)|assumption)
         have q103:x13_1<(l0.length:Int):=of_decide_eq_true (by first|(with_reducible assumption)|assumption)
         obtain ⟨ad103,e103,hx103_0⟩:=Kd.at_int HR0.out x13_1 p103 q103
         cases e103
         replace p103:=eq_true p103
         replace q103:=eq_true q103
         have p104:0≤(x13_1:Int):=of_decide_eq_true (by first|(with_reducible assumption)|assumption)
         have q104:x13_1<(l1.length:Int):=of_decide_eq_true (by first|(with_reducible assumption)|assumption)
         obtain ⟨ad104,e104,hx104_0⟩:=Kd.at_int HR1.out x13_1 p104 q104
         cases e104
         replace p104:=eq_true p104
         replace q104:=eq_true q104
         go_wp2
         repeat (go_quiet (fail);try go_wp2)
         go_ret
         exact ⟨by first|rfl|(simp;done)|(simp [*];done),by repeat (first|exact Drawn0.refl _|apply Drawn0.step)⟩
       ·rw [if_neg c7] at H
        exact absurd H (by simp)
      ·rw [if_neg c6] at H
       exact absurd H (by simp)
     ·rw [if_neg c5] at H
      exact absurd H (by simp)
    ·rw [if_neg c4] at H
     have c4b0:decide (x13_1<(l0.length:Int))=false:=decide_eq_false c4
     clear c4
     obtain rfl:=Option.some.inj H
     go_wp2
     repeat (go_quiet (fail);try go_wp2)
     go_ret
     exact ⟨by first|rfl|(simp;done)|(simp [*];done),by repeat (first|exact Drawn0.refl _|apply Drawn0.step)⟩
 ·rw [if_neg c3] at H
  have c3b0:((l0.length:Int) == (l1.length:Int))=false:=beq_eq_false_iff_ne.mpr c3
  have c3b1:((l0.length:Int) != (l1.length:Int))=true:=bne_iff_ne.mpr c3
  have c3b2:(l0.length == l1.length)=false:=by first|simpa using c3|(simp at c3 ⊢;omega)
  obtain rfl:=Option.some.inj H
  go_enter Tryd.func103,Tryd.ntmps103
  go_wp2
  repeat (go_quiet (fail);try go_wp2)
  go_ret
  exact ⟨by first|rfl|(simp;done)|(simp [*];done),by repeat (first|exact Drawn0.refl _|apply Drawn0.step)⟩
end Go.Proofs.YthnilelmhpmanaaDoor.PHeardFits
end
section
namespace Go.Proofs.YthnilelmhpmanaaDoor.PHeardFits
open Go.RowKit Go.Proofs.YthnilelmhpmanaaDoorW.PrintWords Go.Proofs.YthnilelmhpmanaaDoorW.PrintLast Go.Proofs.YthnilelmhpmanaaDoorW.PrintMore
attribute [local go_sem] max2_int min2_int max_two min_two max_three min_three max_four min_four
set_option linter.unusedVariables false
set_option linter.unusedSimpArgs false
mutual
def cycle_Check.j0:Nat→Bool→Int→List (S85)→Option (Int)
 | 0,_,_,_=>none
 | k+1,x3,x106000,x106001=>cycle_Check.l0 k x3 x106001 (x106001.length:Int) 0 x106000 x106001
def cycle_Check.l0:Nat→Bool→List (S85)→Int→Int→Int→List (S85)→Option (Int)
 | 0,_,_,_,_,_,_=>none
 | k+1,x3,x18,x19,x20,x106000,x106001=>if x20<x19 then (if 0≤x20 then (if x20<(x18.length:Int) then (if x3=true then ((cycle_lies.f ((rd_T85 x18 x20).f0) 2 32).bind fun t110=>(if t110=true then (cycle_Check.j2 k ((((rd_T85 x18 x20).f1).length:Int) == x106000) x18 x19 x20 x106000 x106001 ((rd_T85 x18 x20).f0) ((rd_T85 x18 x20).f1)) else (cycle_Check.j2 k false x18 x19 x20 x106000 x106001 ((rd_T85 x18 x20).f0) ((rd_T85 x18 x20).f1)))) else (cycle_Check.j2 k false x18 x19 x20 x106000 x106001 ((rd_T85 x18 x20).f0) ((rd_T85 x18 x20).f1))) else (none)) else (none)) else (if x3=true then (some 0) else (some 50))
def cycle_Check.j2:Nat→Bool→List (S85)→Int→Int→Int→List (S85)→Int→List (List Int)→Option (Int)
 | 0,_,_,_,_,_,_,_,_=>none
 | k+1,x3,x18,x19,x20,x106000,x106001,x110000,x110001=>cycle_Check.l1 k x3 x18 x19 x20 x110001 (x110001.length:Int) 0 x106000 x106001 x110000 x110001
def cycle_Check.l1:Nat→Bool→List (S85)→Int→Int→List (List Int)→Int→Int→Int→List (S85)→Int→List (List Int)→Option (Int)
 | 0,_,_,_,_,_,_,_,_,_,_,_=>none
 | k+1,x3,x18,x19,x20,x39,x40,x41,x106000,x106001,x110000,x110001=>if x41<x40 then (if 0≤x41 then (if x41<(x39.length:Int) then (if x3=true then ((cycle_grows.f k (rd_L1 x39 x41) x110000).bind fun t112=>(if t112=true then (if x41>0 then (cycle_Check.l1 k true x18 x19 x20 x39 x40 (wrap64 (x41+1)) x106000 x106001 x110000 x110001) else ((slices_Equal_int_int.f k (rd_L1 x39 x41) (([wrap64 (x110000 - 1)]:List Int))).bind fun t116=>(cycle_Check.l1 k t116 x18 x19 x20 x39 x40 (wrap64 (x41+1)) x106000 x106001 x110000 x110001))) else (cycle_Check.l1 k false x18 x19 x20 x39 x40 (wrap64 (x41+1)) x106000 x106001 x110000 x110001))) else (cycle_Check.l1 k false x18 x19 x20 x39 x40 (wrap64 (x41+1)) x106000 x106001 x110000 x110001)) else (none)) else (none)) else (cycle_Check.l0 k x3 x18 x19 (wrap64 (x20+1)) x106000 x106001)
end
def cycle_Check.f (k:Nat) (a0_0:Int) (l0_1:List (S85)):Option (Int):=(cycle_lies.f a0_0 1 5).bind fun t106=>(if t106=true then ((cycle_lies.f (l0_1.length:Int) 1 4).bind fun t107=>(cycle_Check.j0 k t107 a0_0 l0_1)) else (cycle_Check.j0 k false a0_0 l0_1))
set_option maxHeartbeats 8000000 in
set_option maxRecDepth 100000 in
theorem cycle_Check.calls (k:Nat) (a0_0:Int) (A0_1:Option Addr) (c0_1:Nat) (l0_1:List (S85)) (r:Int) (w:World) (hr0_1:Kd.C k85 w A0_1 l0_1.length l0_1) (hc0_1:l0_1.length≤c0_1) (h:cycle_Check.f k a0_0 l0_1=some r) :
  Calls Tryd.prog 64 #[.agg #[.int .i64 a0_0,.slice A0_1 l0_1.length c0_1]] w fun e w'=>e=.returned (.int .i64 r)∧Below w.heap.size w w':=by
 have hu24:=Tryd.underlying24
 have hu85:=Tryd.underlying85
 have HR0_1:=Aside0.mk hr0_1
 have HC0_1:=Aside0.mk hc0_1
 clear hr0_1 hc0_1
 have HB:=Aside0.mk (Below.refl w.heap.size w)
 have H:((cycle_lies.f a0_0 1 5).bind fun t106=>(if t106=true then ((cycle_lies.f (l0_1.length:Int) 1 4).bind fun t107=>(cycle_Check.j0 k t107 a0_0 l0_1)) else (cycle_Check.j0 k false a0_0 l0_1)))=some r:=h
 clear h
 have HC2:=Aside0.mk H
 clear H
 go_enter Tryd.func64,Tryd.ntmps64
 go_upto_region 1 with (first|((with_reducible refine gate_dst (N:=1) rfl ?_);(try (refine gate_guard (by rfl) ?_;dsimp only));refine box_event ?hg (N:=1) ?hd (cs:=#[.int .i64 a0_0,.slice A0_1 l0_1.length c0_1]) (t:=24) ?hr ?_;(case hd=>rfl);(case hg=>rfl);(case hr=>first|(go_simp;done)|(go_simp;rfl));intro gb105 hg w3 hbox hb;have n0_:=Aside0.mk (below_step (by repeat (first|(with_reducible first|exact HB.out|apply below_alloc|apply pw_below_drewN|apply below_drew1)|exact HB.out)) hb);have n1_:=Aside0.mk (hbox);have n2_:=Aside0.mk ((by rw [hg];exact (below_size (by repeat (first|(with_reducible first|exact HB.out|apply below_alloc|apply pw_below_drewN|apply below_drew1)|exact HB.out))):w.heap.size≤gb105));have n3_:=Aside0.mk ((by rw [hg];exact (below_size (by repeat (first|(with_reducible first|exact HB.out|apply below_alloc|apply pw_below_drewN|apply below_drew1)|exact HB.out))):w.heap.size≤gb105));clear HB;have HB:=n0_;have BK105:=n1_;have GW105:=n2_;have GE105:=n3_;clear n0_ n1_ n2_ n3_;clear hb hbox hg))
 (try simp only [Act.put,List.setIfInBounds_toArray,List.set_cons_zero,List.set_cons_succ])
 go_cut [3] (fun v3 wc=>∃ (kq:Nat) (x3_1:Bool),v3=.bool x3_1∧Aside0 (cycle_Check.j0 kq x3_1 a0_0 l0_1=some r)∧Aside0 (kq≤k)∧Aside0 (wc.heap[gb105]?=some (.cells #[.int .i64 a0_0,(.slice A0_1 l0_1.length c0_1)] 24 (0,0)))∧Aside0 (Below w.heap.size w wc))
 case first =>
  have H:=HC2.out
  clear HC2
  replace H:=Option.bind_eq_some_iff.mp H
  obtain ⟨t106,A40,H⟩:=H
  try dsimp only at H
  have A4:=Aside0.mk A40
  clear A40
  by_cases c5:t106=true
  ·subst c5
   rw [if_pos rfl] at H
   replace H:=Option.bind_eq_some_iff.mp H
   obtain ⟨t107,A60,H⟩:=H
   try dsimp only at H
   have A6:=Aside0.mk A60
   clear A60
   have H':=Aside0.mk H
   clear H
   have hcz7_0:w3.cell? ⟨gb105,0,none⟩=some (.int .i64 a0_0):=(blk_cell BK105.out 0).trans rfl
   have hcz7_1:w3.cell? ⟨gb105,1,none⟩=some (.slice A0_1 l0_1.length c0_1):=(blk_cell BK105.out 1).trans rfl
   have hfz7_0:=blk_frozen BK105.out 0
   have hfz7_1:=blk_frozen BK105.out 1
   go_wp2_with (first|((with_reducible refine gate_callee (f:=101) rfl ?_);refine goesL_ (some 10) rfl rfl Tryd.func101 (by kernel_rfl) rfl #[.int .i64 a0_0,.int .i64 1,.int .i64 5] rfl (by (try simp only [List.map_toArray,List.map_cons,List.map_nil]);first|done|rfl|(simp only [List.length_drop,List.length_take];rfl)) ?_;(with_reducible refine (cycle_lies.calls a0_0 1 5 true _ A4.out).mono ?_);rintro e w' ⟨rfl,⟨nd,rfl⟩⟩;refine ⟨_,rfl,?_⟩)|(go_at_call 101;(with_reducible refine (cycle_lies.calls (l0_1.length:Int) 1 4 t107 _ A6.out).mono ?_);rintro e w' ⟨rfl,⟨nd,rfl⟩⟩))
   go_meet
   case rel=>exact ⟨_,(t107),(by first|rfl|(simp;done)|(simp [*];done)),H',⟨by first|omega|exact Nat.le_refl _⟩,⟨by (with_reducible repeat (first|refine blk_drewN ?_ _|refine blk_drew ?_|refine blk_alloc ?_ _));exact BK105.out⟩,⟨by repeat (first|(with_reducible first|exact HB.out|apply below_alloc|apply pw_below_drewN|apply below_drew1|refine below_set ?_ GE105.out)|exact HB.out)⟩⟩
  ·replace c5:=Bool.eq_false_iff.mpr c5
   subst c5
   rw [if_neg (show ¬ (false=true) by decide)] at H
   have H':=Aside0.mk H
   clear H
   have hcz8_0:w3.cell? ⟨gb105,0,none⟩=some (.int .i64 a0_0):=(blk_cell BK105.out 0).trans rfl
   have hcz8_1:w3.cell? ⟨gb105,1,none⟩=some (.slice A0_1 l0_1.length c0_1):=(blk_cell BK105.out 1).trans rfl
   have hfz8_0:=blk_frozen BK105.out 0
   have hfz8_1:=blk_frozen BK105.out 1
   go_wp2_with (first|((with_reducible refine gate_callee (f:=101) rfl ?_);refine goesL_ (some 10) rfl rfl Tryd.func101 (by kernel_rfl) rfl #[.int .i64 a0_0,.int .i64 1,.int .i64 5] rfl (by (try simp only [List.map_toArray,List.map_cons,List.map_nil]);first|done|rfl|(simp only [List.length_drop,List.length_take];rfl)) ?_;(with_reducible refine (cycle_lies.calls a0_0 1 5 false _ A4.out).mono ?_);rintro e w' ⟨rfl,⟨nd,rfl⟩⟩;refine ⟨_,rfl,?_⟩))
   go_meet
   case rel=>exact ⟨_,(false),(by first|rfl|(simp;done)|(simp [*];done)),H',⟨by first|omega|exact Nat.le_refl _⟩,⟨by (with_reducible repeat (first|refine blk_drewN ?_ _|refine blk_drew ?_|refine blk_alloc ?_ _));exact BK105.out⟩,⟨by repeat (first|(with_reducible first|exact HB.out|apply below_alloc|apply pw_below_drewN|apply below_drew1|refine below_set ?_ GE105.out)|exact HB.out)⟩⟩
 case rest =>
  clear HC2
  try clear c1
  try clear p2
  try clear c5
  try clear c6
  try clear hcz7_0
  try clear hcz7_1
  try clear hcz8_0
  try clear hcz8_1
  try clear hfz7_0
  try clear hfz7_1
  try clear hfz8_0
  try clear hfz8_1
  obtain ⟨kq,x3_1,rfl,HA,HJ1,BK105,HB⟩:=hcut
  cases kq with
  | zero=>exact absurd HA.out (by simp [cycle_Check.j0])
  | succ kj1 =>
   have H:=HA.out
   clear HA
   simp only [cycle_Check.j0] at H
   have H':=Aside0.mk H
   clear H
   have hcz9_0:wc.cell? ⟨gb105,0,none⟩=some (.int .i64 a0_0):=(blk_cell BK105.out 0).trans rfl
   have hcz9_1:wc.cell? ⟨gb105,1,none⟩=some (.slice A0_1 l0_1.length c0_1):=(blk_cell BK105.out 1).trans rfl
   have hfz9_0:=blk_frozen BK105.out 0
   have hfz9_1:=blk_frozen BK105.out 1
   go_wp2
   go_loopg [3,20] kj1 (fun kq v3 v20 w'=>∃ (x3_2:Bool) (x20_2:Int),v3=.bool x3_2∧v20=.int .i64 x20_2∧Aside0 (cycle_Check.l0 kq x3_2 l0_1 (l0_1.length:Int) x20_2 a0_0 l0_1=some r)∧Aside0 (kq≤kj1)∧Aside0 (w'.heap[gb105]?=some (.cells #[.int .i64 a0_0,(.slice A0_1 l0_1.length c0_1)] 24 (0,0)))∧Aside0 (Below w.heap.size w w'))
   case atStart=>exact ⟨(x3_1),(0),(by first|rfl|(simp;done)|(simp [*];done)),(by first|rfl|(simp;done)|(simp [*];done)),H',⟨Nat.le_refl _⟩,⟨by (with_reducible repeat (first|refine blk_drewN ?_ _|refine blk_drew ?_|refine blk_alloc ?_ _));exact BK105.out⟩,⟨by repeat (first|(with_reducible first|exact HB.out|apply below_alloc|apply pw_below_drewN|apply below_drew1|refine below_set ?_ GE105.out)|exact HB.out)⟩⟩
   case round =>
    clear H'
    try clear c1
    try clear p2
    try clear c5
    try clear c6
    try clear hcz7_0
    try clear hcz7_1
    try clear hcz8_0
    try clear hcz8_1
    try clear hcz9_0
    try clear hcz9_1
    try clear hfz7_0
    try clear hfz7_1
    try clear hfz8_0
    try clear hfz8_1
    try clear hfz9_0
    try clear hfz9_1
    try clear p2
    obtain ⟨x3_2,x20_2,rfl,rfl,HA,HK2,BK105,HB⟩:=hrel
    cases gk with
    | zero=>exact absurd HA.out (by simp [cycle_Check.l0])
    | succ k2 =>
     have H:=HA.out
     clear HA
     simp only [cycle_Check.l0] at H
     by_cases c10:x20_2<(l0_1.length:Int)
     ·rw [if_pos c10] at H
      have c10b0:decide (x20_2<(l0_1.length:Int))=true:=decide_eq_true c10
      clear c10
      by_cases c11:0≤x20_2
      ·rw [if_pos c11] at H
       have c11b0:decide (0≤x20_2)=true:=decide_eq_true c11
       clear c11
       by_cases c12:x20_2<(l0_1.length:Int)
       ·rw [if_pos c12] at H
        have c12b0:decide (x20_2<(l0_1.length:Int))=true:=decide_eq_true c12
        clear c12
        have HC13:=Aside0.mk H
        clear H
        have p108:0≤(x20_2:Int):=of_decide_eq_true (by first|(with_reducible assumption)|assumption)
        have q108:x20_2<(l0_1.length:Int):=of_decide_eq_true (by first|(with_reducible assumption)|assumption)
        obtain ⟨ad108,A108_1,c108_1,e108,hx108_0,hx108_1,hl108_1,hi108_1⟩:=at_T85 HR0_1.out x20_2 p108 q108
        cases e108
        replace hx108_0:=(HB.out.cell (World.block_lt_of_cell? w _ hx108_0)).trans hx108_0
        replace hx108_1:=(HB.out.cell (World.block_lt_of_cell? w _ hx108_1)).trans hx108_1
        have HR108_1:=Aside0.mk hi108_1
        have HC108_1:=Aside0.mk hl108_1
        clear hi108_1 hl108_1
        replace p108:=eq_true p108
        replace q108:=eq_true q108
        go_upto_region 5 with (first|((with_reducible refine gate_dst (N:=5) rfl ?_);(try (refine gate_guard (by rfl) ?_;dsimp only));refine box_event ?hg (N:=5) ?hd (cs:=#[.int .i64 0,.slice none 0 0]) (t:=85) ?hr ?_;(case hd=>rfl);(case hg=>rfl);(case hr=>first|(go_simp;done)|(go_simp;rfl));intro gb109 hg w14 hbox hb;have n0_:=Aside0.mk (blk_below (g:=gb105) (o:=.cells #[.int .i64 a0_0,.slice (some ad108) l0_1.length c0_1] 24 (0,0)) (by (with_reducible repeat (first|refine blk_drewN ?_ _|refine blk_drew ?_|refine blk_alloc ?_ _));exact BK105.out) hb);have n1_:=Aside0.mk (below_step (by repeat (first|(with_reducible first|exact HB.out|apply below_alloc|apply pw_below_drewN|apply below_drew1|refine below_set ?_ GE105.out)|exact HB.out)) hb);have n2_:=Aside0.mk (hbox);have n3_:=Aside0.mk ((by rw [hg];exact (below_size (by repeat (first|(with_reducible first|exact HB.out|apply below_alloc|apply pw_below_drewN|apply below_drew1|refine below_set ?_ GE105.out)|exact HB.out))):w.heap.size≤gb109));have n4_:=Aside0.mk ((by rw [hg];exact (below_size (by repeat (first|(with_reducible first|exact HB.out|apply below_alloc|apply pw_below_drewN|apply below_drew1|refine below_set ?_ GE105.out)|exact HB.out))):w.heap.size≤gb109));have n5_:=Aside0.mk ((by rw [hg];exact Nat.ne_of_lt (blk_lt (g:=gb105) (o:=.cells #[.int .i64 a0_0,.slice (some ad108) l0_1.length c0_1] 24 (0,0)) (by (with_reducible repeat (first|refine blk_drewN ?_ _|refine blk_drew ?_|refine blk_alloc ?_ _));exact BK105.out)):gb105≠gb109));have n6_:=Aside0.mk ((by rw [hg];exact Nat.ne_of_gt (blk_lt (g:=gb105) (o:=.cells #[.int .i64 a0_0,.slice (some ad108) l0_1.length c0_1] 24 (0,0)) (by (with_reducible repeat (first|refine blk_drewN ?_ _|refine blk_drew ?_|refine blk_alloc ?_ _));exact BK105.out)):gb109≠gb105));clear BK105;clear HB;have BK105:=n0_;have HB:=n1_;have BK109:=n2_;have GW109:=n3_;have GE109:=n4_;have NB105_109:=n5_;have NB109_105:=n6_;clear n0_ n1_ n2_ n3_ n4_ n5_ n6_;clear hb hbox hg;have hnb15:=NB109_105.out;have hnc15:=NB105_109.out;have hcz16_0:w14.cell? ⟨gb109,0,none⟩=some (.int .i64 0):=(blk_cell BK109.out 0).trans rfl;have hcz16_1:w14.cell? ⟨gb109,1,none⟩=some (.slice none 0 0):=(blk_cell BK109.out 1).trans rfl;have hfz16_0:=blk_frozen BK109.out 0;have hfz16_1:=blk_frozen BK109.out 1))
        (try simp only [Act.put,List.setIfInBounds_toArray,List.set_cons_zero,List.set_cons_succ])
        go_cut [3] (fun v3 wc=>∃ (kq:Nat) (x3_12:Bool),v3=.bool x3_12∧Aside0 (cycle_Check.j2 kq x3_12 l0_1 (l0_1.length:Int) x20_2 a0_0 l0_1 ((rd_T85 l0_1 x20_2).f0) ((rd_T85 l0_1 x20_2).f1)=some r)∧Aside0 (kq≤k2)∧Aside0 (wc.heap[gb105]?=some (.cells #[.int .i64 a0_0,(.slice (some ad108) l0_1.length c0_1)] 24 (0,0)))∧Aside0 (wc.heap[gb109]?=some (.cells #[.int .i64 ((rd_T85 l0_1 x20_2).f0),(.slice A108_1 ((rd_T85 l0_1 x20_2).f1).length c108_1)] 85 (0,0)))∧Aside0 (Below w.heap.size w wc))
        case first =>
         have H:=HC13.out
         clear HC13
         by_cases c17:x3_2=true
         ·subst c17
          rw [if_pos rfl] at H
          replace H:=Option.bind_eq_some_iff.mp H
          obtain ⟨t110,A180,H⟩:=H
          try dsimp only at H
          have A18:=Aside0.mk A180
          clear A180
          by_cases c19:t110=true
          ·subst c19
           rw [if_pos rfl] at H
           have H':=Aside0.mk H
           clear H
           have hnb20:=NB109_105.out
           have hnc20:=NB105_109.out
           have hcz21_0:w14.cell? ⟨gb109,0,none⟩=some (.int .i64 0):=(blk_cell BK109.out 0).trans rfl
           have hcz21_1:w14.cell? ⟨gb109,1,none⟩=some (.slice none 0 0):=(blk_cell BK109.out 1).trans rfl
           have hfz21_0:=blk_frozen BK109.out 0
           have hfz21_1:=blk_frozen BK109.out 1
           go_wp2_with (first|(go_at_call 101;(with_reducible refine (cycle_lies.calls ((rd_T85 l0_1 x20_2).f0) 2 32 true _ A18.out).mono ?_);rintro e w' ⟨rfl,⟨nd,rfl⟩⟩;have hcz22_0:w14.cell? ⟨gb105,0,none⟩=some (.int .i64 a0_0):=(blk_cell BK105.out 0).trans rfl;have hcz22_1:w14.cell? ⟨gb105,1,none⟩=some (.slice (some ad108) l0_1.length c0_1):=(blk_cell BK105.out 1).trans rfl;have hfz22_0:=blk_frozen BK105.out 0;have hfz22_1:=blk_frozen BK105.out 1))
           go_meet
           case rel=>exact ⟨_,(((((rd_T85 l0_1 x20_2).f1).length:Int) == a0_0)),(by first|rfl|(simp;done)|(simp [*];done)),H',⟨by have:=HJ1.out;have:=HK2.out;first|omega|exact Nat.le_refl _⟩,⟨by (with_reducible repeat (first|refine blk_drewN ?_ _|refine blk_drew ?_|refine blk_alloc ?_ _));refine blk_far ?_ NB105_109.out _;(with_reducible repeat (first|refine blk_drewN ?_ _|refine blk_drew ?_|refine blk_alloc ?_ _));refine blk_far ?_ NB105_109.out _;(with_reducible repeat (first|refine blk_drewN ?_ _|refine blk_drew ?_|refine blk_alloc ?_ _));exact BK105.out⟩,⟨by (with_reducible repeat (first|refine blk_drewN ?_ _|refine blk_drew ?_|refine blk_alloc ?_ _));refine blk_put (cs:=#[.int .i64 ((rd_T85 l0_1 x20_2).f0),.slice none 0 0]) ?_ 1 _ rfl;(with_reducible repeat (first|refine blk_drewN ?_ _|refine blk_drew ?_|refine blk_alloc ?_ _));refine blk_put (cs:=#[.int .i64 0,.slice none 0 0]) ?_ 0 _ rfl;(with_reducible repeat (first|refine blk_drewN ?_ _|refine blk_drew ?_|refine blk_alloc ?_ _));exact BK109.out⟩,⟨by repeat (first|(with_reducible first|exact HB.out|apply below_alloc|apply pw_below_drewN|apply below_drew1|refine below_set ?_ GE105.out|refine below_set ?_ GE109.out)|exact HB.out)⟩⟩
          ·replace c19:=Bool.eq_false_iff.mpr c19
           subst c19
           rw [if_neg (show ¬ (false=true) by decide)] at H
           have H':=Aside0.mk H
           clear H
           have hnb23:=NB109_105.out
           have hnc23:=NB105_109.out
           have hcz24_0:w14.cell? ⟨gb109,0,none⟩=some (.int .i64 0):=(blk_cell BK109.out 0).trans rfl
           have hcz24_1:w14.cell? ⟨gb109,1,none⟩=some (.slice none 0 0):=(blk_cell BK109.out 1).trans rfl
           have hfz24_0:=blk_frozen BK109.out 0
           have hfz24_1:=blk_frozen BK109.out 1
           go_wp2_with (first|(go_at_call 101;(with_reducible refine (cycle_lies.calls ((rd_T85 l0_1 x20_2).f0) 2 32 false _ A18.out).mono ?_);rintro e w' ⟨rfl,⟨nd,rfl⟩⟩))
           go_meet
           case rel=>exact ⟨_,(false),(by first|rfl|(simp;done)|(simp [*];done)),H',⟨by have:=HJ1.out;have:=HK2.out;first|omega|exact Nat.le_refl _⟩,⟨by (with_reducible repeat (first|refine blk_drewN ?_ _|refine blk_drew ?_|refine blk_alloc ?_ _));refine blk_far ?_ NB105_109.out _;(with_reducible repeat (first|refine blk_drewN ?_ _|refine blk_drew ?_|refine blk_alloc ?_ _));refine blk_far ?_ NB105_109.out _;(with_reducible repeat (first|refine blk_drewN ?_ _|refine blk_drew ?_|refine blk_alloc ?_ _));exact BK105.out⟩,⟨by (with_reducible repeat (first|refine blk_drewN ?_ _|refine blk_drew ?_|refine blk_alloc ?_ _));refine blk_put (cs:=#[.int .i64 ((rd_T85 l0_1 x20_2).f0),.slice none 0 0]) ?_ 1 _ rfl;(with_reducible repeat (first|refine blk_drewN ?_ _|refine blk_drew ?_|refine blk_alloc ?_ _));refine blk_put (cs:=#[.int .i64 0,.slice none 0 0]) ?_ 0 _ rfl;(with_reducible repeat (first|refine blk_drewN ?_ _|refine blk_drew ?_|refine blk_alloc ?_ _));exact BK109.out⟩,⟨by repeat (first|(with_reducible first|exact HB.out|apply below_alloc|apply pw_below_drewN|apply below_drew1|refine below_set ?_ GE105.out|refine below_set ?_ GE109.out)|exact HB.out)⟩⟩
         ·replace c17:=Bool.eq_false_iff.mpr c17
          subst c17
          rw [if_neg (show ¬ (false=true) by decide)] at H
          have H':=Aside0.mk H
          clear H
          go_wp2
          go_meet
          case rel=>exact ⟨_,(false),(by first|rfl|(simp;done)|(simp [*];done)),H',⟨by have:=HJ1.out;have:=HK2.out;first|omega|exact Nat.le_refl _⟩,⟨by (with_reducible repeat (first|refine blk_drewN ?_ _|refine blk_drew ?_|refine blk_alloc ?_ _));refine blk_far ?_ NB105_109.out _;(with_reducible repeat (first|refine blk_drewN ?_ _|refine blk_drew ?_|refine blk_alloc ?_ _));refine blk_far ?_ NB105_109.out _;(with_reducible repeat (first|refine blk_drewN ?_ _|refine blk_drew ?_|refine blk_alloc ?_ _));exact BK105.out⟩,⟨by (with_reducible repeat (first|refine blk_drewN ?_ _|refine blk_drew ?_|refine blk_alloc ?_ _));refine blk_put (cs:=#[.int .i64 ((rd_T85 l0_1 x20_2).f0),.slice none 0 0]) ?_ 1 _ rfl;(with_reducible repeat (first|refine blk_drewN ?_ _|refine blk_drew ?_|refine blk_alloc ?_ _));refine blk_put (cs:=#[.int .i64 0,.slice none 0 0]) ?_ 0 _ rfl;(with_reducible repeat (first|refine blk_drewN ?_ _|refine blk_drew ?_|refine blk_alloc ?_ _));exact BK109.out⟩,⟨by repeat (first|(with_reducible first|exact HB.out|apply below_alloc|apply pw_below_drewN|apply below_drew1|refine below_set ?_ GE105.out|refine below_set ?_ GE109.out)|exact HB.out)⟩⟩
        case rest =>
         clear HC13
         try clear c1
         try clear p1
         try clear q1
         try clear hx1
         try clear c2
         try clear p2
         try clear c5
         try clear c6
         try clear c10
         try clear c10b0
         try clear p10
         try clear q10
         try clear hx10
         try clear c11
         try clear c11b0
         try clear c12
         try clear c12b0
         try clear c15
         try clear c17
         try clear c19
         try clear c20
         try clear c23
         try clear hcz16_0
         try clear hcz16_1
         try clear hcz21_0
         try clear hcz21_1
         try clear hcz22_0
         try clear hcz22_1
         try clear hcz24_0
         try clear hcz24_1
         try clear hcz7_0
         try clear hcz7_1
         try clear hcz8_0
         try clear hcz8_1
         try clear hcz9_0
         try clear hcz9_1
         try clear hfz16_0
         try clear hfz16_1
         try clear hfz21_0
         try clear hfz21_1
         try clear hfz22_0
         try clear hfz22_1
         try clear hfz24_0
         try clear hfz24_1
         try clear hfz7_0
         try clear hfz7_1
         try clear hfz8_0
         try clear hfz8_1
         try clear hfz9_0
         try clear hfz9_1
         try clear hx108_0
         try clear hx108_1
         try clear p108
         try clear p2
         try clear q108
         obtain ⟨kq,x3_12,rfl,HA,HJ12,BK105,BK109,HB⟩:=hcut
         cases kq with
         | zero=>exact absurd HA.out (by simp [cycle_Check.j2])
         | succ kj12 =>
          have H:=HA.out
          clear HA
          simp only [cycle_Check.j2] at H
          have H':=Aside0.mk H
          clear H
          have hnb25:=NB109_105.out
          have hnc25:=NB105_109.out
          have hcz26_0:wc.cell? ⟨gb109,0,none⟩=some (.int .i64 ((rd_T85 l0_1 x20_2).f0)):=(blk_cell BK109.out 0).trans rfl
          have hcz26_1:wc.cell? ⟨gb109,1,none⟩=some (.slice A108_1 ((rd_T85 l0_1 x20_2).f1).length c108_1):=(blk_cell BK109.out 1).trans rfl
          have hfz26_0:=blk_frozen BK109.out 0
          have hfz26_1:=blk_frozen BK109.out 1
          go_wp2
          go_loopg [3,41] kj12 (fun kq v3 v41 w'=>∃ (x3_4:Bool) (x41_4:Int),v3=.bool x3_4∧v41=.int .i64 x41_4∧Aside0 (cycle_Check.l1 kq x3_4 l0_1 (l0_1.length:Int) x20_2 ((rd_T85 l0_1 x20_2).f1) (((rd_T85 l0_1 x20_2).f1).length:Int) x41_4 a0_0 l0_1 ((rd_T85 l0_1 x20_2).f0) ((rd_T85 l0_1 x20_2).f1)=some r)∧Aside0 (kq≤kj12)∧Aside0 (w'.heap[gb105]?=some (.cells #[.int .i64 a0_0,(.slice (some ad108) l0_1.length c0_1)] 24 (0,0)))∧Aside0 (w'.heap[gb109]?=some (.cells #[.int .i64 ((rd_T85 l0_1 x20_2).f0),(.slice A108_1 ((rd_T85 l0_1 x20_2).f1).length c108_1)] 85 (0,0)))∧Aside0 (Below w.heap.size w w'))
          case atStart=>exact ⟨(x3_12),(0),(by first|rfl|(simp;done)|(simp [*];done)),(by first|rfl|(simp;done)|(simp [*];done)),H',⟨Nat.le_refl _⟩,⟨by (with_reducible repeat (first|refine blk_drewN ?_ _|refine blk_drew ?_|refine blk_alloc ?_ _));exact BK105.out⟩,⟨by (with_reducible repeat (first|refine blk_drewN ?_ _|refine blk_drew ?_|refine blk_alloc ?_ _));exact BK109.out⟩,⟨by repeat (first|(with_reducible first|exact HB.out|apply below_alloc|apply pw_below_drewN|apply below_drew1|refine below_set ?_ GE105.out|refine below_set ?_ GE109.out)|exact HB.out)⟩⟩
          case round =>
           clear H'
           try clear c1
           try clear p1
           try clear q1
           try clear hx1
           try clear c2
           try clear p2
           try clear c5
           try clear c6
           try clear c10
           try clear c10b0
           try clear p10
           try clear q10
           try clear hx10
           try clear c11
           try clear c11b0
           try clear c12
           try clear c12b0
           try clear c15
           try clear c17
           try clear c19
           try clear c20
           try clear c23
           try clear c25
           try clear hcz16_0
           try clear hcz16_1
           try clear hcz21_0
           try clear hcz21_1
           try clear hcz22_0
           try clear hcz22_1
           try clear hcz24_0
           try clear hcz24_1
           try clear hcz26_0
           try clear hcz26_1
           try clear hcz7_0
           try clear hcz7_1
           try clear hcz8_0
           try clear hcz8_1
           try clear hcz9_0
           try clear hcz9_1
           try clear hfz16_0
           try clear hfz16_1
           try clear hfz21_0
           try clear hfz21_1
           try clear hfz22_0
           try clear hfz22_1
           try clear hfz24_0
           try clear hfz24_1
           try clear hfz26_0
           try clear hfz26_1
           try clear hfz7_0
           try clear hfz7_1
           try clear hfz8_0
           try clear hfz8_1
           try clear hfz9_0
           try clear hfz9_1
           try clear hx108_0
           try clear hx108_1
           try clear p1
           try clear p10
           try clear p108
           try clear p2
           try clear q1
           try clear q10
           try clear q108
           obtain ⟨x3_4,x41_4,rfl,rfl,HA,HK4,BK105,BK109,HB⟩:=hrel
           cases gk with
           | zero=>exact absurd HA.out (by simp [cycle_Check.l1])
           | succ k4 =>
            have H:=HA.out
            clear HA
            simp only [cycle_Check.l1] at H
            by_cases c27:x41_4<(((rd_T85 l0_1 x20_2).f1).length:Int)
            ·rw [if_pos c27] at H
             have c27b0:decide (x41_4<(((rd_T85 l0_1 x20_2).f1).length:Int))=true:=decide_eq_true c27
             clear c27
             by_cases c28:0≤x41_4
             ·rw [if_pos c28] at H
              have c28b0:decide (0≤x41_4)=true:=decide_eq_true c28
              clear c28
              by_cases c29:x41_4<(((rd_T85 l0_1 x20_2).f1).length:Int)
              ·rw [if_pos c29] at H
               have c29b0:decide (x41_4<(((rd_T85 l0_1 x20_2).f1).length:Int))=true:=decide_eq_true c29
               clear c29
               by_cases c30:x3_4=true
               ·subst c30
                rw [if_pos rfl] at H
                replace H:=Option.bind_eq_some_iff.mp H
                obtain ⟨t112,A310,H⟩:=H
                try dsimp only at H
                have A31:=Aside0.mk A310
                clear A310
                by_cases c32:t112=true
                ·subst c32
                 rw [if_pos rfl] at H
                 by_cases c33:x41_4>0
                 ·rw [if_pos c33] at H
                  have c33b0:decide (0<x41_4)=true:=decide_eq_true c33
                  clear c33
                  have H':=Aside0.mk H
                  clear H
                  have p111:0≤(x41_4:Int):=of_decide_eq_true (by first|(with_reducible assumption)|assumption)
                  have q111:x41_4<(((rd_T85 l0_1 x20_2).f1).length:Int):=of_decide_eq_true (by first|(with_reducible assumption)|assumption)
                  obtain ⟨ad111,A111_0,c111_0,e111,hx111_0,hl111_0,hi111_0⟩:=at_L1 HR108_1.out x41_4 p111 q111
                  cases e111
                  replace hx111_0:=(HB.out.cell (World.block_lt_of_cell? w _ hx111_0)).trans hx111_0
                  have HR111_0:=Aside0.mk hi111_0
                  have HC111_0:=Aside0.mk hl111_0
                  clear hi111_0 hl111_0
                  replace p111:=eq_true p111
                  replace q111:=eq_true q111
                  have hnb34:=NB109_105.out
                  have hnc34:=NB105_109.out
                  have hcz35_0:wr.cell? ⟨gb109,0,none⟩=some (.int .i64 ((rd_T85 l0_1 x20_2).f0)):=(blk_cell BK109.out 0).trans rfl
                  have hcz35_1:wr.cell? ⟨gb109,1,none⟩=some (.slice (some ad111) ((rd_T85 l0_1 x20_2).f1).length c108_1):=(blk_cell BK109.out 1).trans rfl
                  have hfz35_0:=blk_frozen BK109.out 0
                  have hfz35_1:=blk_frozen BK109.out 1
                  go_wp2_with (first|(go_at_call 102;(with_reducible refine (cycle_grows.calls k4 _ _ (rd_L1 ((rd_T85 l0_1 x20_2).f1) x41_4) ((rd_T85 l0_1 x20_2).f0) true _ ?side1 ?side2 A31.out).mono ?_);(case side1=>repeat (first|exact (Kd.C_below HR111_0.out HB.out)|(with_reducible refine Kd.C_alloc ?_ _)|(with_reducible refine Kd.C_drewN ?_ _)|(with_reducible refine Kd.C_drew ?_)));(case side2=>exact HC111_0.out);rintro e w' ⟨rfl,⟨nd,rfl⟩⟩))
                  go_roundg k4
                  case measure=>have:=HJ1.out;have:=HK2.out;have:=HJ12.out;have:=HK4.out;omega
                  case rel=>exact ⟨(true),(wrap64 (x41_4+1)),(by first|rfl|(simp;done)|(simp [*];done)),(by first|rfl|(simp;done)|(simp [*];done)),H',⟨by have:=HJ1.out;have:=HK2.out;have:=HJ12.out;have:=HK4.out;omega⟩,⟨by (with_reducible repeat (first|refine blk_drewN ?_ _|refine blk_drew ?_|refine blk_alloc ?_ _));exact BK105.out⟩,⟨by (with_reducible repeat (first|refine blk_drewN ?_ _|refine blk_drew ?_|refine blk_alloc ?_ _));exact BK109.out⟩,⟨by repeat (first|(with_reducible first|exact HB.out|apply below_alloc|apply pw_below_drewN|apply below_drew1|refine below_set ?_ GE105.out|refine below_set ?_ GE109.out)|exact HB.out)⟩⟩
                 ·rw [if_neg c33] at H
                  have c33b0:decide (0<x41_4)=false:=decide_eq_false c33
                  clear c33
                  obtain ⟨y113,hy113⟩:∃ y_:List Int,y_=(([wrap64 (((rd_T85 l0_1 x20_2).f0) - 1)]:List Int)):=⟨_,rfl⟩
                  replace H:((slices_Equal_int_int.f k4 (rd_L1 ((rd_T85 l0_1 x20_2).f1) x41_4) y113).bind fun t116=>(cycle_Check.l1 k4 t116 l0_1 (l0_1.length:Int) x20_2 ((rd_T85 l0_1 x20_2).f1) (((rd_T85 l0_1 x20_2).f1).length:Int) (wrap64 (x41_4+1)) a0_0 l0_1 ((rd_T85 l0_1 x20_2).f0) ((rd_T85 l0_1 x20_2).f1)))=some r:=by first|(rw [hy113];with_reducible exact H)|(have H2_:=(Option.bind_some _ _).symm.trans H;rw [hy113];with_reducible exact H2_)|(have H2_:=(Option.bind_some _ _).symm.trans H;with_reducible exact H2_)|with_reducible exact H|(rw [hy113];exact H)|exact H
                  have Ny113:=Aside0.mk hy113
                  clear hy113
                  replace H:=Option.bind_eq_some_iff.mp H
                  obtain ⟨t116,A360,H⟩:=H
                  try dsimp only at H
                  have A36:=Aside0.mk A360
                  clear A360
                  have H':=Aside0.mk H
                  clear H
                  have p111:0≤(x41_4:Int):=of_decide_eq_true (by first|(with_reducible assumption)|assumption)
                  have q111:x41_4<(((rd_T85 l0_1 x20_2).f1).length:Int):=of_decide_eq_true (by first|(with_reducible assumption)|assumption)
                  obtain ⟨ad111,A111_0,c111_0,e111,hx111_0,hl111_0,hi111_0⟩:=at_L1 HR108_1.out x41_4 p111 q111
                  cases e111
                  replace hx111_0:=(HB.out.cell (World.block_lt_of_cell? w _ hx111_0)).trans hx111_0
                  have HR111_0:=Aside0.mk hi111_0
                  have HC111_0:=Aside0.mk hl111_0
                  clear hi111_0 hl111_0
                  replace p111:=eq_true p111
                  replace q111:=eq_true q111
                  have hnb37:=NB109_105.out
                  have hnc37:=NB105_109.out
                  have hcz38_0:wr.cell? ⟨gb109,0,none⟩=some (.int .i64 ((rd_T85 l0_1 x20_2).f0)):=(blk_cell BK109.out 0).trans rfl
                  have hcz38_1:wr.cell? ⟨gb109,1,none⟩=some (.slice (some ad111) ((rd_T85 l0_1 x20_2).f1).length c108_1):=(blk_cell BK109.out 1).trans rfl
                  have hfz38_0:=blk_frozen BK109.out 0
                  have hfz38_1:=blk_frozen BK109.out 1
                  go_wp2_with (first|(go_at_call 102;(with_reducible refine (cycle_grows.calls k4 _ _ (rd_L1 ((rd_T85 l0_1 x20_2).f1) x41_4) ((rd_T85 l0_1 x20_2).f0) true _ ?side1 ?side2 A31.out).mono ?_);(case side1=>repeat (first|exact (Kd.C_below HR111_0.out HB.out)|(with_reducible refine Kd.C_alloc ?_ _)|(with_reducible refine Kd.C_drewN ?_ _)|(with_reducible refine Kd.C_drew ?_)));(case side2=>exact HC111_0.out);rintro e w' ⟨rfl,⟨nd,rfl⟩⟩)|((with_reducible refine gate_dst (N:=61) rfl ?_);(try (refine gate_guard (by rfl) ?_;dsimp only));refine Kd.R_lit (Kd.int .i64) _ 3 ?hg (N:=61) ?hd (xs:=([wrap64 (((rd_T85 l0_1 x20_2).f0) - 1)]:List Int)) (inner:=[.int .i64 (wrap64 (((rd_T85 l0_1 x20_2).f0) - 1))]) (ok:=fun _=>True) (okp:=fun _=>True) ?hr ?hp (fun _ hk=>hk) trivial (Below.refl _ _) (Nat.le_refl _) (by simp) ?_;(case hd=>rfl);(case hg=>rfl);(case hr=>first|(go_simp;done)|(go_simp;rfl));(case hp=>exact (Reps.one (show Kd.M (Kd.int .i64) _ _ _ (wrap64 (((rd_T85 l0_1 x20_2).f0) - 1)) [.int .i64 (wrap64 (((rd_T85 l0_1 x20_2).f0) - 1))] from rfl) (Reps.none _ _)));intro v114 w39 ho40 hb hg_ hnew_;clear hg_ hnew_;(first|rw [← Ny113.out] at ho40|(simp only [Int.reduceToNat] at ho40;rw [← Ny113.out] at ho40));have n0_:=Aside0.mk (Kd.R_lower ho40 (below_size (by repeat (first|(with_reducible first|exact HB.out|apply below_alloc|apply pw_below_drewN|apply below_drew1|refine below_set ?_ GE105.out|refine below_set ?_ GE109.out)|exact HB.out))));have n1_:=Aside0.mk (blk_below (g:=gb105) (o:=.cells #[.int .i64 a0_0,.slice (some ad108) l0_1.length c0_1] 24 (0,0)) (by (with_reducible repeat (first|refine blk_drewN ?_ _|refine blk_drew ?_|refine blk_alloc ?_ _));exact BK105.out) hb);have n2_:=Aside0.mk (blk_below (g:=gb109) (o:=.cells #[.int .i64 ((rd_T85 l0_1 x20_2).f0),.slice (some ad111) ((rd_T85 l0_1 x20_2).f1).length c108_1] 85 (0,0)) (by (with_reducible repeat (first|refine blk_drewN ?_ _|refine blk_drew ?_|refine blk_alloc ?_ _));exact BK109.out) hb);have n3_:=Aside0.mk (below_step (by repeat (first|(with_reducible first|exact HB.out|apply below_alloc|apply pw_below_drewN|apply below_drew1|refine below_set ?_ GE105.out|refine below_set ?_ GE109.out)|exact HB.out)) hb);clear BK105;clear BK109;clear HB;have HO115:=n0_;have BK105:=n1_;have BK109:=n2_;have HB:=n3_;clear n0_ n1_ n2_ n3_;clear hb ho40;obtain ⟨Ao41,co41,eo41⟩:=Kd.R_slice HO115.out;subst eo41)|(go_at_call 103;(with_reducible refine (slices_Equal_int_int.calls k4 _ _ (rd_L1 ((rd_T85 l0_1 x20_2).f1) x41_4) _ _ y113 t116 _ ?side1 ?side2 ?side3 ?side4 A36.out).mono ?_);(case side1=>repeat (first|exact (Kd.C_below HR111_0.out HB.out)|(with_reducible refine Kd.C_alloc ?_ _)|(with_reducible refine Kd.C_drewN ?_ _)|(with_reducible refine Kd.C_drew ?_)));(case side2=>exact HC111_0.out);(case side3=>repeat (first|exact (Kd.R_reads' HO115.out).2.2|(with_reducible refine Kd.C_alloc ?_ _)|(with_reducible refine Kd.C_drewN ?_ _)|(with_reducible refine Kd.C_drew ?_)));(case side4=>exact (Kd.R_reads' HO115.out).2.1);rintro e w' ⟨rfl,⟨nd,rfl⟩⟩))
                  go_roundg k4
                  case measure=>have:=HJ1.out;have:=HK2.out;have:=HJ12.out;have:=HK4.out;omega
                  case rel=>exact ⟨(t116),(wrap64 (x41_4+1)),(by first|rfl|(simp;done)|(simp [*];done)),(by first|rfl|(simp;done)|(simp [*];done)),H',⟨by have:=HJ1.out;have:=HK2.out;have:=HJ12.out;have:=HK4.out;omega⟩,⟨by (with_reducible repeat (first|refine blk_drewN ?_ _|refine blk_drew ?_|refine blk_alloc ?_ _));exact BK105.out⟩,⟨by (with_reducible repeat (first|refine blk_drewN ?_ _|refine blk_drew ?_|refine blk_alloc ?_ _));exact BK109.out⟩,⟨by repeat (first|(with_reducible first|exact HB.out|apply below_alloc|apply pw_below_drewN|apply below_drew1|refine below_set ?_ GE105.out|refine below_set ?_ GE109.out)|exact HB.out)⟩⟩
                ·replace c32:=Bool.eq_false_iff.mpr c32
                 subst c32
                 rw [if_neg (show ¬ (false=true) by decide)] at H
                 have H':=Aside0.mk H
                 clear H
                 have p111:0≤(x41_4:Int):=of_decide_eq_true (by first|(with_reducible assumption)|assumption)
                 have q111:x41_4<(((rd_T85 l0_1 x20_2).f1).length:Int):=of_decide_eq_true (by first|(with_reducible assumption)|assumption)
                 obtain ⟨ad111,A111_0,c111_0,e111,hx111_0,hl111_0,hi111_0⟩:=at_L1 HR108_1.out x41_4 p111 q111
                 cases e111
                 replace hx111_0:=(HB.out.cell (World.block_lt_of_cell? w _ hx111_0)).trans hx111_0
                 have HR111_0:=Aside0.mk hi111_0
                 have HC111_0:=Aside0.mk hl111_0
                 clear hi111_0 hl111_0
                 replace p111:=eq_true p111
                 replace q111:=eq_true q111
                 have hnb42:=NB109_105.out
                 have hnc42:=NB105_109.out
                 have hcz43_0:wr.cell? ⟨gb109,0,none⟩=some (.int .i64 ((rd_T85 l0_1 x20_2).f0)):=(blk_cell BK109.out 0).trans rfl
                 have hcz43_1:wr.cell? ⟨gb109,1,none⟩=some (.slice (some ad111) ((rd_T85 l0_1 x20_2).f1).length c108_1):=(blk_cell BK109.out 1).trans rfl
                 have hfz43_0:=blk_frozen BK109.out 0
                 have hfz43_1:=blk_frozen BK109.out 1
                 go_wp2_with (first|(go_at_call 102;(with_reducible refine (cycle_grows.calls k4 _ _ (rd_L1 ((rd_T85 l0_1 x20_2).f1) x41_4) ((rd_T85 l0_1 x20_2).f0) false _ ?side1 ?side2 A31.out).mono ?_);(case side1=>repeat (first|exact (Kd.C_below HR111_0.out HB.out)|(with_reducible refine Kd.C_alloc ?_ _)|(with_reducible refine Kd.C_drewN ?_ _)|(with_reducible refine Kd.C_drew ?_)));(case side2=>exact HC111_0.out);rintro e w' ⟨rfl,⟨nd,rfl⟩⟩))
                 go_roundg k4
                 case measure=>have:=HJ1.out;have:=HK2.out;have:=HJ12.out;have:=HK4.out;omega
                 case rel=>exact ⟨(false),(wrap64 (x41_4+1)),(by first|rfl|(simp;done)|(simp [*];done)),(by first|rfl|(simp;done)|(simp [*];done)),H',⟨by have:=HJ1.out;have:=HK2.out;have:=HJ12.out;have:=HK4.out;omega⟩,⟨by (with_reducible repeat (first|refine blk_drewN ?_ _|refine blk_drew ?_|refine blk_alloc ?_ _));exact BK105.out⟩,⟨by (with_reducible repeat (first|refine blk_drewN ?_ _|refine blk_drew ?_|refine blk_alloc ?_ _));exact BK109.out⟩,⟨by repeat (first|(with_reducible first|exact HB.out|apply below_alloc|apply pw_below_drewN|apply below_drew1|refine below_set ?_ GE105.out|refine below_set ?_ GE109.out)|exact HB.out)⟩⟩
               ·replace c30:=Bool.eq_false_iff.mpr c30
                subst c30
                rw [if_neg (show ¬ (false=true) by decide)] at H
                have H':=Aside0.mk H
                clear H
                have p111:0≤(x41_4:Int):=of_decide_eq_true (by first|(with_reducible assumption)|assumption)
                have q111:x41_4<(((rd_T85 l0_1 x20_2).f1).length:Int):=of_decide_eq_true (by first|(with_reducible assumption)|assumption)
                obtain ⟨ad111,A111_0,c111_0,e111,hx111_0,hl111_0,hi111_0⟩:=at_L1 HR108_1.out x41_4 p111 q111
                cases e111
                replace hx111_0:=(HB.out.cell (World.block_lt_of_cell? w _ hx111_0)).trans hx111_0
                have HR111_0:=Aside0.mk hi111_0
                have HC111_0:=Aside0.mk hl111_0
                clear hi111_0 hl111_0
                replace p111:=eq_true p111
                replace q111:=eq_true q111
                go_wp2
                go_roundg k4
                case measure=>have:=HJ1.out;have:=HK2.out;have:=HJ12.out;have:=HK4.out;omega
                case rel=>exact ⟨(false),(wrap64 (x41_4+1)),(by first|rfl|(simp;done)|(simp [*];done)),(by first|rfl|(simp;done)|(simp [*];done)),H',⟨by have:=HJ1.out;have:=HK2.out;have:=HJ12.out;have:=HK4.out;omega⟩,⟨by (with_reducible repeat (first|refine blk_drewN ?_ _|refine blk_drew ?_|refine blk_alloc ?_ _));exact BK105.out⟩,⟨by (with_reducible repeat (first|refine blk_drewN ?_ _|refine blk_drew ?_|refine blk_alloc ?_ _));exact BK109.out⟩,⟨by repeat (first|(with_reducible first|exact HB.out|apply below_alloc|apply pw_below_drewN|apply below_drew1|refine below_set ?_ GE105.out|refine below_set ?_ GE109.out)|exact HB.out)⟩⟩
              ·rw [if_neg c29] at H
               exact absurd H (by simp)
             ·rw [if_neg c28] at H
              exact absurd H (by simp)
            ·rw [if_neg c27] at H
             have c27b0:decide (x41_4<(((rd_T85 l0_1 x20_2).f1).length:Int))=false:=decide_eq_false c27
             clear c27
             have H':=Aside0.mk H
             clear H
             go_wp2
             go_roundg k4
             case measure=>have:=HJ1.out;have:=HK2.out;have:=HJ12.out;have:=HK4.out;omega
             case rel=>exact ⟨(x3_4),(wrap64 (x20_2+1)),(by first|rfl|(simp;done)|(simp [*];done)),(by first|rfl|(simp;done)|(simp [*];done)),H',⟨by have:=HJ1.out;have:=HK2.out;have:=HJ12.out;have:=HK4.out;omega⟩,⟨by (with_reducible repeat (first|refine blk_drewN ?_ _|refine blk_drew ?_|refine blk_alloc ?_ _));exact BK105.out⟩,⟨by repeat (first|(with_reducible first|exact HB.out|apply below_alloc|apply pw_below_drewN|apply below_drew1|refine below_set ?_ GE105.out|refine below_set ?_ GE109.out)|exact HB.out)⟩⟩
       ·rw [if_neg c12] at H
        exact absurd H (by simp)
      ·rw [if_neg c11] at H
       exact absurd H (by simp)
     ·rw [if_neg c10] at H
      have c10b0:decide (x20_2<(l0_1.length:Int))=false:=decide_eq_false c10
      clear c10
      by_cases c44:x3_2=true
      ·subst c44
       rw [if_pos rfl] at H
       obtain rfl:=Option.some.inj H
       go_wp2
       go_ret
       exact ⟨by first|rfl|(simp [errW_none,errW_some] <;> rfl)|(simp [*,errW_none,errW_some] <;> rfl),by repeat (first|(with_reducible first|exact HB.out|apply below_alloc|apply pw_below_drewN|apply below_drew1|refine below_set ?_ GE105.out)|exact HB.out)⟩
      ·replace c44:=Bool.eq_false_iff.mpr c44
       subst c44
       rw [if_neg (show ¬ (false=true) by decide)] at H
       obtain rfl:=Option.some.inj H
       go_wp2
       go_ret
       exact ⟨by first|rfl|(simp [errW_none,errW_some] <;> rfl)|(simp [*,errW_none,errW_some] <;> rfl),by repeat (first|(with_reducible first|exact HB.out|apply below_alloc|apply pw_below_drewN|apply below_drew1|refine below_set ?_ GE105.out)|exact HB.out)⟩
end Go.Proofs.YthnilelmhpmanaaDoor.PHeardFits
end
section
namespace Go.Proofs.YthnilelmhpmanaaDoor.PHeardFits
open Go.RowKit Go.Proofs.YthnilelmhpmanaaDoorW.PrintWords Go.Proofs.YthnilelmhpmanaaDoorW.PrintLast Go.Proofs.YthnilelmhpmanaaDoorW.PrintMore
attribute [local go_sem] max2_int min2_int max_two min_two max_three min_three max_four min_four
set_option linter.unusedVariables false
set_option linter.unusedSimpArgs false
def heard_lies.f (a0:Int) (a1:Int) (a2:Int):Option (Bool):=if a1≤a0 then (some (decide (a0≤a2))) else (some false)
set_option maxHeartbeats 8000000 in
set_option maxRecDepth 100000 in
theorem heard_lies.calls (a0:Int) (a1:Int) (a2:Int) (r:Bool) (w:World) (h:heard_lies.f a0 a1 a2=some r) :
  Calls Tryd.prog 65 #[.int .i64 a0,.int .i64 a1,.int .i64 a2] w fun e w'=>e=.returned (.bool r)∧Drawn0 w w':=by
 have H:(if a1≤a0 then (some (decide (a0≤a2))) else (some false))=some r:=h
 clear h
 by_cases c4:a1≤a0
 ·rw [if_pos c4] at H
  have c4b0:decide (a1≤a0)=true:=decide_eq_true c4
  clear c4
  obtain rfl:=Option.some.inj H
  go_enter Tryd.func65,Tryd.ntmps65
  go_wp2
  go_ret
  exact ⟨by first|rfl|(simp;done)|(simp [*];done),by repeat (first|exact Drawn0.refl _|apply Drawn0.step)⟩
 ·rw [if_neg c4] at H
  have c4b0:decide (a1≤a0)=false:=decide_eq_false c4
  clear c4
  obtain rfl:=Option.some.inj H
  go_enter Tryd.func65,Tryd.ntmps65
  go_wp2
  go_ret
  exact ⟨by first|rfl|(simp;done)|(simp [*];done),by repeat (first|exact Drawn0.refl _|apply Drawn0.step)⟩
end Go.Proofs.YthnilelmhpmanaaDoor.PHeardFits
end
section
namespace Go.Proofs.YthnilelmhpmanaaDoor.PHeardFits
open Go.RowKit Go.Proofs.YthnilelmhpmanaaDoorW.PrintWords Go.Proofs.YthnilelmhpmanaaDoorW.PrintLast Go.Proofs.YthnilelmhpmanaaDoorW.PrintMore
set_option linter.unusedVariables false
set_option linter.unusedSimpArgs false
def liesB (a b c:Int):Bool:=decide (b≤a) && decide (a≤c)
def badTone (x:Int):Bool:=!(liesB x 0 6)
theorem lies_eq (a b c:Int):heard_lies.f a b c=some (liesB a b c):=by
  unfold heard_lies.f liesB
  by_cases h:b≤a <;> simp [h]
theorem lies_any (a b c:Int) (w:World):Calls Tryd.prog 65 #[.int .i64 a,.int .i64 b,.int .i64 c] w fun e w'=>e=.returned (.bool (liesB a b c))∧Drawn0 w w' :=
  heard_lies.calls a b c _ w (lies_eq a b c)
theorem bad_any (x:Int) (w:World):Calls Tryd.prog 105 #[.int .i64 x] w fun e w'=>e=.returned (.bool (badTone x))∧Drawn0 w w':=by
  go_enter Tryd.func105,Tryd.ntmps105
  go_wp2_with (go_at_call 65;refine (lies_any _ _ _ _).mono ?_;rintro e w' ⟨rfl,⟨nd,rfl⟩⟩)
  go_ret
  exact ⟨rfl,⟨_,rfl⟩⟩
/-- The first place of what is so; -1: none. -/
def findP {α:Type} (p:α→Bool):List α→Nat→Int
  | [],_ => -1
  | x :: l,i=>if p x then (i:Int) else findP p l (i+1)
theorem findP_yes {p:Int→Bool} {l:List Int} {i:Nat} (h:i<l.length) (hp:p (rd l i)=true):findP p (l.drop i) i=i:=by
  rw [List.drop_eq_getElem_cons h]
  have e:rd l (i:Int)=l[i]:=by simp [rd,List.getD_eq_getElem?_getD,List.getElem?_eq_getElem h]
  rw [e] at hp
  simp [findP,hp]
theorem findP_no {p:Int→Bool} {l:List Int} {i:Nat} (h:i<l.length) (hp:p (rd l i)=false):findP p (l.drop i) i=findP p (l.drop (i+1)) (i+1):=by
  rw [List.drop_eq_getElem_cons h]
  have e:rd l (i:Int)=l[i]:=by simp [rd,List.getD_eq_getElem?_getD,List.getElem?_eq_getElem h]
  rw [e] at hp
  simp [findP,hp]
theorem findP_ge {α:Type} (p:α→Bool):∀ (l:List α) (i:Nat),decide (0≤findP p l i)=l.any p
  | [],_=>rfl
  | x :: l,i=>by
    unfold findP
    rw [List.any_cons]
    by_cases h:p x=true
    · rw [if_pos h,h];simp
    · rw [if_neg h,findP_ge p l,Bool.eq_false_iff.mpr h];rfl
theorem ret_bool {a b:Bool} (h:a=b):Ending.returned (.bool a)=.returned (.bool b):=by rw [h]
theorem ret_i64 {a b:Int} (h:a=b):Ending.returned (.int .i64 a)=.returned (.int .i64 b):=by rw [h]
theorem index_any (A:Option Addr) (c:Nat) (l:List Int) (w:World) (hr:Kd.C (Kd.int .i64) w A l.length l) (hc:l.length≤c) (hl:l.length≤4611686018427387904) :
    Calls Tryd.prog 127 #[.slice A l.length c,.func (.func 105) #[] #[]] w fun e w'=>e=.returned (.int .i64 (findP badTone l 0))∧Drawn0 w w':=by
  have HR:=Aside0.mk hr
  clear hr hc
  go_enter Tryd.func127,Tryd.ntmps127
  go_wp2_with fail
  go_loopg [5,8] l.length (fun gk v5 v8 w'=>∃ (i:Nat) (x5:Value),v8=.int .i64 i∧v5=x5∧Aside0 (gk+i=l.length)∧Aside0 (findP badTone l 0=findP badTone (l.drop i) i)∧Drawn0 w w')
  case atStart=>exact ⟨0,_,rfl,rfl,⟨by omega⟩,⟨rfl⟩,⟨0,rfl⟩⟩
  case round =>
    obtain ⟨i,x5,rfl,rfl,HI,HA,⟨m1,rfl⟩⟩:=hrel
    have hi:=HI.out
    by_cases hlt:i<l.length
    · obtain ⟨ad,e1,hx⟩:=Kd.at_int HR.out (i:Int) (by omega) (by omega)
      cases e1
      have hcell:∀ m,(w.drewN m).cell? (ad.add i)=some (.int .i64 (rd l i)):=fun m=>hx
      go_wp2_with (first|(go_at_call 105;refine (bad_any _ _).mono ?_;rintro e w' ⟨rfl,⟨nd,rfl⟩⟩))
      · have hp:badTone (rd l i)=true:=by assumption
        go_ret
        exact ⟨ret_i64 (by rw [HA.out,findP_yes hlt hp]),by repeat (first|exact Drawn0.refl _|apply Drawn0.step)⟩
      · have hp:badTone (rd l i)=false:=by assumption
        go_roundg (gk - 1)
        case measure=>omega
        case rel=>exact ⟨i+1,_,by go_num,rfl,⟨by omega⟩,⟨by rw [HA.out,findP_no hlt hp]⟩,by repeat (first|exact Drawn0.refl _|apply Drawn0.step)⟩
    · go_wp2_with fail
      go_ret
      exact ⟨ret_i64 (by rw [HA.out,List.drop_eq_nil_of_le (by omega)];rfl),⟨_,rfl⟩⟩
theorem contains_any (A:Option Addr) (c:Nat) (l:List Int) (w:World) (hr:Kd.C (Kd.int .i64) w A l.length l) (hc:l.length≤c) (hl:l.length≤4611686018427387904) :
    Calls Tryd.prog 104 #[.slice A l.length c,.func (.func 105) #[] #[]] w fun e w'=>e=.returned (.bool (l.any badTone))∧Drawn0 w w':=by
  go_enter Tryd.func104,Tryd.ntmps104
  go_wp2_with (first|(go_at_call 127;refine (index_any _ _ _ _ hr hc hl).mono ?_;rintro e w' ⟨rfl,⟨nd,rfl⟩⟩))
  go_ret
  exact ⟨ret_bool (findP_ge _ _ _),⟨_,rfl⟩⟩
def heard_areTones.f (l:List Int) (least:Int):Option Bool:=some (liesB l.length least 24 && !(l.any badTone))
theorem heard_areTones.calls (A0:Option Addr) (c0:Nat) (l0:List Int) (a1:Int) (r:Bool) (w:World) (hr0:Kd.C (Kd.int .i64) w A0 l0.length l0) (hc0:l0.length≤c0) (h:heard_areTones.f l0 a1=some r) :
    Calls Tryd.prog 66 #[.slice A0 l0.length c0,.int .i64 a1] w fun e w'=>e=.returned (.bool r)∧Drawn0 w w':=by
  obtain rfl:=Option.some.inj h
  clear h
  cases hb:liesB l0.length a1 24 with
  | true =>
    have hl:l0.length≤4611686018427387904:=by unfold liesB at hb;simp at hb;omega
    have H1:=Aside0.mk hr0
    have H2:=Aside0.mk hl
    have H3:=Aside0.mk hc0
    clear hr0 hc0 hl
    go_enter Tryd.func66,Tryd.ntmps66
    go_wp2_with (first|(go_at_call 65;refine (lies_any _ _ _ _).mono ?_;rintro e w' ⟨rfl,⟨nd,rfl⟩⟩)|(go_at_call 104;refine (contains_any _ _ _ _ (Kd.C_below H1.out (Drawn0.below ⟨⟨_,rfl⟩⟩)) H3.out H2.out).mono ?_;rintro e w' ⟨rfl,⟨nd,rfl⟩⟩))
    go_ret
    exact ⟨ret_bool (by simp),by repeat (first|exact Drawn0.refl _|apply Drawn0.step)⟩
  | false =>
    go_enter Tryd.func66,Tryd.ntmps66
    go_wp2_with (first|(go_at_call 65;refine (lies_any _ _ _ _).mono ?_;rintro e w' ⟨rfl,⟨nd,rfl⟩⟩))
    go_ret
    exact ⟨ret_bool (by simp),⟨_,rfl⟩⟩
end Go.Proofs.YthnilelmhpmanaaDoor.PHeardFits
end
section
namespace Go.Proofs.YthnilelmhpmanaaDoor.PHeardFits
open Go.RowKit Go.Proofs.YthnilelmhpmanaaDoorW.PrintWords Go.Proofs.YthnilelmhpmanaaDoorW.PrintLast Go.Proofs.YthnilelmhpmanaaDoorW.PrintMore
attribute [local go_sem] max2_int min2_int max_two min_two max_three min_three max_four min_four
set_option linter.unusedVariables false
set_option linter.unusedSimpArgs false
mutual
def heard_Check.j0:Nat→Bool→Int→List (S85)→List (S62)→Option (Int)
 | 0,_,_,_,_=>none
 | k+1,x3,x118000,x118001,x118002=>heard_Check.l0 k x3 x118002 (x118002.length:Int) 0 x118000 x118001 x118002
def heard_Check.l0:Nat→Bool→List (S62)→Int→Int→Int→List (S85)→List (S62)→Option (Int)
 | 0,_,_,_,_,_,_,_=>none
 | k+1,x3,x17,x18,x19,x118000,x118001,x118002=>if x19<x18 then (if 0≤x19 then (if x19<(x17.length:Int) then (if x3=true then ((heard_lies.f ((rd_T62 x17 x19).f0) 0 (wrap64 ((x118001.length:Int) - 1))).bind fun t122=>(if t122=true then ((heard_areTones.f ((rd_T62 x17 x19).f1) 1).bind fun t123=>(heard_Check.l0 k t123 x17 x18 (wrap64 (x19+1)) x118000 x118001 x118002)) else (heard_Check.l0 k false x17 x18 (wrap64 (x19+1)) x118000 x118001 x118002))) else (heard_Check.l0 k false x17 x18 (wrap64 (x19+1)) x118000 x118001 x118002)) else (none)) else (none)) else (if x3=true then (some 0) else (some 90))
end
def heard_Check.f (k:Nat) (a0_0:Int) (l0_1:List (S85)) (l0_2:List (S62)):Option (Int):=(cycle_Check.f k a0_0 l0_1).bind fun t118=>(if t118=0 then ((heard_lies.f (l0_2.length:Int) 1 6).bind fun t119=>(heard_Check.j0 k t119 a0_0 l0_1 l0_2)) else (heard_Check.j0 k false a0_0 l0_1 l0_2))
set_option maxHeartbeats 8000000 in
set_option maxRecDepth 100000 in
theorem heard_Check.calls (k:Nat) (a0_0:Int) (A0_1:Option Addr) (c0_1:Nat) (l0_1:List (S85)) (A0_2:Option Addr) (c0_2:Nat) (l0_2:List (S62)) (r:Int) (w:World) (hr0_1:Kd.C k85 w A0_1 l0_1.length l0_1) (hc0_1:l0_1.length≤c0_1) (hr0_2:Kd.C k62 w A0_2 l0_2.length l0_2) (hc0_2:l0_2.length≤c0_2) (h:heard_Check.f k a0_0 l0_1 l0_2=some r) :
  Calls Tryd.prog 17 #[.agg #[.int .i64 a0_0,.slice A0_1 l0_1.length c0_1,.slice A0_2 l0_2.length c0_2]] w fun e w'=>e=.returned (.int .i64 r)∧Below w.heap.size w w':=by
 have hu27:=Tryd.underlying27
 have hu24:=Tryd.underlying24
 have hu62:=Tryd.underlying62
 have HR0_1:=Aside0.mk hr0_1
 have HC0_1:=Aside0.mk hc0_1
 clear hr0_1 hc0_1
 have HR0_2:=Aside0.mk hr0_2
 have HC0_2:=Aside0.mk hc0_2
 clear hr0_2 hc0_2
 have HB:=Aside0.mk (Below.refl w.heap.size w)
 have H:((cycle_Check.f k a0_0 l0_1).bind fun t118=>(if t118=0 then ((heard_lies.f (l0_2.length:Int) 1 6).bind fun t119=>(heard_Check.j0 k t119 a0_0 l0_1 l0_2)) else (heard_Check.j0 k false a0_0 l0_1 l0_2)))=some r:=h
 clear h
 have HC2:=Aside0.mk H
 clear H
 go_enter Tryd.func17,Tryd.ntmps17
 go_upto_region 1 with (first|((with_reducible refine gate_dst (N:=1) rfl ?_);(try (refine gate_guard (by rfl) ?_;dsimp only));refine box_event ?hg (N:=1) ?hd (cs:=#[.int .i64 a0_0,.slice A0_1 l0_1.length c0_1,.slice A0_2 l0_2.length c0_2]) (t:=27) ?hr ?_;(case hd=>rfl);(case hg=>rfl);(case hr=>first|(go_simp;done)|(go_simp;rfl));intro gb117 hg w3 hbox hb;have n0_:=Aside0.mk (below_step (by repeat (first|(with_reducible first|exact HB.out|apply below_alloc|apply pw_below_drewN|apply below_drew1)|exact HB.out)) hb);have n1_:=Aside0.mk (hbox);have n2_:=Aside0.mk ((by rw [hg];exact (below_size (by repeat (first|(with_reducible first|exact HB.out|apply below_alloc|apply pw_below_drewN|apply below_drew1)|exact HB.out))):w.heap.size≤gb117));have n3_:=Aside0.mk ((by rw [hg];exact (below_size (by repeat (first|(with_reducible first|exact HB.out|apply below_alloc|apply pw_below_drewN|apply below_drew1)|exact HB.out))):w.heap.size≤gb117));clear HB;have HB:=n0_;have BK117:=n1_;have GW117:=n2_;have GE117:=n3_;clear n0_ n1_ n2_ n3_;clear hb hbox hg))
 (try simp only [Act.put,List.setIfInBounds_toArray,List.set_cons_zero,List.set_cons_succ])
 go_cut [3] (fun v3 wc=>∃ (kq:Nat) (x3_1:Bool),v3=.bool x3_1∧Aside0 (heard_Check.j0 kq x3_1 a0_0 l0_1 l0_2=some r)∧Aside0 (kq≤k)∧Aside0 (wc.heap[gb117]?=some (.cells #[.int .i64 a0_0,(.slice A0_1 l0_1.length c0_1),(.slice A0_2 l0_2.length c0_2)] 27 (0,0)))∧Aside0 (Below w.heap.size w wc))
 case first =>
  have H:=HC2.out
  clear HC2
  replace H:=Option.bind_eq_some_iff.mp H
  obtain ⟨t118,A40,H⟩:=H
  try dsimp only at H
  have A4:=Aside0.mk A40
  clear A40
  by_cases c5:t118=0
  ·rw [if_pos c5] at H
   have c5b0:(t118 == 0)=true:=beq_iff_eq.mpr c5
   have c5b1:(t118 != 0)=false:=bne_eq_false_iff_eq.mpr c5
   clear c5
   (first|rw [c5b0]|(simp only [i64_w,i32_w];rw [c5b0])|skip)
   replace H:=Option.bind_eq_some_iff.mp H
   obtain ⟨t119,A60,H⟩:=H
   try dsimp only at H
   have A6:=Aside0.mk A60
   clear A60
   have H':=Aside0.mk H
   clear H
   have hcz7_0:w3.cell? ⟨gb117,0,none⟩=some (.int .i64 a0_0):=(blk_cell BK117.out 0).trans rfl
   have hcz7_1:w3.cell? ⟨gb117,1,none⟩=some (.slice A0_1 l0_1.length c0_1):=(blk_cell BK117.out 1).trans rfl
   have hcz7_2:w3.cell? ⟨gb117,2,none⟩=some (.slice A0_2 l0_2.length c0_2):=(blk_cell BK117.out 2).trans rfl
   have hfz7_0:=blk_frozen BK117.out 0
   have hfz7_1:=blk_frozen BK117.out 1
   have hfz7_2:=blk_frozen BK117.out 2
   go_wp2_with (first|((with_reducible refine gate_callee (f:=64) rfl ?_);refine goesL_ (some 8) rfl rfl Tryd.func64 (by kernel_rfl) rfl #[.agg #[.int .i64 a0_0,.slice A0_1 l0_1.length c0_1]] rfl (by (try simp only [List.map_toArray,List.map_cons,List.map_nil]);first|done|rfl|(simp only [List.length_drop,List.length_take];rfl)) ?_;(with_reducible refine (cycle_Check.calls k a0_0 _ _ l0_1 t118 _ ?side1 ?side2 A4.out).mono ?_);(case side1=>repeat (first|exact (Kd.C_below HR0_1.out HB.out)|(with_reducible refine Kd.C_alloc ?_ _)|(with_reducible refine Kd.C_drewN ?_ _)|(with_reducible refine Kd.C_drew ?_)));(case side2=>exact HC0_1.out);rintro e w8 ⟨rfl,hb⟩;refine ⟨_,rfl,?_⟩;have n0_:=Aside0.mk (blk_below (g:=gb117) (o:=.cells #[.int .i64 a0_0,.slice A0_1 l0_1.length c0_1,.slice A0_2 l0_2.length c0_2] 27 (0,0)) (by (with_reducible repeat (first|refine blk_drewN ?_ _|refine blk_drew ?_|refine blk_alloc ?_ _));exact BK117.out) hb);have n1_:=Aside0.mk (below_step (by repeat (first|(with_reducible first|exact HB.out|apply below_alloc|apply pw_below_drewN|apply below_drew1|refine below_set ?_ GE117.out)|exact HB.out)) hb);clear BK117;clear HB;have BK117:=n0_;have HB:=n1_;clear n0_ n1_;(try clear hb);(try clear hb2);(try clear hk);(try clear hi);have hcz9_0:w8.cell? ⟨gb117,0,none⟩=some (.int .i64 a0_0):=(blk_cell BK117.out 0).trans rfl;have hcz9_1:w8.cell? ⟨gb117,1,none⟩=some (.slice A0_1 l0_1.length c0_1):=(blk_cell BK117.out 1).trans rfl;have hcz9_2:w8.cell? ⟨gb117,2,none⟩=some (.slice A0_2 l0_2.length c0_2):=(blk_cell BK117.out 2).trans rfl;have hfz9_0:=blk_frozen BK117.out 0;have hfz9_1:=blk_frozen BK117.out 1;have hfz9_2:=blk_frozen BK117.out 2)|(go_at_call 65;(with_reducible refine (heard_lies.calls (l0_2.length:Int) 1 6 t119 _ A6.out).mono ?_);rintro e w' ⟨rfl,⟨nd,rfl⟩⟩))
   go_meet
   case rel=>exact ⟨_,(t119),(by first|rfl|(simp;done)|(simp [*];done)),H',⟨by first|omega|exact Nat.le_refl _⟩,⟨by (with_reducible repeat (first|refine blk_drewN ?_ _|refine blk_drew ?_|refine blk_alloc ?_ _));exact BK117.out⟩,⟨by repeat (first|(with_reducible first|exact HB.out|apply below_alloc|apply pw_below_drewN|apply below_drew1|refine below_set ?_ GE117.out)|exact HB.out)⟩⟩
  ·rw [if_neg c5] at H
   have c5b0:(t118 == 0)=false:=beq_eq_false_iff_ne.mpr c5
   have c5b1:(t118 != 0)=true:=bne_iff_ne.mpr c5
   (first|rw [c5b0]|(simp only [i64_w,i32_w];rw [c5b0])|skip)
   have H':=Aside0.mk H
   clear H
   have hcz10_0:w3.cell? ⟨gb117,0,none⟩=some (.int .i64 a0_0):=(blk_cell BK117.out 0).trans rfl
   have hcz10_1:w3.cell? ⟨gb117,1,none⟩=some (.slice A0_1 l0_1.length c0_1):=(blk_cell BK117.out 1).trans rfl
   have hcz10_2:w3.cell? ⟨gb117,2,none⟩=some (.slice A0_2 l0_2.length c0_2):=(blk_cell BK117.out 2).trans rfl
   have hfz10_0:=blk_frozen BK117.out 0
   have hfz10_1:=blk_frozen BK117.out 1
   have hfz10_2:=blk_frozen BK117.out 2
   go_wp2_with (first|((with_reducible refine gate_callee (f:=64) rfl ?_);refine goesL_ (some 8) rfl rfl Tryd.func64 (by kernel_rfl) rfl #[.agg #[.int .i64 a0_0,.slice A0_1 l0_1.length c0_1]] rfl (by (try simp only [List.map_toArray,List.map_cons,List.map_nil]);first|done|rfl|(simp only [List.length_drop,List.length_take];rfl)) ?_;(with_reducible refine (cycle_Check.calls k a0_0 _ _ l0_1 t118 _ ?side1 ?side2 A4.out).mono ?_);(case side1=>repeat (first|exact (Kd.C_below HR0_1.out HB.out)|(with_reducible refine Kd.C_alloc ?_ _)|(with_reducible refine Kd.C_drewN ?_ _)|(with_reducible refine Kd.C_drew ?_)));(case side2=>exact HC0_1.out);rintro e w11 ⟨rfl,hb⟩;refine ⟨_,rfl,?_⟩;have n0_:=Aside0.mk (blk_below (g:=gb117) (o:=.cells #[.int .i64 a0_0,.slice A0_1 l0_1.length c0_1,.slice A0_2 l0_2.length c0_2] 27 (0,0)) (by (with_reducible repeat (first|refine blk_drewN ?_ _|refine blk_drew ?_|refine blk_alloc ?_ _));exact BK117.out) hb);have n1_:=Aside0.mk (below_step (by repeat (first|(with_reducible first|exact HB.out|apply below_alloc|apply pw_below_drewN|apply below_drew1|refine below_set ?_ GE117.out)|exact HB.out)) hb);clear BK117;clear HB;have BK117:=n0_;have HB:=n1_;clear n0_ n1_;(try clear hb);(try clear hb2);(try clear hk);(try clear hi)))
   go_meet
   case rel=>exact ⟨_,(false),(by first|rfl|(simp;done)|(simp [*];done)),H',⟨by first|omega|exact Nat.le_refl _⟩,⟨by (with_reducible repeat (first|refine blk_drewN ?_ _|refine blk_drew ?_|refine blk_alloc ?_ _));exact BK117.out⟩,⟨by repeat (first|(with_reducible first|exact HB.out|apply below_alloc|apply pw_below_drewN|apply below_drew1|refine below_set ?_ GE117.out)|exact HB.out)⟩⟩
 case rest =>
  clear HC2
  try clear c1
  try clear p2
  try clear c5
  try clear c5b0
  try clear c5b1
  try clear c6
  try clear hcz10_0
  try clear hcz10_1
  try clear hcz10_2
  try clear hcz7_0
  try clear hcz7_1
  try clear hcz7_2
  try clear hcz9_0
  try clear hcz9_1
  try clear hcz9_2
  try clear hfz10_0
  try clear hfz10_1
  try clear hfz10_2
  try clear hfz7_0
  try clear hfz7_1
  try clear hfz7_2
  try clear hfz9_0
  try clear hfz9_1
  try clear hfz9_2
  obtain ⟨kq,x3_1,rfl,HA,HJ1,BK117,HB⟩:=hcut
  cases kq with
  | zero=>exact absurd HA.out (by simp [heard_Check.j0])
  | succ kj1 =>
   have H:=HA.out
   clear HA
   simp only [heard_Check.j0] at H
   have H':=Aside0.mk H
   clear H
   have hcz12_0:wc.cell? ⟨gb117,0,none⟩=some (.int .i64 a0_0):=(blk_cell BK117.out 0).trans rfl
   have hcz12_1:wc.cell? ⟨gb117,1,none⟩=some (.slice A0_1 l0_1.length c0_1):=(blk_cell BK117.out 1).trans rfl
   have hcz12_2:wc.cell? ⟨gb117,2,none⟩=some (.slice A0_2 l0_2.length c0_2):=(blk_cell BK117.out 2).trans rfl
   have hfz12_0:=blk_frozen BK117.out 0
   have hfz12_1:=blk_frozen BK117.out 1
   have hfz12_2:=blk_frozen BK117.out 2
   go_wp2
   go_loopg [3,19] kj1 (fun kq v3 v19 w'=>∃ (x3_2:Bool) (x19_2:Int),v3=.bool x3_2∧v19=.int .i64 x19_2∧Aside0 (heard_Check.l0 kq x3_2 l0_2 (l0_2.length:Int) x19_2 a0_0 l0_1 l0_2=some r)∧Aside0 (kq≤kj1)∧Aside0 (w'.heap[gb117]?=some (.cells #[.int .i64 a0_0,(.slice A0_1 l0_1.length c0_1),(.slice A0_2 l0_2.length c0_2)] 27 (0,0)))∧Aside0 (Below w.heap.size w w'))
   case atStart=>exact ⟨(x3_1),(0),(by first|rfl|(simp;done)|(simp [*];done)),(by first|rfl|(simp;done)|(simp [*];done)),H',⟨Nat.le_refl _⟩,⟨by (with_reducible repeat (first|refine blk_drewN ?_ _|refine blk_drew ?_|refine blk_alloc ?_ _));exact BK117.out⟩,⟨by repeat (first|(with_reducible first|exact HB.out|apply below_alloc|apply pw_below_drewN|apply below_drew1|refine below_set ?_ GE117.out)|exact HB.out)⟩⟩
   case round =>
    clear H'
    try clear c1
    try clear p2
    try clear c5
    try clear c5b0
    try clear c5b1
    try clear c6
    try clear hcz10_0
    try clear hcz10_1
    try clear hcz10_2
    try clear hcz12_0
    try clear hcz12_1
    try clear hcz12_2
    try clear hcz7_0
    try clear hcz7_1
    try clear hcz7_2
    try clear hcz9_0
    try clear hcz9_1
    try clear hcz9_2
    try clear hfz10_0
    try clear hfz10_1
    try clear hfz10_2
    try clear hfz12_0
    try clear hfz12_1
    try clear hfz12_2
    try clear hfz7_0
    try clear hfz7_1
    try clear hfz7_2
    try clear hfz9_0
    try clear hfz9_1
    try clear hfz9_2
    try clear p2
    obtain ⟨x3_2,x19_2,rfl,rfl,HA,HK2,BK117,HB⟩:=hrel
    cases gk with
    | zero=>exact absurd HA.out (by simp [heard_Check.l0])
    | succ k2 =>
     have H:=HA.out
     clear HA
     simp only [heard_Check.l0] at H
     by_cases c13:x19_2<(l0_2.length:Int)
     ·rw [if_pos c13] at H
      have c13b0:decide (x19_2<(l0_2.length:Int))=true:=decide_eq_true c13
      clear c13
      by_cases c14:0≤x19_2
      ·rw [if_pos c14] at H
       have c14b0:decide (0≤x19_2)=true:=decide_eq_true c14
       clear c14
       by_cases c15:x19_2<(l0_2.length:Int)
       ·rw [if_pos c15] at H
        have c15b0:decide (x19_2<(l0_2.length:Int))=true:=decide_eq_true c15
        clear c15
        by_cases c16:x3_2=true
        ·subst c16
         rw [if_pos rfl] at H
         replace H:=Option.bind_eq_some_iff.mp H
         obtain ⟨t122,A170,H⟩:=H
         try dsimp only at H
         have A17:=Aside0.mk A170
         clear A170
         by_cases c18:t122=true
         ·subst c18
          rw [if_pos rfl] at H
          replace H:=Option.bind_eq_some_iff.mp H
          obtain ⟨t123,A190,H⟩:=H
          try dsimp only at H
          have A19:=Aside0.mk A190
          clear A190
          have H':=Aside0.mk H
          clear H
          have p120:0≤(x19_2:Int):=of_decide_eq_true (by first|(with_reducible assumption)|assumption)
          have q120:x19_2<(l0_2.length:Int):=of_decide_eq_true (by first|(with_reducible assumption)|assumption)
          obtain ⟨ad120,A120_1,c120_1,e120,hx120_0,hx120_1,hl120_1,hi120_1⟩:=at_T62 HR0_2.out x19_2 p120 q120
          cases e120
          replace hx120_0:=(HB.out.cell (World.block_lt_of_cell? w _ hx120_0)).trans hx120_0
          replace hx120_1:=(HB.out.cell (World.block_lt_of_cell? w _ hx120_1)).trans hx120_1
          have HR120_1:=Aside0.mk hi120_1
          have HC120_1:=Aside0.mk hl120_1
          clear hi120_1 hl120_1
          replace p120:=eq_true p120
          replace q120:=eq_true q120
          go_wp2_with (first|((with_reducible refine gate_dst (N:=5) rfl ?_);(try (refine gate_guard (by rfl) ?_;dsimp only));refine box_event ?hg (N:=5) ?hd (cs:=#[.int .i64 0,.slice none 0 0]) (t:=62) ?hr ?_;(case hd=>rfl);(case hg=>rfl);(case hr=>first|(go_simp;done)|(go_simp;rfl));intro gb121 hg w20 hbox hb;have n0_:=Aside0.mk (blk_below (g:=gb117) (o:=.cells #[.int .i64 a0_0,.slice A0_1 l0_1.length c0_1,.slice (some ad120) l0_2.length c0_2] 27 (0,0)) (by (with_reducible repeat (first|refine blk_drewN ?_ _|refine blk_drew ?_|refine blk_alloc ?_ _));exact BK117.out) hb);have n1_:=Aside0.mk (below_step (by repeat (first|(with_reducible first|exact HB.out|apply below_alloc|apply pw_below_drewN|apply below_drew1|refine below_set ?_ GE117.out)|exact HB.out)) hb);have n2_:=Aside0.mk (hbox);have n3_:=Aside0.mk ((by rw [hg];exact (below_size (by repeat (first|(with_reducible first|exact HB.out|apply below_alloc|apply pw_below_drewN|apply below_drew1|refine below_set ?_ GE117.out)|exact HB.out))):w.heap.size≤gb121));have n4_:=Aside0.mk ((by rw [hg];exact (below_size (by repeat (first|(with_reducible first|exact HB.out|apply below_alloc|apply pw_below_drewN|apply below_drew1|refine below_set ?_ GE117.out)|exact HB.out))):w.heap.size≤gb121));have n5_:=Aside0.mk ((by rw [hg];exact Nat.ne_of_lt (blk_lt (g:=gb117) (o:=.cells #[.int .i64 a0_0,.slice A0_1 l0_1.length c0_1,.slice (some ad120) l0_2.length c0_2] 27 (0,0)) (by (with_reducible repeat (first|refine blk_drewN ?_ _|refine blk_drew ?_|refine blk_alloc ?_ _));exact BK117.out)):gb117≠gb121));have n6_:=Aside0.mk ((by rw [hg];exact Nat.ne_of_gt (blk_lt (g:=gb117) (o:=.cells #[.int .i64 a0_0,.slice A0_1 l0_1.length c0_1,.slice (some ad120) l0_2.length c0_2] 27 (0,0)) (by (with_reducible repeat (first|refine blk_drewN ?_ _|refine blk_drew ?_|refine blk_alloc ?_ _));exact BK117.out)):gb121≠gb117));clear BK117;clear HB;have BK117:=n0_;have HB:=n1_;have BK121:=n2_;have GW121:=n3_;have GE121:=n4_;have NB117_121:=n5_;have NB121_117:=n6_;clear n0_ n1_ n2_ n3_ n4_ n5_ n6_;clear hb hbox hg;have hnb21:=NB121_117.out;have hnc21:=NB117_121.out;have hcz22_0:w20.cell? ⟨gb121,0,none⟩=some (.int .i64 0):=(blk_cell BK121.out 0).trans rfl;have hcz22_1:w20.cell? ⟨gb121,1,none⟩=some (.slice none 0 0):=(blk_cell BK121.out 1).trans rfl;have hfz22_0:=blk_frozen BK121.out 0;have hfz22_1:=blk_frozen BK121.out 1;have hcz23_0:w20.cell? ⟨gb117,0,none⟩=some (.int .i64 a0_0):=(blk_cell BK117.out 0).trans rfl;have hcz23_1:w20.cell? ⟨gb117,1,none⟩=some (.slice A0_1 l0_1.length c0_1):=(blk_cell BK117.out 1).trans rfl;have hcz23_2:w20.cell? ⟨gb117,2,none⟩=some (.slice (some ad120) l0_2.length c0_2):=(blk_cell BK117.out 2).trans rfl;have hfz23_0:=blk_frozen BK117.out 0;have hfz23_1:=blk_frozen BK117.out 1;have hfz23_2:=blk_frozen BK117.out 2)|(go_at_call 65;(with_reducible refine (heard_lies.calls ((rd_T62 l0_2 x19_2).f0) 0 (wrap64 ((l0_1.length:Int) - 1)) true _ A17.out).mono ?_);rintro e w' ⟨rfl,⟨nd,rfl⟩⟩)|(go_at_call 66;(with_reducible refine (heard_areTones.calls _ _ ((rd_T62 l0_2 x19_2).f1) 1 t123 _ ?side1 ?side2 A19.out).mono ?_);(case side1=>exact Kd.C_below HR120_1.out (by repeat (first|(with_reducible first|exact HB.out|apply below_alloc|apply pw_below_drewN|apply below_drew1|refine below_set ?_ GE117.out|refine below_set ?_ GE121.out)|exact HB.out)));(case side2=>exact HC120_1.out);rintro e w' ⟨rfl,⟨nd,rfl⟩⟩))
          go_roundg k2
          case measure=>have:=HJ1.out;have:=HK2.out;omega
          case rel=>exact ⟨(t123),(wrap64 (x19_2+1)),(by first|rfl|(simp;done)|(simp [*];done)),(by first|rfl|(simp;done)|(simp [*];done)),H',⟨by have:=HJ1.out;have:=HK2.out;omega⟩,⟨by (with_reducible repeat (first|refine blk_drewN ?_ _|refine blk_drew ?_|refine blk_alloc ?_ _));refine blk_far ?_ NB117_121.out _;(with_reducible repeat (first|refine blk_drewN ?_ _|refine blk_drew ?_|refine blk_alloc ?_ _));refine blk_far ?_ NB117_121.out _;(with_reducible repeat (first|refine blk_drewN ?_ _|refine blk_drew ?_|refine blk_alloc ?_ _));exact BK117.out⟩,⟨by repeat (first|(with_reducible first|exact HB.out|apply below_alloc|apply pw_below_drewN|apply below_drew1|refine below_set ?_ GE117.out|refine below_set ?_ GE121.out)|exact HB.out)⟩⟩
         ·replace c18:=Bool.eq_false_iff.mpr c18
          subst c18
          rw [if_neg (show ¬ (false=true) by decide)] at H
          have H':=Aside0.mk H
          clear H
          have p120:0≤(x19_2:Int):=of_decide_eq_true (by first|(with_reducible assumption)|assumption)
          have q120:x19_2<(l0_2.length:Int):=of_decide_eq_true (by first|(with_reducible assumption)|assumption)
          obtain ⟨ad120,A120_1,c120_1,e120,hx120_0,hx120_1,hl120_1,hi120_1⟩:=at_T62 HR0_2.out x19_2 p120 q120
          cases e120
          replace hx120_0:=(HB.out.cell (World.block_lt_of_cell? w _ hx120_0)).trans hx120_0
          replace hx120_1:=(HB.out.cell (World.block_lt_of_cell? w _ hx120_1)).trans hx120_1
          have HR120_1:=Aside0.mk hi120_1
          have HC120_1:=Aside0.mk hl120_1
          clear hi120_1 hl120_1
          replace p120:=eq_true p120
          replace q120:=eq_true q120
          go_wp2_with (first|((with_reducible refine gate_dst (N:=5) rfl ?_);(try (refine gate_guard (by rfl) ?_;dsimp only));refine box_event ?hg (N:=5) ?hd (cs:=#[.int .i64 0,.slice none 0 0]) (t:=62) ?hr ?_;(case hd=>rfl);(case hg=>rfl);(case hr=>first|(go_simp;done)|(go_simp;rfl));intro gb121 hg w24 hbox hb;have n0_:=Aside0.mk (blk_below (g:=gb117) (o:=.cells #[.int .i64 a0_0,.slice A0_1 l0_1.length c0_1,.slice (some ad120) l0_2.length c0_2] 27 (0,0)) (by (with_reducible repeat (first|refine blk_drewN ?_ _|refine blk_drew ?_|refine blk_alloc ?_ _));exact BK117.out) hb);have n1_:=Aside0.mk (below_step (by repeat (first|(with_reducible first|exact HB.out|apply below_alloc|apply pw_below_drewN|apply below_drew1|refine below_set ?_ GE117.out)|exact HB.out)) hb);have n2_:=Aside0.mk (hbox);have n3_:=Aside0.mk ((by rw [hg];exact (below_size (by repeat (first|(with_reducible first|exact HB.out|apply below_alloc|apply pw_below_drewN|apply below_drew1|refine below_set ?_ GE117.out)|exact HB.out))):w.heap.size≤gb121));have n4_:=Aside0.mk ((by rw [hg];exact (below_size (by repeat (first|(with_reducible first|exact HB.out|apply below_alloc|apply pw_below_drewN|apply below_drew1|refine below_set ?_ GE117.out)|exact HB.out))):w.heap.size≤gb121));have n5_:=Aside0.mk ((by rw [hg];exact Nat.ne_of_lt (blk_lt (g:=gb117) (o:=.cells #[.int .i64 a0_0,.slice A0_1 l0_1.length c0_1,.slice (some ad120) l0_2.length c0_2] 27 (0,0)) (by (with_reducible repeat (first|refine blk_drewN ?_ _|refine blk_drew ?_|refine blk_alloc ?_ _));exact BK117.out)):gb117≠gb121));have n6_:=Aside0.mk ((by rw [hg];exact Nat.ne_of_gt (blk_lt (g:=gb117) (o:=.cells #[.int .i64 a0_0,.slice A0_1 l0_1.length c0_1,.slice (some ad120) l0_2.length c0_2] 27 (0,0)) (by (with_reducible repeat (first|refine blk_drewN ?_ _|refine blk_drew ?_|refine blk_alloc ?_ _));exact BK117.out)):gb121≠gb117));clear BK117;clear HB;have BK117:=n0_;have HB:=n1_;have BK121:=n2_;have GW121:=n3_;have GE121:=n4_;have NB117_121:=n5_;have NB121_117:=n6_;clear n0_ n1_ n2_ n3_ n4_ n5_ n6_;clear hb hbox hg;have hnb25:=NB121_117.out;have hnc25:=NB117_121.out;have hcz26_0:w24.cell? ⟨gb121,0,none⟩=some (.int .i64 0):=(blk_cell BK121.out 0).trans rfl;have hcz26_1:w24.cell? ⟨gb121,1,none⟩=some (.slice none 0 0):=(blk_cell BK121.out 1).trans rfl;have hfz26_0:=blk_frozen BK121.out 0;have hfz26_1:=blk_frozen BK121.out 1;have hcz27_0:w24.cell? ⟨gb117,0,none⟩=some (.int .i64 a0_0):=(blk_cell BK117.out 0).trans rfl;have hcz27_1:w24.cell? ⟨gb117,1,none⟩=some (.slice A0_1 l0_1.length c0_1):=(blk_cell BK117.out 1).trans rfl;have hcz27_2:w24.cell? ⟨gb117,2,none⟩=some (.slice (some ad120) l0_2.length c0_2):=(blk_cell BK117.out 2).trans rfl;have hfz27_0:=blk_frozen BK117.out 0;have hfz27_1:=blk_frozen BK117.out 1;have hfz27_2:=blk_frozen BK117.out 2)|(go_at_call 65;(with_reducible refine (heard_lies.calls ((rd_T62 l0_2 x19_2).f0) 0 (wrap64 ((l0_1.length:Int) - 1)) false _ A17.out).mono ?_);rintro e w' ⟨rfl,⟨nd,rfl⟩⟩))
          go_roundg k2
          case measure=>have:=HJ1.out;have:=HK2.out;omega
          case rel=>exact ⟨(false),(wrap64 (x19_2+1)),(by first|rfl|(simp;done)|(simp [*];done)),(by first|rfl|(simp;done)|(simp [*];done)),H',⟨by have:=HJ1.out;have:=HK2.out;omega⟩,⟨by (with_reducible repeat (first|refine blk_drewN ?_ _|refine blk_drew ?_|refine blk_alloc ?_ _));refine blk_far ?_ NB117_121.out _;(with_reducible repeat (first|refine blk_drewN ?_ _|refine blk_drew ?_|refine blk_alloc ?_ _));refine blk_far ?_ NB117_121.out _;(with_reducible repeat (first|refine blk_drewN ?_ _|refine blk_drew ?_|refine blk_alloc ?_ _));exact BK117.out⟩,⟨by repeat (first|(with_reducible first|exact HB.out|apply below_alloc|apply pw_below_drewN|apply below_drew1|refine below_set ?_ GE117.out|refine below_set ?_ GE121.out)|exact HB.out)⟩⟩
        ·replace c16:=Bool.eq_false_iff.mpr c16
         subst c16
         rw [if_neg (show ¬ (false=true) by decide)] at H
         have H':=Aside0.mk H
         clear H
         have p120:0≤(x19_2:Int):=of_decide_eq_true (by first|(with_reducible assumption)|assumption)
         have q120:x19_2<(l0_2.length:Int):=of_decide_eq_true (by first|(with_reducible assumption)|assumption)
         obtain ⟨ad120,A120_1,c120_1,e120,hx120_0,hx120_1,hl120_1,hi120_1⟩:=at_T62 HR0_2.out x19_2 p120 q120
         cases e120
         replace hx120_0:=(HB.out.cell (World.block_lt_of_cell? w _ hx120_0)).trans hx120_0
         replace hx120_1:=(HB.out.cell (World.block_lt_of_cell? w _ hx120_1)).trans hx120_1
         have HR120_1:=Aside0.mk hi120_1
         have HC120_1:=Aside0.mk hl120_1
         clear hi120_1 hl120_1
         replace p120:=eq_true p120
         replace q120:=eq_true q120
         go_wp2_with (first|((with_reducible refine gate_dst (N:=5) rfl ?_);(try (refine gate_guard (by rfl) ?_;dsimp only));refine box_event ?hg (N:=5) ?hd (cs:=#[.int .i64 0,.slice none 0 0]) (t:=62) ?hr ?_;(case hd=>rfl);(case hg=>rfl);(case hr=>first|(go_simp;done)|(go_simp;rfl));intro gb121 hg w28 hbox hb;have n0_:=Aside0.mk (blk_below (g:=gb117) (o:=.cells #[.int .i64 a0_0,.slice A0_1 l0_1.length c0_1,.slice (some ad120) l0_2.length c0_2] 27 (0,0)) (by (with_reducible repeat (first|refine blk_drewN ?_ _|refine blk_drew ?_|refine blk_alloc ?_ _));exact BK117.out) hb);have n1_:=Aside0.mk (below_step (by repeat (first|(with_reducible first|exact HB.out|apply below_alloc|apply pw_below_drewN|apply below_drew1|refine below_set ?_ GE117.out)|exact HB.out)) hb);have n2_:=Aside0.mk (hbox);have n3_:=Aside0.mk ((by rw [hg];exact (below_size (by repeat (first|(with_reducible first|exact HB.out|apply below_alloc|apply pw_below_drewN|apply below_drew1|refine below_set ?_ GE117.out)|exact HB.out))):w.heap.size≤gb121));have n4_:=Aside0.mk ((by rw [hg];exact (below_size (by repeat (first|(with_reducible first|exact HB.out|apply below_alloc|apply pw_below_drewN|apply below_drew1|refine below_set ?_ GE117.out)|exact HB.out))):w.heap.size≤gb121));have n5_:=Aside0.mk ((by rw [hg];exact Nat.ne_of_lt (blk_lt (g:=gb117) (o:=.cells #[.int .i64 a0_0,.slice A0_1 l0_1.length c0_1,.slice (some ad120) l0_2.length c0_2] 27 (0,0)) (by (with_reducible repeat (first|refine blk_drewN ?_ _|refine blk_drew ?_|refine blk_alloc ?_ _));exact BK117.out)):gb117≠gb121));have n6_:=Aside0.mk ((by rw [hg];exact Nat.ne_of_gt (blk_lt (g:=gb117) (o:=.cells #[.int .i64 a0_0,.slice A0_1 l0_1.length c0_1,.slice (some ad120) l0_2.length c0_2] 27 (0,0)) (by (with_reducible repeat (first|refine blk_drewN ?_ _|refine blk_drew ?_|refine blk_alloc ?_ _));exact BK117.out)):gb121≠gb117));clear BK117;clear HB;have BK117:=n0_;have HB:=n1_;have BK121:=n2_;have GW121:=n3_;have GE121:=n4_;have NB117_121:=n5_;have NB121_117:=n6_;clear n0_ n1_ n2_ n3_ n4_ n5_ n6_;clear hb hbox hg;have hnb29:=NB121_117.out;have hnc29:=NB117_121.out;have hcz30_0:w28.cell? ⟨gb121,0,none⟩=some (.int .i64 0):=(blk_cell BK121.out 0).trans rfl;have hcz30_1:w28.cell? ⟨gb121,1,none⟩=some (.slice none 0 0):=(blk_cell BK121.out 1).trans rfl;have hfz30_0:=blk_frozen BK121.out 0;have hfz30_1:=blk_frozen BK121.out 1))
         go_roundg k2
         case measure=>have:=HJ1.out;have:=HK2.out;omega
         case rel=>exact ⟨(false),(wrap64 (x19_2+1)),(by first|rfl|(simp;done)|(simp [*];done)),(by first|rfl|(simp;done)|(simp [*];done)),H',⟨by have:=HJ1.out;have:=HK2.out;omega⟩,⟨by (with_reducible repeat (first|refine blk_drewN ?_ _|refine blk_drew ?_|refine blk_alloc ?_ _));refine blk_far ?_ NB117_121.out _;(with_reducible repeat (first|refine blk_drewN ?_ _|refine blk_drew ?_|refine blk_alloc ?_ _));refine blk_far ?_ NB117_121.out _;(with_reducible repeat (first|refine blk_drewN ?_ _|refine blk_drew ?_|refine blk_alloc ?_ _));exact BK117.out⟩,⟨by repeat (first|(with_reducible first|exact HB.out|apply below_alloc|apply pw_below_drewN|apply below_drew1|refine below_set ?_ GE117.out|refine below_set ?_ GE121.out)|exact HB.out)⟩⟩
       ·rw [if_neg c15] at H
        exact absurd H (by simp)
      ·rw [if_neg c14] at H
       exact absurd H (by simp)
     ·rw [if_neg c13] at H
      have c13b0:decide (x19_2<(l0_2.length:Int))=false:=decide_eq_false c13
      clear c13
      by_cases c31:x3_2=true
      ·subst c31
       rw [if_pos rfl] at H
       obtain rfl:=Option.some.inj H
       go_wp2
       go_ret
       exact ⟨by first|rfl|(simp [errW_none,errW_some] <;> rfl)|(simp [*,errW_none,errW_some] <;> rfl),by repeat (first|(with_reducible first|exact HB.out|apply below_alloc|apply pw_below_drewN|apply below_drew1|refine below_set ?_ GE117.out)|exact HB.out)⟩
      ·replace c31:=Bool.eq_false_iff.mpr c31
       subst c31
       rw [if_neg (show ¬ (false=true) by decide)] at H
       obtain rfl:=Option.some.inj H
       go_wp2
       go_ret
       exact ⟨by first|rfl|(simp [errW_none,errW_some] <;> rfl)|(simp [*,errW_none,errW_some] <;> rfl),by repeat (first|(with_reducible first|exact HB.out|apply below_alloc|apply pw_below_drewN|apply below_drew1|refine below_set ?_ GE117.out)|exact HB.out)⟩
end Go.Proofs.YthnilelmhpmanaaDoor.PHeardFits
end
section
namespace Go.Proofs.YthnilelmhpmanaaDoor.PHeardFits
open Go.RowKit Go.Proofs.YthnilelmhpmanaaDoorW.PrintWords Go.Proofs.YthnilelmhpmanaaDoorW.PrintLast Go.Proofs.YthnilelmhpmanaaDoorW.PrintMore
attribute [local go_sem] max2_int min2_int max_two min_two max_three min_three max_four min_four
set_option linter.unusedVariables false
set_option linter.unusedSimpArgs false
def heard_isNote.l0:Nat→Int→List Int→Int→Int→List Int→List Int→Int→Int→Option (Bool)
 | 0,_,_,_,_,_,_,_,_=>none
 | k+1,x3,x7,x8,x9,x125000,x125001,x125002,x125003=>if x9<x8 then (if 0≤x9 then (if x9<(x7.length:Int) then ((heard_lies.f (rd x7 x9) (wrap64 (x3+1)) (wrap64 ((x125000.length:Int) - 1))).bind fun t126=>(if t126=true then (heard_isNote.l0 k (rd x7 x9) x7 x8 (wrap64 (x9+1)) x125000 x125001 x125002 x125003) else (some false))) else (none)) else (none)) else ((heard_areTones.f x125000 1).bind fun t127=>(if t127=true then ((heard_lies.f x125002 0 6).bind fun t128=>(if t128=true then ((heard_lies.f x125003 0 6).bind fun t129=>(some t129)) else (some false))) else (some false)))
def heard_isNote.f (k:Nat) (l0_0:List Int) (l0_1:List Int) (a0_2:Int) (a0_3:Int):Option (Bool):=heard_isNote.l0 k (-1) l0_1 (l0_1.length:Int) 0 l0_0 l0_1 a0_2 a0_3
set_option maxHeartbeats 8000000 in
set_option maxRecDepth 100000 in
theorem heard_isNote.calls (k:Nat) (A0_0:Option Addr) (c0_0:Nat) (l0_0:List Int) (A0_1:Option Addr) (c0_1:Nat) (l0_1:List Int) (a0_2:Int) (a0_3:Int) (r:Bool) (w:World) (hr0_0:Kd.C (Kd.int .i64) w A0_0 l0_0.length l0_0) (hc0_0:l0_0.length≤c0_0) (hr0_1:Kd.C (Kd.int .i64) w A0_1 l0_1.length l0_1) (hc0_1:l0_1.length≤c0_1) (h:heard_isNote.f k l0_0 l0_1 a0_2 a0_3=some r) :
  Calls Tryd.prog 77 #[.agg #[.slice A0_0 l0_0.length c0_0,.slice A0_1 l0_1.length c0_1,.int .i64 a0_2,.int .i64 a0_3]] w fun e w'=>e=.returned (.bool r)∧Below w.heap.size w w':=by
 have hu30:=Tryd.underlying30
 have HR0_0:=Aside0.mk hr0_0
 have HC0_0:=Aside0.mk hc0_0
 clear hr0_0 hc0_0
 have HR0_1:=Aside0.mk hr0_1
 have HC0_1:=Aside0.mk hc0_1
 clear hr0_1 hc0_1
 have HB:=Aside0.mk (Below.refl w.heap.size w)
 have H:(heard_isNote.l0 k (-1) l0_1 (l0_1.length:Int) 0 l0_0 l0_1 a0_2 a0_3)=some r:=h
 clear h
 have H':=Aside0.mk H
 clear H
 go_enter Tryd.func77,Tryd.ntmps77
 go_wp2_with (first|((with_reducible refine gate_dst (N:=1) rfl ?_);refine box_event ?hg (N:=1) ?hd (cs:=#[.slice A0_0 l0_0.length c0_0,.slice A0_1 l0_1.length c0_1,.int .i64 a0_2,.int .i64 a0_3]) (t:=30) ?hr ?_;(case hd=>rfl);(case hg=>rfl);(case hr=>first|(go_simp;done)|(go_simp;rfl));intro gb124 hg w2 hbox hb;have n0_:=Aside0.mk (below_step (by repeat (first|(with_reducible first|exact HB.out|apply below_alloc|apply pw_below_drewN|apply below_drew1)|exact HB.out)) hb);have n1_:=Aside0.mk (hbox);have n2_:=Aside0.mk ((by rw [hg];exact (below_size (by repeat (first|(with_reducible first|exact HB.out|apply below_alloc|apply pw_below_drewN|apply below_drew1)|exact HB.out))):w.heap.size≤gb124));have n3_:=Aside0.mk ((by rw [hg];exact (below_size (by repeat (first|(with_reducible first|exact HB.out|apply below_alloc|apply pw_below_drewN|apply below_drew1)|exact HB.out))):w.heap.size≤gb124));clear HB;have HB:=n0_;have BK124:=n1_;have GW124:=n2_;have GE124:=n3_;clear n0_ n1_ n2_ n3_;clear hb hbox hg;have hcz3_0:w2.cell? ⟨gb124,0,none⟩=some (.slice A0_0 l0_0.length c0_0):=(blk_cell BK124.out 0).trans rfl;have hcz3_1:w2.cell? ⟨gb124,1,none⟩=some (.slice A0_1 l0_1.length c0_1):=(blk_cell BK124.out 1).trans rfl;have hcz3_2:w2.cell? ⟨gb124,2,none⟩=some (.int .i64 a0_2):=(blk_cell BK124.out 2).trans rfl;have hcz3_3:w2.cell? ⟨gb124,3,none⟩=some (.int .i64 a0_3):=(blk_cell BK124.out 3).trans rfl;have hfz3_0:=blk_frozen BK124.out 0;have hfz3_1:=blk_frozen BK124.out 1;have hfz3_2:=blk_frozen BK124.out 2;have hfz3_3:=blk_frozen BK124.out 3))
 go_loopg [3,9] k (fun kq v3 v9 w'=>∃ (x3_1:Int) (x9_1:Int),v3=.int .i64 x3_1∧v9=.int .i64 x9_1∧Aside0 (heard_isNote.l0 kq x3_1 l0_1 (l0_1.length:Int) x9_1 l0_0 l0_1 a0_2 a0_3=some r)∧Aside0 (kq≤k)∧Aside0 (w'.heap[gb124]?=some (.cells #[(.slice A0_0 l0_0.length c0_0),(.slice A0_1 l0_1.length c0_1),.int .i64 a0_2,.int .i64 a0_3] 30 (0,0)))∧Aside0 (Below w.heap.size w w'))
 case atStart=>exact ⟨((-1)),(0),(by first|rfl|(simp;done)|(simp [*];done)),(by first|rfl|(simp;done)|(simp [*];done)),H',⟨Nat.le_refl _⟩,⟨by (with_reducible repeat (first|refine blk_drewN ?_ _|refine blk_drew ?_|refine blk_alloc ?_ _));exact BK124.out⟩,⟨by repeat (first|(with_reducible first|exact HB.out|apply below_alloc|apply pw_below_drewN|apply below_drew1|refine below_set ?_ GE124.out)|exact HB.out)⟩⟩
 case round =>
  clear H'
  try clear p2
  try clear hcz3_0
  try clear hcz3_1
  try clear hcz3_2
  try clear hcz3_3
  try clear hfz3_0
  try clear hfz3_1
  try clear hfz3_2
  try clear hfz3_3
  obtain ⟨x3_1,x9_1,rfl,rfl,HA,HK1,BK124,HB⟩:=hrel
  cases gk with
  | zero=>exact absurd HA.out (by simp [heard_isNote.l0])
  | succ k1 =>
   have H:=HA.out
   clear HA
   simp only [heard_isNote.l0] at H
   by_cases c4:x9_1<(l0_1.length:Int)
   ·rw [if_pos c4] at H
    have c4b0:decide (x9_1<(l0_1.length:Int))=true:=decide_eq_true c4
    clear c4
    by_cases c5:0≤x9_1
    ·rw [if_pos c5] at H
     have c5b0:decide (0≤x9_1)=true:=decide_eq_true c5
     clear c5
     by_cases c6:x9_1<(l0_1.length:Int)
     ·rw [if_pos c6] at H
      have c6b0:decide (x9_1<(l0_1.length:Int))=true:=decide_eq_true c6
      clear c6
      replace H:=Option.bind_eq_some_iff.mp H
      obtain ⟨t126,A70,H⟩:=H
      try dsimp only at H
      have A7:=Aside0.mk A70
      clear A70
      by_cases c8:t126=true
      ·subst c8
       rw [if_pos rfl] at H
       have H':=Aside0.mk H
       clear H
       have p125:0≤(x9_1:Int):=of_decide_eq_true (by first|(with_reducible assumption)|assumption)
       have q125:x9_1<(l0_1.length:Int):=of_decide_eq_true (by first|(with_reducible assumption)|assumption)
       obtain ⟨ad125,e125,hx125_0⟩:=Kd.at_int HR0_1.out x9_1 p125 q125
       cases e125
       replace hx125_0:=(HB.out.cell (World.block_lt_of_cell? w _ hx125_0)).trans hx125_0
       replace p125:=eq_true p125
       replace q125:=eq_true q125
       have hcz9_0:wr.cell? ⟨gb124,0,none⟩=some (.slice A0_0 l0_0.length c0_0):=(blk_cell BK124.out 0).trans rfl
       have hcz9_1:wr.cell? ⟨gb124,1,none⟩=some (.slice (some ad125) l0_1.length c0_1):=(blk_cell BK124.out 1).trans rfl
       have hcz9_2:wr.cell? ⟨gb124,2,none⟩=some (.int .i64 a0_2):=(blk_cell BK124.out 2).trans rfl
       have hcz9_3:wr.cell? ⟨gb124,3,none⟩=some (.int .i64 a0_3):=(blk_cell BK124.out 3).trans rfl
       have hfz9_0:=blk_frozen BK124.out 0
       have hfz9_1:=blk_frozen BK124.out 1
       have hfz9_2:=blk_frozen BK124.out 2
       have hfz9_3:=blk_frozen BK124.out 3
       go_wp2_with (first|((with_reducible refine gate_callee (f:=65) rfl ?_);refine goesL_ (some 20) rfl rfl Tryd.func65 (by kernel_rfl) rfl #[.int .i64 (rd l0_1 x9_1),.int .i64 (wrap64 (x3_1+1)),.int .i64 (wrap64 ((l0_0.length:Int) - 1))] rfl (by (try simp only [List.map_toArray,List.map_cons,List.map_nil]);first|done|rfl|(simp only [List.length_drop,List.length_take];rfl)) ?_;(with_reducible refine (heard_lies.calls (rd l0_1 x9_1) (wrap64 (x3_1+1)) (wrap64 ((l0_0.length:Int) - 1)) true _ A7.out).mono ?_);rintro e w' ⟨rfl,⟨nd,rfl⟩⟩;refine ⟨_,rfl,?_⟩))
       go_roundg k1
       case measure=>have:=HK1.out;omega
       case rel=>exact ⟨(rd l0_1 x9_1),(wrap64 (x9_1+1)),(by first|rfl|(simp;done)|(simp [*];done)),(by first|rfl|(simp;done)|(simp [*];done)),H',⟨by have:=HK1.out;omega⟩,⟨by (with_reducible repeat (first|refine blk_drewN ?_ _|refine blk_drew ?_|refine blk_alloc ?_ _));exact BK124.out⟩,⟨by repeat (first|(with_reducible first|exact HB.out|apply below_alloc|apply pw_below_drewN|apply below_drew1|refine below_set ?_ GE124.out)|exact HB.out)⟩⟩
      ·replace c8:=Bool.eq_false_iff.mpr c8
       subst c8
       rw [if_neg (show ¬ (false=true) by decide)] at H
       obtain rfl:=Option.some.inj H
       have p125:0≤(x9_1:Int):=of_decide_eq_true (by first|(with_reducible assumption)|assumption)
       have q125:x9_1<(l0_1.length:Int):=of_decide_eq_true (by first|(with_reducible assumption)|assumption)
       obtain ⟨ad125,e125,hx125_0⟩:=Kd.at_int HR0_1.out x9_1 p125 q125
       cases e125
       replace hx125_0:=(HB.out.cell (World.block_lt_of_cell? w _ hx125_0)).trans hx125_0
       replace p125:=eq_true p125
       replace q125:=eq_true q125
       have hcz10_0:wr.cell? ⟨gb124,0,none⟩=some (.slice A0_0 l0_0.length c0_0):=(blk_cell BK124.out 0).trans rfl
       have hcz10_1:wr.cell? ⟨gb124,1,none⟩=some (.slice (some ad125) l0_1.length c0_1):=(blk_cell BK124.out 1).trans rfl
       have hcz10_2:wr.cell? ⟨gb124,2,none⟩=some (.int .i64 a0_2):=(blk_cell BK124.out 2).trans rfl
       have hcz10_3:wr.cell? ⟨gb124,3,none⟩=some (.int .i64 a0_3):=(blk_cell BK124.out 3).trans rfl
       have hfz10_0:=blk_frozen BK124.out 0
       have hfz10_1:=blk_frozen BK124.out 1
       have hfz10_2:=blk_frozen BK124.out 2
       have hfz10_3:=blk_frozen BK124.out 3
       go_wp2_with (first|((with_reducible refine gate_callee (f:=65) rfl ?_);refine goesL_ (some 20) rfl rfl Tryd.func65 (by kernel_rfl) rfl #[.int .i64 (rd l0_1 x9_1),.int .i64 (wrap64 (x3_1+1)),.int .i64 (wrap64 ((l0_0.length:Int) - 1))] rfl (by (try simp only [List.map_toArray,List.map_cons,List.map_nil]);first|done|rfl|(simp only [List.length_drop,List.length_take];rfl)) ?_;(with_reducible refine (heard_lies.calls (rd l0_1 x9_1) (wrap64 (x3_1+1)) (wrap64 ((l0_0.length:Int) - 1)) false _ A7.out).mono ?_);rintro e w' ⟨rfl,⟨nd,rfl⟩⟩;refine ⟨_,rfl,?_⟩))
       go_ret
       exact ⟨by first|rfl|(simp [errW_none,errW_some] <;> rfl)|(simp [*,errW_none,errW_some] <;> rfl),by repeat (first|(with_reducible first|exact HB.out|apply below_alloc|apply pw_below_drewN|apply below_drew1|refine below_set ?_ GE124.out)|exact HB.out)⟩
     ·rw [if_neg c6] at H
      exact absurd H (by simp)
    ·rw [if_neg c5] at H
     exact absurd H (by simp)
   ·rw [if_neg c4] at H
    have c4b0:decide (x9_1<(l0_1.length:Int))=false:=decide_eq_false c4
    clear c4
    replace H:=Option.bind_eq_some_iff.mp H
    obtain ⟨t127,A110,H⟩:=H
    try dsimp only at H
    have A11:=Aside0.mk A110
    clear A110
    by_cases c12:t127=true
    ·subst c12
     rw [if_pos rfl] at H
     replace H:=Option.bind_eq_some_iff.mp H
     obtain ⟨t128,A130,H⟩:=H
     try dsimp only at H
     have A13:=Aside0.mk A130
     clear A130
     by_cases c14:t128=true
     ·subst c14
      rw [if_pos rfl] at H
      replace H:=Option.bind_eq_some_iff.mp H
      obtain ⟨t129,A150,H⟩:=H
      try dsimp only at H
      have A15:=Aside0.mk A150
      clear A150
      obtain rfl:=Option.some.inj H
      have hcz16_0:wr.cell? ⟨gb124,0,none⟩=some (.slice A0_0 l0_0.length c0_0):=(blk_cell BK124.out 0).trans rfl
      have hcz16_1:wr.cell? ⟨gb124,1,none⟩=some (.slice A0_1 l0_1.length c0_1):=(blk_cell BK124.out 1).trans rfl
      have hcz16_2:wr.cell? ⟨gb124,2,none⟩=some (.int .i64 a0_2):=(blk_cell BK124.out 2).trans rfl
      have hcz16_3:wr.cell? ⟨gb124,3,none⟩=some (.int .i64 a0_3):=(blk_cell BK124.out 3).trans rfl
      have hfz16_0:=blk_frozen BK124.out 0
      have hfz16_1:=blk_frozen BK124.out 1
      have hfz16_2:=blk_frozen BK124.out 2
      have hfz16_3:=blk_frozen BK124.out 3
      go_wp2_with (first|((with_reducible refine gate_callee (f:=66) rfl ?_);refine goesL_ (some 26) rfl rfl Tryd.func66 (by kernel_rfl) rfl #[.slice A0_0 l0_0.length c0_0,.int .i64 1] rfl (by (try simp only [List.map_toArray,List.map_cons,List.map_nil]);first|done|rfl|(simp only [List.length_drop,List.length_take];rfl)) ?_;(with_reducible refine (heard_areTones.calls _ _ l0_0 1 true _ ?side1 ?side2 A11.out).mono ?_);(case side1=>repeat (first|exact (Kd.C_below HR0_0.out HB.out)|(with_reducible refine Kd.C_alloc ?_ _)|(with_reducible refine Kd.C_drewN ?_ _)|(with_reducible refine Kd.C_drew ?_)));(case side2=>exact HC0_0.out);rintro e w' ⟨rfl,⟨nd,rfl⟩⟩;refine ⟨_,rfl,?_⟩)|(go_at_call 65;(with_reducible refine (heard_lies.calls a0_2 0 6 true _ A13.out).mono ?_);rintro e w' ⟨rfl,⟨nd,rfl⟩⟩)|(go_at_call 65;(with_reducible refine (heard_lies.calls a0_3 0 6 t129 _ A15.out).mono ?_);rintro e w' ⟨rfl,⟨nd,rfl⟩⟩))
      go_ret
      exact ⟨by first|rfl|(simp [errW_none,errW_some] <;> rfl)|(simp [*,errW_none,errW_some] <;> rfl),by repeat (first|(with_reducible first|exact HB.out|apply below_alloc|apply pw_below_drewN|apply below_drew1|refine below_set ?_ GE124.out)|exact HB.out)⟩
     ·replace c14:=Bool.eq_false_iff.mpr c14
      subst c14
      rw [if_neg (show ¬ (false=true) by decide)] at H
      obtain rfl:=Option.some.inj H
      have hcz17_0:wr.cell? ⟨gb124,0,none⟩=some (.slice A0_0 l0_0.length c0_0):=(blk_cell BK124.out 0).trans rfl
      have hcz17_1:wr.cell? ⟨gb124,1,none⟩=some (.slice A0_1 l0_1.length c0_1):=(blk_cell BK124.out 1).trans rfl
      have hcz17_2:wr.cell? ⟨gb124,2,none⟩=some (.int .i64 a0_2):=(blk_cell BK124.out 2).trans rfl
      have hcz17_3:wr.cell? ⟨gb124,3,none⟩=some (.int .i64 a0_3):=(blk_cell BK124.out 3).trans rfl
      have hfz17_0:=blk_frozen BK124.out 0
      have hfz17_1:=blk_frozen BK124.out 1
      have hfz17_2:=blk_frozen BK124.out 2
      have hfz17_3:=blk_frozen BK124.out 3
      go_wp2_with (first|((with_reducible refine gate_callee (f:=66) rfl ?_);refine goesL_ (some 26) rfl rfl Tryd.func66 (by kernel_rfl) rfl #[.slice A0_0 l0_0.length c0_0,.int .i64 1] rfl (by (try simp only [List.map_toArray,List.map_cons,List.map_nil]);first|done|rfl|(simp only [List.length_drop,List.length_take];rfl)) ?_;(with_reducible refine (heard_areTones.calls _ _ l0_0 1 true _ ?side1 ?side2 A11.out).mono ?_);(case side1=>repeat (first|exact (Kd.C_below HR0_0.out HB.out)|(with_reducible refine Kd.C_alloc ?_ _)|(with_reducible refine Kd.C_drewN ?_ _)|(with_reducible refine Kd.C_drew ?_)));(case side2=>exact HC0_0.out);rintro e w' ⟨rfl,⟨nd,rfl⟩⟩;refine ⟨_,rfl,?_⟩)|(go_at_call 65;(with_reducible refine (heard_lies.calls a0_2 0 6 false _ A13.out).mono ?_);rintro e w' ⟨rfl,⟨nd,rfl⟩⟩))
      go_ret
      exact ⟨by first|rfl|(simp [errW_none,errW_some] <;> rfl)|(simp [*,errW_none,errW_some] <;> rfl),by repeat (first|(with_reducible first|exact HB.out|apply below_alloc|apply pw_below_drewN|apply below_drew1|refine below_set ?_ GE124.out)|exact HB.out)⟩
    ·replace c12:=Bool.eq_false_iff.mpr c12
     subst c12
     rw [if_neg (show ¬ (false=true) by decide)] at H
     obtain rfl:=Option.some.inj H
     have hcz18_0:wr.cell? ⟨gb124,0,none⟩=some (.slice A0_0 l0_0.length c0_0):=(blk_cell BK124.out 0).trans rfl
     have hcz18_1:wr.cell? ⟨gb124,1,none⟩=some (.slice A0_1 l0_1.length c0_1):=(blk_cell BK124.out 1).trans rfl
     have hcz18_2:wr.cell? ⟨gb124,2,none⟩=some (.int .i64 a0_2):=(blk_cell BK124.out 2).trans rfl
     have hcz18_3:wr.cell? ⟨gb124,3,none⟩=some (.int .i64 a0_3):=(blk_cell BK124.out 3).trans rfl
     have hfz18_0:=blk_frozen BK124.out 0
     have hfz18_1:=blk_frozen BK124.out 1
     have hfz18_2:=blk_frozen BK124.out 2
     have hfz18_3:=blk_frozen BK124.out 3
     go_wp2_with (first|((with_reducible refine gate_callee (f:=66) rfl ?_);refine goesL_ (some 26) rfl rfl Tryd.func66 (by kernel_rfl) rfl #[.slice A0_0 l0_0.length c0_0,.int .i64 1] rfl (by (try simp only [List.map_toArray,List.map_cons,List.map_nil]);first|done|rfl|(simp only [List.length_drop,List.length_take];rfl)) ?_;(with_reducible refine (heard_areTones.calls _ _ l0_0 1 false _ ?side1 ?side2 A11.out).mono ?_);(case side1=>repeat (first|exact (Kd.C_below HR0_0.out HB.out)|(with_reducible refine Kd.C_alloc ?_ _)|(with_reducible refine Kd.C_drewN ?_ _)|(with_reducible refine Kd.C_drew ?_)));(case side2=>exact HC0_0.out);rintro e w' ⟨rfl,⟨nd,rfl⟩⟩;refine ⟨_,rfl,?_⟩))
     go_ret
     exact ⟨by first|rfl|(simp [errW_none,errW_some] <;> rfl)|(simp [*,errW_none,errW_some] <;> rfl),by repeat (first|(with_reducible first|exact HB.out|apply below_alloc|apply pw_below_drewN|apply below_drew1|refine below_set ?_ GE124.out)|exact HB.out)⟩
end Go.Proofs.YthnilelmhpmanaaDoor.PHeardFits
end
section
namespace Go.Proofs.YthnilelmhpmanaaDoor.PHeardFits
open Go.RowKit Go.Proofs.YthnilelmhpmanaaDoorW.PrintWords Go.Proofs.YthnilelmhpmanaaDoorW.PrintLast Go.Proofs.YthnilelmhpmanaaDoorW.PrintMore
attribute [local go_sem] max2_int min2_int max_two min_two max_three min_three max_four min_four
set_option linter.unusedVariables false
set_option linter.unusedSimpArgs false
def heard_greatest_int.l0:Nat→Int→List Int→Int→Int→Option (Int)
 | 0,_,_,_,_=>none
 | k+1,x0,x7,x8,x9=>if x9<x8 then (if 0≤x9 then (if x9<(x7.length:Int) then (heard_greatest_int.l0 k (mx x0 (rd x7 x9)) x7 x8 (wrap64 (x9+1))) else (none)) else (none)) else (some x0)
def heard_greatest_int.f (k:Nat) (a0:Int) (l1:List Int):Option (Int):=heard_greatest_int.l0 k a0 l1 (l1.length:Int) 0
set_option maxHeartbeats 8000000 in
set_option maxRecDepth 100000 in
theorem heard_greatest_int.calls (k:Nat) (a0:Int) (A1:Option Addr) (c1:Nat) (l1:List Int) (r:Int) (w:World) (hr1:Kd.C (Kd.int .i64) w A1 l1.length l1) (hc1:l1.length≤c1) (h:heard_greatest_int.f k a0 l1=some r) :
  Calls Tryd.prog 81 #[.int .i64 a0,.slice A1 l1.length c1] w fun e w'=>e=.returned (.int .i64 r)∧Below w.heap.size w w':=by
 have HR1:=Aside0.mk hr1
 have HC1:=Aside0.mk hc1
 clear hr1 hc1
 have HB:=Aside0.mk (Below.refl w.heap.size w)
 have H:(heard_greatest_int.l0 k a0 l1 (l1.length:Int) 0)=some r:=h
 clear h
 have H':=Aside0.mk H
 clear H
 go_enter Tryd.func81,Tryd.ntmps81
 go_wp2
 go_loopg [0,9] k (fun kq v0 v9 w'=>∃ (x0_1:Int) (x9_1:Int),v0=.int .i64 x0_1∧v9=.int .i64 x9_1∧Aside0 (heard_greatest_int.l0 kq x0_1 l1 (l1.length:Int) x9_1=some r)∧Aside0 (kq≤k)∧Aside0 (Below w.heap.size w w'))
 case atStart=>exact ⟨(a0),(0),(by first|rfl|(simp;done)|(simp [*];done)),(by first|rfl|(simp;done)|(simp [*];done)),H',⟨Nat.le_refl _⟩,⟨by repeat (first|(with_reducible first|exact HB.out|apply below_alloc|apply pw_below_drewN|apply below_drew1)|exact HB.out)⟩⟩
 case round =>
  clear H'
  try clear c1
  try clear p2
  obtain ⟨x0_1,x9_1,rfl,rfl,HA,HK1,HB⟩:=hrel
  cases gk with
  | zero=>exact absurd HA.out (by simp [heard_greatest_int.l0])
  | succ k1 =>
   have H:=HA.out
   clear HA
   simp only [heard_greatest_int.l0] at H
   by_cases c3:x9_1<(l1.length:Int)
   ·rw [if_pos c3] at H
    have c3b0:decide (x9_1<(l1.length:Int))=true:=decide_eq_true c3
    clear c3
    by_cases c4:0≤x9_1
    ·rw [if_pos c4] at H
     have c4b0:decide (0≤x9_1)=true:=decide_eq_true c4
     clear c4
     by_cases c5:x9_1<(l1.length:Int)
     ·rw [if_pos c5] at H
      have c5b0:decide (x9_1<(l1.length:Int))=true:=decide_eq_true c5
      clear c5
      obtain ⟨ji6,hji6⟩:∃ j_:Int,(mx x0_1 (rd l1 x9_1))=j_:=⟨_,rfl⟩
      replace H:(heard_greatest_int.l0 k1 ji6 l1 (l1.length:Int) (wrap64 (x9_1+1)))=some r:=by first|(rw [hji6] at H;exact H)|(simp only [hji6] at H ⊢;exact H)
      have hji6_:(if x0_1<(rd l1 x9_1) then (rd l1 x9_1) else x0_1)=ji6:=hji6
      have H':=Aside0.mk H
      clear H
      have p304:0≤(x9_1:Int):=of_decide_eq_true (by first|(with_reducible assumption)|assumption)
      have q304:x9_1<(l1.length:Int):=of_decide_eq_true (by first|(with_reducible assumption)|assumption)
      obtain ⟨ad304,e304,hx304_0⟩:=Kd.at_int HR1.out x9_1 p304 q304
      cases e304
      replace hx304_0:=(HB.out.cell (World.block_lt_of_cell? w _ hx304_0)).trans hx304_0
      replace p304:=eq_true p304
      replace q304:=eq_true q304
      go_wp2
      go_roundg k1
      case measure=>have:=HK1.out;omega
      case rel=>exact ⟨(ji6),(wrap64 (x9_1+1)),(by first|rfl|(simp;done)|(simp only [← hji6] <;> (first|rfl|simp))|(simp [*];done)),(by first|rfl|(simp;done)|(simp [*];done)),H',⟨by have:=HK1.out;omega⟩,⟨by repeat (first|(with_reducible first|exact HB.out|apply below_alloc|apply pw_below_drewN|apply below_drew1)|exact HB.out)⟩⟩
     ·rw [if_neg c5] at H
      exact absurd H (by simp)
    ·rw [if_neg c4] at H
     exact absurd H (by simp)
   ·rw [if_neg c3] at H
    have c3b0:decide (x9_1<(l1.length:Int))=false:=decide_eq_false c3
    clear c3
    obtain rfl:=Option.some.inj H
    go_wp2
    go_ret
    exact ⟨by first|rfl|(simp [errW_none,errW_some] <;> rfl)|(simp [*,errW_none,errW_some] <;> rfl),by repeat (first|(with_reducible first|exact HB.out|apply below_alloc|apply pw_below_drewN|apply below_drew1)|exact HB.out)⟩
end Go.Proofs.YthnilelmhpmanaaDoor.PHeardFits
end
section
namespace Go.Proofs.YthnilelmhpmanaaDoor.PHeardFits
open Go.RowKit Go.Proofs.YthnilelmhpmanaaDoorW.PrintWords Go.Proofs.YthnilelmhpmanaaDoorW.PrintLast Go.Proofs.YthnilelmhpmanaaDoorW.PrintMore
attribute [local go_sem] max2_int min2_int max_two min_two max_three min_three max_four min_four
set_option linter.unusedVariables false
set_option linter.unusedSimpArgs false
def heard_turned_int.l0:Nat→List Int→List Int→Int→Int→Option (List Int)
 | 0,_,_,_,_=>none
 | k+1,x3,x6,x7,x8=>if x8<x7 then (if 0≤x8 then (if x8<(x6.length:Int) then (if x3.length<17592186044416 then (heard_turned_int.l0 k (x3 ++ [wrap64 (-(rd x6 x8))]) x6 x7 (wrap64 (x8+1))) else (none)) else (none)) else (none)) else (some x3)
def heard_turned_int.f (k:Nat) (l0:List Int):Option (List Int):=heard_turned_int.l0 k ([]:List Int) l0 (l0.length:Int) 0
set_option maxHeartbeats 8000000 in
set_option maxRecDepth 100000 in
theorem heard_turned_int.calls (k:Nat) (A0:Option Addr) (c0:Nat) (l0:List Int) (r:List Int) (w:World) (hr0:Kd.C (Kd.int .i64) w A0 l0.length l0) (hc0:l0.length≤c0) (h:heard_turned_int.f k l0=some r) :
  Calls Tryd.prog 112 #[.slice A0 l0.length c0] w fun e w'=>∃ v0_:Value,e=.returned (v0_)∧Kd.R (Kd.int .i64) 3 w' w.heap.size (fun _=>True) v0_ r∧Below w.heap.size w w':=by
 have HR0:=Aside0.mk hr0
 have HC0:=Aside0.mk hc0
 clear hr0 hc0
 have HB:=Aside0.mk (Below.refl w.heap.size w)
 have H:(heard_turned_int.l0 k ([]:List Int) l0 (l0.length:Int) 0)=some r:=h
 clear h
 have H':=Aside0.mk H
 clear H
 go_enter Tryd.func112,Tryd.ntmps112
 go_wp2
 go_loopg [3,8] k (fun kq v3 v8 w'=>∃ (x3_1:List Int) (x8_1:Int),v8=.int .i64 x8_1∧Aside0 (heard_turned_int.l0 kq x3_1 l0 (l0.length:Int) x8_1=some r)∧Aside0 (kq≤k)∧Aside0 (Kd.R (Kd.int .i64) 3 w' w.heap.size (fun _=>True) v3 x3_1)∧Aside0 (Below w.heap.size w w'))
 case atStart=>exact ⟨(([]:List Int)),(0),(by first|rfl|(simp;done)|(simp [*];done)),H',⟨Nat.le_refl _⟩,⟨by first|exact Kd.R_nil _ _ _ _ _|exact Kd.N_nil _ _ _ _ _|exact Kd.V_nil _ _ _ _ _|exact Kd.Q_nil _ _ _ _ _|exact Kd.S_nil _ _ _ _ _⟩,⟨by repeat (first|(with_reducible first|exact HB.out|apply below_alloc|apply pw_below_drewN|apply below_drew1)|exact HB.out)⟩⟩
 case round =>
  clear H'
  try clear c1
  obtain ⟨x3_1,x8_1,rfl,HA,HK1,HO_3,HB⟩:=hrel
  cases gk with
  | zero=>exact absurd HA.out (by simp [heard_turned_int.l0])
  | succ k1 =>
   have H:=HA.out
   clear HA
   simp only [heard_turned_int.l0] at H
   by_cases c2:x8_1<(l0.length:Int)
   ·rw [if_pos c2] at H
    have c2b0:decide (x8_1<(l0.length:Int))=true:=decide_eq_true c2
    clear c2
    by_cases c3:0≤x8_1
    ·rw [if_pos c3] at H
     have c3b0:decide (0≤x8_1)=true:=decide_eq_true c3
     clear c3
     by_cases c4:x8_1<(l0.length:Int)
     ·rw [if_pos c4] at H
      have c4b0:decide (x8_1<(l0.length:Int))=true:=decide_eq_true c4
      clear c4
      by_cases c5:x3_1.length<17592186044416
      ·rw [if_pos c5] at H
       have LMc5:=Aside0.mk c5
       clear c5
       obtain ⟨y306,hy306⟩:∃ y_:List Int,y_=(x3_1 ++ [wrap64 (-(rd l0 x8_1))]):=⟨_,rfl⟩
       replace H:(heard_turned_int.l0 k1 y306 l0 (l0.length:Int) (wrap64 (x8_1+1)))=some r:=by first|(rw [hy306];with_reducible exact H)|(have H2_:=(Option.bind_some _ _).symm.trans H;rw [hy306];with_reducible exact H2_)|(have H2_:=(Option.bind_some _ _).symm.trans H;with_reducible exact H2_)|with_reducible exact H|(rw [hy306];exact H)|exact H
       have Ny306:=Aside0.mk hy306
       clear hy306
       have H':=Aside0.mk H
       clear H
       have p305:0≤(x8_1:Int):=of_decide_eq_true (by first|(with_reducible assumption)|assumption)
       have q305:x8_1<(l0.length:Int):=of_decide_eq_true (by first|(with_reducible assumption)|assumption)
       obtain ⟨ad305,e305,hx305_0⟩:=Kd.at_int HR0.out x8_1 p305 q305
       cases e305
       replace hx305_0:=(HB.out.cell (World.block_lt_of_cell? w _ hx305_0)).trans hx305_0
       replace p305:=eq_true p305
       replace q305:=eq_true q305
       go_wp2_with (first|((with_reducible refine gate_builtin (b:=.append) (xs:=#[.tmp 12,.tmp 15]) rfl ?_);at_builtin;refine Kd.R_append (Kd.int .i64) (w0:=w) w.heap.size rfl (.tmp 12) (.tmp 15) 28 3 (.int .i64 0) 8 rfl Tryd.underlying28 info3 rfl (by decide) (by omega) u3 x3_1 (wrap64 (-(rd l0 x8_1))) [.int .i64 (wrap64 (-(rd l0 x8_1)))] (fun _=>True) (fun _=>False) rfl rfl ?aP (fun _ hk=>hk.elim) ?aF ?aO ?aB ?aS ?aL ?_;(case aP=>exact rfl);(case aB=>exact (by repeat (first|(with_reducible first|exact HB.out|apply below_alloc|apply pw_below_drewN|apply below_drew1)|exact HB.out)));(case aF=>exact (fun _ _=>trivial));(case aO=>exact (by (with_reducible repeat (first|apply Kd.R_alloc|apply Kd.R_drewN|apply Kd.R_drew));exact HO_3.out));(case aS=>exact (below_size (by repeat (first|(with_reducible first|exact HB.out|apply below_alloc|apply pw_below_drewN|apply below_drew1)|exact HB.out))));(case aL=>have:=LMc5.out;omega);intro v307 w6 ho hb hg hat;rw [← Ny306.out] at ho;have n0_:=Aside0.mk (hb);have n1_:=Aside0.mk (ho);clear HB;clear HO_3;have HB:=n0_;have HO308:=n1_;clear n0_ n1_;clear ho hb hg hat))
       go_roundg k1
       case measure=>have:=HK1.out;omega
       case rel=>exact ⟨(y306),(wrap64 (x8_1+1)),(by first|rfl|(simp;done)|(simp [*];done)),H',⟨by have:=HK1.out;omega⟩,⟨by (with_reducible repeat (first|apply Kd.R_alloc|apply Kd.R_drewN|apply Kd.R_drew));exact HO308.out⟩,⟨by repeat (first|(with_reducible first|exact HB.out|apply below_alloc|apply pw_below_drewN|apply below_drew1)|exact HB.out)⟩⟩
      ·rw [if_neg c5] at H
       exact absurd H (by simp)
     ·rw [if_neg c4] at H
      exact absurd H (by simp)
    ·rw [if_neg c3] at H
     exact absurd H (by simp)
   ·rw [if_neg c2] at H
    have c2b0:decide (x8_1<(l0.length:Int))=false:=decide_eq_false c2
    clear c2
    obtain rfl:=Option.some.inj H
    go_wp2
    go_ret
    exact ⟨_,by first|rfl|(simp [errW_none,errW_some] <;> rfl)|(simp [*,errW_none,errW_some] <;> rfl),by (with_reducible repeat (first|apply Kd.R_alloc|apply Kd.R_drewN|apply Kd.R_drew));exact HO_3.out,by repeat (first|(with_reducible first|exact HB.out|apply below_alloc|apply pw_below_drewN|apply below_drew1)|exact HB.out)⟩
end Go.Proofs.YthnilelmhpmanaaDoor.PHeardFits
end
section
namespace Go.Proofs.YthnilelmhpmanaaDoor.PHeardFits
open Go.RowKit Go.Proofs.YthnilelmhpmanaaDoorW.PrintWords Go.Proofs.YthnilelmhpmanaaDoorW.PrintLast Go.Proofs.YthnilelmhpmanaaDoorW.PrintMore
attribute [local go_sem] max2_int min2_int max_two min_two max_three min_three max_four min_four
set_option linter.unusedVariables false
set_option linter.unusedSimpArgs false
def heard_least_int.f (k:Nat) (a0:Int) (l1:List Int):Option (Int):=(heard_turned_int.f k l1).bind fun t309=>((heard_greatest_int.f k (wrap64 (-a0)) t309).bind fun t312=>(some (wrap64 (-t312))))
set_option maxHeartbeats 8000000 in
set_option maxRecDepth 100000 in
theorem heard_least_int.calls (k:Nat) (a0:Int) (A1:Option Addr) (c1:Nat) (l1:List Int) (r:Int) (w:World) (hr1:Kd.C (Kd.int .i64) w A1 l1.length l1) (hc1:l1.length≤c1) (h:heard_least_int.f k a0 l1=some r) :
  Calls Tryd.prog 80 #[.int .i64 a0,.slice A1 l1.length c1] w fun e w'=>e=.returned (.int .i64 r)∧Below w.heap.size w w':=by
 have HR1:=Aside0.mk hr1
 have HC1:=Aside0.mk hc1
 clear hr1 hc1
 have HB:=Aside0.mk (Below.refl w.heap.size w)
 have H:((heard_turned_int.f k l1).bind fun t309=>((heard_greatest_int.f k (wrap64 (-a0)) t309).bind fun t312=>(some (wrap64 (-t312)))))=some r:=h
 clear h
 replace H:=Option.bind_eq_some_iff.mp H
 obtain ⟨t309,A30,H⟩:=H
 try dsimp only at H
 have A3:=Aside0.mk A30
 clear A30
 replace H:=Option.bind_eq_some_iff.mp H
 obtain ⟨t312,A40,H⟩:=H
 try dsimp only at H
 have A4:=Aside0.mk A40
 clear A40
 obtain rfl:=Option.some.inj H
 go_enter Tryd.func80,Tryd.ntmps80
 go_wp2_with (first|((with_reducible refine gate_callee (f:=112) rfl ?_);refine goesL_ (some 8) rfl rfl Tryd.func112 (by kernel_rfl) rfl #[.slice A1 l1.length c1] rfl (by (try simp only [List.map_toArray,List.map_cons,List.map_nil]);first|done|rfl|(simp only [List.length_drop,List.length_take];rfl)) ?_;(with_reducible refine (heard_turned_int.calls k _ _ l1 t309 _ ?side1 ?side2 A3.out).mono ?_);(case side1=>repeat (first|exact HR1.out|(with_reducible refine Kd.C_alloc ?_ _)|(with_reducible refine Kd.C_drewN ?_ _)|(with_reducible refine Kd.C_drew ?_)));(case side2=>exact HC1.out);rintro e w5 ⟨v310,rfl,ho0,hb⟩;refine ⟨_,rfl,?_⟩;have n0_:=Aside0.mk (Kd.R_lower ho0 (below_size (by repeat (first|(with_reducible first|exact HB.out|apply below_alloc|apply pw_below_drewN|apply below_drew1)|exact HB.out))));have n1_:=Aside0.mk (below_step (by repeat (first|(with_reducible first|exact HB.out|apply below_alloc|apply pw_below_drewN|apply below_drew1)|exact HB.out)) hb);clear HB;have HO311:=n0_;have HB:=n1_;clear n0_ n1_;(try clear hb);(try clear hb2);(try clear hk);(try clear hi);(try clear ho0);obtain ⟨Ao6,co6,eo6⟩:=Kd.R_slice HO311.out;subst eo6)|((with_reducible refine gate_callee (f:=81) rfl ?_);refine goesL_ (some 9) rfl rfl Tryd.func81 (by kernel_rfl) rfl #[.int .i64 (wrap64 (-a0)),.slice Ao6 t309.length co6] rfl (by (try simp only [List.map_toArray,List.map_cons,List.map_nil]);first|done|rfl|(simp only [List.length_drop,List.length_take];rfl)) ?_;(with_reducible refine (heard_greatest_int.calls k (wrap64 (-a0)) _ _ t309 t312 _ ?side1 ?side2 A4.out).mono ?_);(case side1=>repeat (first|exact (Kd.R_reads' HO311.out).2.2|(with_reducible refine Kd.C_alloc ?_ _)|(with_reducible refine Kd.C_drewN ?_ _)|(with_reducible refine Kd.C_drew ?_)));(case side2=>exact (Kd.R_reads' HO311.out).2.1);rintro e w7 ⟨rfl,hb⟩;refine ⟨_,rfl,?_⟩;have n0_:=Aside0.mk (Kd.R_below (by (with_reducible repeat (first|apply Kd.R_alloc|apply Kd.R_drewN|apply Kd.R_drew));exact HO311.out) hb);have n1_:=Aside0.mk (below_step (by repeat (first|(with_reducible first|exact HB.out|apply below_alloc|apply pw_below_drewN|apply below_drew1)|exact HB.out)) hb);clear HO311;clear HB;have HO311:=n0_;have HB:=n1_;clear n0_ n1_;(try clear hb);(try clear hb2);(try clear hk);(try clear hi)))
 go_ret
 exact ⟨by first|rfl|(simp [errW_none,errW_some] <;> rfl)|(simp [*,errW_none,errW_some] <;> rfl),by repeat (first|(with_reducible first|exact HB.out|apply below_alloc|apply pw_below_drewN|apply below_drew1)|exact HB.out)⟩
end Go.Proofs.YthnilelmhpmanaaDoor.PHeardFits
end
section
namespace Go.Proofs.YthnilelmhpmanaaDoor.PHeardFits
open Go.RowKit Go.Proofs.YthnilelmhpmanaaDoorW.PrintWords Go.Proofs.YthnilelmhpmanaaDoorW.PrintLast Go.Proofs.YthnilelmhpmanaaDoorW.PrintMore
attribute [local go_sem] max2_int min2_int max_two min_two max_three min_three max_four min_four
set_option linter.unusedVariables false
set_option linter.unusedSimpArgs false
def saronref00_Equal.l0:Nat→List Int→List Int→Bool→Int→Option (Bool)
 | 0,_,_,_,_=>none
 | k+1,x0,x1,x5,x6=>if x5=true then (if x6<(x0.length:Int) then (if 0≤x6 then (if x6<(x1.length:Int) then (saronref00_Equal.l0 k x0 x1 ((rd x0 x6) == (rd x1 x6)) (wrap64 (x6+1))) else (none)) else (none)) else (some x5)) else (some x5)
def saronref00_Equal.f (k:Nat) (l0:List Int) (l1:List Int):Option (Bool):=saronref00_Equal.l0 k l0 l1 ((l0.length:Int) == (l1.length:Int)) 0
set_option maxHeartbeats 8000000 in
set_option maxRecDepth 100000 in
theorem saronref00_Equal.calls (k:Nat) (A0:Option Addr) (c0:Nat) (l0:List Int) (A1:Option Addr) (c1:Nat) (l1:List Int) (r:Bool) (w:World) (hr0:Kd.C (Kd.int .i64) w A0 l0.length l0) (hc0:l0.length≤c0) (hr1:Kd.C (Kd.int .i64) w A1 l1.length l1) (hc1:l1.length≤c1) (h:saronref00_Equal.f k l0 l1=some r) :
  Calls Tryd.prog 21 #[.slice A0 l0.length c0,.slice A1 l1.length c1] w fun e w'=>e=.returned (.bool r)∧Drawn0 w w':=by
 have HR0:=Aside0.mk hr0
 have HC0:=Aside0.mk hc0
 clear hr0 hc0
 have HR1:=Aside0.mk hr1
 have HC1:=Aside0.mk hc1
 clear hr1 hc1
 have H:(saronref00_Equal.l0 k l0 l1 ((l0.length:Int) == (l1.length:Int)) 0)=some r:=h
 clear h
 have H':=Aside0.mk H
 clear H
 go_enter Tryd.func21,Tryd.ntmps21
 go_wp2
 repeat (go_quiet (fail);try go_wp2)
 go_loopg [5,6] k (fun kq v5 v6 w'=>∃ (x5_1:Bool) (x6_1:Int),v5=.bool x5_1∧v6=.int .i64 x6_1∧Aside0 (saronref00_Equal.l0 kq l0 l1 x5_1 x6_1=some r)∧Aside0 (kq≤k)∧Drawn0 w w')
 case atStart=>exact ⟨(((l0.length:Int) == (l1.length:Int))),(0),(by first|rfl|(simp;done)|(simp [*];done)),(by first|rfl|(simp;done)|(simp [*];done)),H',⟨Nat.le_refl _⟩,by repeat (first|exact Drawn0.refl _|apply Drawn0.step)⟩
 case round =>
  clear H'
  try clear c1
  try clear c2
  try clear p2
  obtain ⟨x5_1,x6_1,rfl,rfl,HA,HK1,⟨m1,rfl⟩⟩:=hrel
  cases gk with
  | zero=>exact absurd HA.out (by simp [saronref00_Equal.l0])
  | succ k1 =>
   have H:=HA.out
   clear HA
   simp only [saronref00_Equal.l0] at H
   by_cases c3:x5_1=true
   ·subst c3
    rw [if_pos rfl] at H
    by_cases c4:x6_1<(l0.length:Int)
    ·rw [if_pos c4] at H
     have c4b0:decide (x6_1<(l0.length:Int))=true:=decide_eq_true c4
     clear c4
     by_cases c5:0≤x6_1
     ·rw [if_pos c5] at H
      have c5b0:decide (0≤x6_1)=true:=decide_eq_true c5
      clear c5
      by_cases c6:x6_1<(l1.length:Int)
      ·rw [if_pos c6] at H
       have c6b0:decide (x6_1<(l1.length:Int))=true:=decide_eq_true c6
       clear c6
       have H':=Aside0.mk H
       clear H
       have p133:0≤(x6_1:Int):=of_decide_eq_true (by first|(with_reducible assumption)|assumption)
       have q133:x6_1<(l0.length:Int):=of_decide_eq_true (by first|(with_reducible assumption)|assumption)
       obtain ⟨ad133,e133,hx133_0⟩:=Kd.at_int HR0.out x6_1 p133 q133
       cases e133
       replace p133:=eq_true p133
       replace q133:=eq_true q133
       have p134:0≤(x6_1:Int):=of_decide_eq_true (by first|(with_reducible assumption)|assumption)
       have q134:x6_1<(l1.length:Int):=of_decide_eq_true (by first|(with_reducible assumption)|assumption)
       obtain ⟨ad134,e134,hx134_0⟩:=Kd.at_int HR1.out x6_1 p134 q134
       cases e134
       replace p134:=eq_true p134
       replace q134:=eq_true q134
       go_wp2
       repeat (go_quiet (fail);try go_wp2)
       go_roundg k1
       case measure=>have:=HK1.out;omega
       case rel=>exact ⟨(((rd l0 x6_1) == (rd l1 x6_1))),(wrap64 (x6_1+1)),(by first|rfl|(simp;done)|(simp [*];done)),(by first|rfl|(simp;done)|(simp [*];done)),H',⟨by have:=HK1.out;omega⟩,by repeat (first|exact Drawn0.refl _|apply Drawn0.step)⟩
      ·rw [if_neg c6] at H
       exact absurd H (by simp)
     ·rw [if_neg c5] at H
      exact absurd H (by simp)
    ·rw [if_neg c4] at H
     have c4b0:decide (x6_1<(l0.length:Int))=false:=decide_eq_false c4
     clear c4
     obtain rfl:=Option.some.inj H
     go_wp2
     repeat (go_quiet (fail);try go_wp2)
     go_ret
     exact ⟨by first|rfl|(simp;done)|(simp [*];done),by repeat (first|exact Drawn0.refl _|apply Drawn0.step)⟩
   ·replace c3:=Bool.eq_false_iff.mpr c3
    subst c3
    rw [if_neg (show ¬ (false=true) by decide)] at H
    obtain rfl:=Option.some.inj H
    go_wp2
    repeat (go_quiet (fail);try go_wp2)
    go_ret
    exact ⟨by first|rfl|(simp;done)|(simp [*];done),by repeat (first|exact Drawn0.refl _|apply Drawn0.step)⟩
end Go.Proofs.YthnilelmhpmanaaDoor.PHeardFits
end
section
namespace Go.Proofs.YthnilelmhpmanaaDoor.PHeardFits
open Go.RowKit Go.Proofs.YthnilelmhpmanaaDoorW.PrintWords Go.Proofs.YthnilelmhpmanaaDoorW.PrintLast Go.Proofs.YthnilelmhpmanaaDoorW.PrintMore
attribute [local go_sem] max2_int min2_int max_two min_two max_three min_three max_four min_four
set_option linter.unusedVariables false
set_option linter.unusedSimpArgs false
def saronref00_Sits.f (a0:Int) (a1:Int) (a2:Int):Option (Bool):=if a1≤a0 then (some (decide (a0≤a2))) else (some false)
set_option maxHeartbeats 8000000 in
set_option maxRecDepth 100000 in
theorem saronref00_Sits.calls (a0:Int) (a1:Int) (a2:Int) (r:Bool) (w:World) (h:saronref00_Sits.f a0 a1 a2=some r) :
  Calls Tryd.prog 41 #[.int .i64 a0,.int .i64 a1,.int .i64 a2] w fun e w'=>e=.returned (.bool r)∧Drawn0 w w':=by
 have H:(if a1≤a0 then (some (decide (a0≤a2))) else (some false))=some r:=h
 clear h
 by_cases c4:a1≤a0
 ·rw [if_pos c4] at H
  have c4b0:decide (a1≤a0)=true:=decide_eq_true c4
  clear c4
  obtain rfl:=Option.some.inj H
  go_enter Tryd.func41,Tryd.ntmps41
  go_wp2
  go_ret
  exact ⟨by first|rfl|(simp;done)|(simp [*];done),by repeat (first|exact Drawn0.refl _|apply Drawn0.step)⟩
 ·rw [if_neg c4] at H
  have c4b0:decide (a1≤a0)=false:=decide_eq_false c4
  clear c4
  obtain rfl:=Option.some.inj H
  go_enter Tryd.func41,Tryd.ntmps41
  go_wp2
  go_ret
  exact ⟨by first|rfl|(simp;done)|(simp [*];done),by repeat (first|exact Drawn0.refl _|apply Drawn0.step)⟩
end Go.Proofs.YthnilelmhpmanaaDoor.PHeardFits
end
section
namespace Go.Proofs.YthnilelmhpmanaaDoor.PHeardFits
open Go.RowKit Go.Proofs.YthnilelmhpmanaaDoorW.PrintWords Go.Proofs.YthnilelmhpmanaaDoorW.PrintLast Go.Proofs.YthnilelmhpmanaaDoorW.PrintMore
attribute [local go_sem] max2_int min2_int max_two min_two max_three min_three max_four min_four
set_option linter.unusedVariables false
set_option linter.unusedSimpArgs false
def saronref00_Grows.l0:Nat→List Int→Int→Int→Int→Option (Bool)
 | 0,_,_,_,_=>none
 | k+1,x0,x1,x5,x6=>if x6<(x0.length:Int) then (if 0≤x6 then (if (rd x0 x6)≤x5 then (some false) else (if (rd x0 x6) ≥ x1 then (some false) else (saronref00_Grows.l0 k x0 x1 (rd x0 x6) (wrap64 (x6+1))))) else (none)) else (some true)
def saronref00_Grows.f (k:Nat) (l0:List Int) (a1:Int):Option (Bool):=saronref00_Grows.l0 k l0 a1 (-1) 0
set_option maxHeartbeats 8000000 in
set_option maxRecDepth 100000 in
theorem saronref00_Grows.calls (k:Nat) (A0:Option Addr) (c0:Nat) (l0:List Int) (a1:Int) (r:Bool) (w:World) (hr0:Kd.C (Kd.int .i64) w A0 l0.length l0) (hc0:l0.length≤c0) (h:saronref00_Grows.f k l0 a1=some r) :
  Calls Tryd.prog 43 #[.slice A0 l0.length c0,.int .i64 a1] w fun e w'=>e=.returned (.bool r)∧Drawn0 w w':=by
 have HR0:=Aside0.mk hr0
 have HC0:=Aside0.mk hc0
 clear hr0 hc0
 have H:(saronref00_Grows.l0 k l0 a1 (-1) 0)=some r:=h
 clear h
 have H':=Aside0.mk H
 clear H
 go_enter Tryd.func43,Tryd.ntmps43
 go_wp2
 go_loopg [5,6] k (fun kq v5 v6 w'=>∃ (x5_1:Int) (x6_1:Int),v5=.int .i64 x5_1∧v6=.int .i64 x6_1∧Aside0 (saronref00_Grows.l0 kq l0 a1 x5_1 x6_1=some r)∧Aside0 (kq≤k)∧Drawn0 w w')
 case atStart=>exact ⟨((-1)),(0),(by first|rfl|(simp;done)|(simp [*];done)),(by first|rfl|(simp;done)|(simp [*];done)),H',⟨Nat.le_refl _⟩,by repeat (first|exact Drawn0.refl _|apply Drawn0.step)⟩
 case round =>
  clear H'
  try clear p2
  obtain ⟨x5_1,x6_1,rfl,rfl,HA,HK1,⟨m1,rfl⟩⟩:=hrel
  cases gk with
  | zero=>exact absurd HA.out (by simp [saronref00_Grows.l0])
  | succ k1 =>
   have H:=HA.out
   clear HA
   simp only [saronref00_Grows.l0] at H
   by_cases c3:x6_1<(l0.length:Int)
   ·rw [if_pos c3] at H
    have c3b0:decide (x6_1<(l0.length:Int))=true:=decide_eq_true c3
    clear c3
    by_cases c4:0≤x6_1
    ·rw [if_pos c4] at H
     have c4b0:decide (0≤x6_1)=true:=decide_eq_true c4
     clear c4
     by_cases c5:(rd l0 x6_1)≤x5_1
     ·rw [if_pos c5] at H
      have c5b0:decide ((rd l0 x6_1)≤x5_1)=true:=decide_eq_true c5
      clear c5
      obtain rfl:=Option.some.inj H
      have p135:0≤(x6_1:Int):=of_decide_eq_true (by first|(with_reducible assumption)|assumption)
      have q135:x6_1<(l0.length:Int):=of_decide_eq_true (by first|(with_reducible assumption)|assumption)
      obtain ⟨ad135,e135,hx135_0⟩:=Kd.at_int HR0.out x6_1 p135 q135
      cases e135
      replace p135:=eq_true p135
      replace q135:=eq_true q135
      go_wp2
      go_ret
      exact ⟨by first|rfl|(simp;done)|(simp [*];done),by repeat (first|exact Drawn0.refl _|apply Drawn0.step)⟩
     ·rw [if_neg c5] at H
      have c5b0:decide ((rd l0 x6_1)≤x5_1)=false:=decide_eq_false c5
      clear c5
      by_cases c6:(rd l0 x6_1) ≥ a1
      ·rw [if_pos c6] at H
       have c6b0:decide (a1≤(rd l0 x6_1))=true:=decide_eq_true c6
       clear c6
       obtain rfl:=Option.some.inj H
       have p135:0≤(x6_1:Int):=of_decide_eq_true (by first|(with_reducible assumption)|assumption)
       have q135:x6_1<(l0.length:Int):=of_decide_eq_true (by first|(with_reducible assumption)|assumption)
       obtain ⟨ad135,e135,hx135_0⟩:=Kd.at_int HR0.out x6_1 p135 q135
       cases e135
       replace p135:=eq_true p135
       replace q135:=eq_true q135
       have p136:0≤(x6_1:Int):=of_decide_eq_true (by first|(with_reducible assumption)|assumption)
       have q136:x6_1<(l0.length:Int):=of_decide_eq_true (by first|(with_reducible assumption)|assumption)
       obtain ⟨ad136,e136,hx136_0⟩:=Kd.at_int HR0.out x6_1 p136 q136
       obtain rfl:ad135=ad136:=(by injection e136)
       replace p136:=eq_true p136
       replace q136:=eq_true q136
       go_wp2
       go_ret
       exact ⟨by first|rfl|(simp;done)|(simp [*];done),by repeat (first|exact Drawn0.refl _|apply Drawn0.step)⟩
      ·rw [if_neg c6] at H
       have c6b0:decide (a1≤(rd l0 x6_1))=false:=decide_eq_false c6
       clear c6
       have H':=Aside0.mk H
       clear H
       have p135:0≤(x6_1:Int):=of_decide_eq_true (by first|(with_reducible assumption)|assumption)
       have q135:x6_1<(l0.length:Int):=of_decide_eq_true (by first|(with_reducible assumption)|assumption)
       obtain ⟨ad135,e135,hx135_0⟩:=Kd.at_int HR0.out x6_1 p135 q135
       cases e135
       replace p135:=eq_true p135
       replace q135:=eq_true q135
       have p136:0≤(x6_1:Int):=of_decide_eq_true (by first|(with_reducible assumption)|assumption)
       have q136:x6_1<(l0.length:Int):=of_decide_eq_true (by first|(with_reducible assumption)|assumption)
       obtain ⟨ad136,e136,hx136_0⟩:=Kd.at_int HR0.out x6_1 p136 q136
       obtain rfl:ad135=ad136:=(by injection e136)
       replace p136:=eq_true p136
       replace q136:=eq_true q136
       have p137:0≤(x6_1:Int):=of_decide_eq_true (by first|(with_reducible assumption)|assumption)
       have q137:x6_1<(l0.length:Int):=of_decide_eq_true (by first|(with_reducible assumption)|assumption)
       obtain ⟨ad137,e137,hx137_0⟩:=Kd.at_int HR0.out x6_1 p137 q137
       obtain rfl:ad135=ad137:=(by injection e137)
       replace p137:=eq_true p137
       replace q137:=eq_true q137
       go_wp2
       go_roundg k1
       case measure=>have:=HK1.out;omega
       case rel=>exact ⟨(rd l0 x6_1),(wrap64 (x6_1+1)),(by first|rfl|(simp;done)|(simp [*];done)),(by first|rfl|(simp;done)|(simp [*];done)),H',⟨by have:=HK1.out;omega⟩,by repeat (first|exact Drawn0.refl _|apply Drawn0.step)⟩
    ·rw [if_neg c4] at H
     exact absurd H (by simp)
   ·rw [if_neg c3] at H
    have c3b0:decide (x6_1<(l0.length:Int))=false:=decide_eq_false c3
    clear c3
    obtain rfl:=Option.some.inj H
    go_wp2
    go_ret
    exact ⟨by first|rfl|(simp;done)|(simp [*];done),by repeat (first|exact Drawn0.refl _|apply Drawn0.step)⟩
end Go.Proofs.YthnilelmhpmanaaDoor.PHeardFits
end
section
namespace Go.Proofs.YthnilelmhpmanaaDoor.PHeardFits
open Go.RowKit Go.Proofs.YthnilelmhpmanaaDoorW.PrintWords Go.Proofs.YthnilelmhpmanaaDoorW.PrintLast Go.Proofs.YthnilelmhpmanaaDoorW.PrintMore
attribute [local go_sem] max2_int min2_int max_two min_two max_three min_three max_four min_four
set_option linter.unusedVariables false
set_option linter.unusedSimpArgs false
def saronlaw09_book.f  : Option (Int×(List (S85))×(List (S62))):=some (3,(([(⟨8,(([(([7]:List Int)),(([3,7]:List Int)),(([0,2,4,6]:List Int))]:List (List Int)))⟩:S85),(⟨4,(([(([3]:List Int)),(([1]:List Int)),(([0,2]:List Int))]:List (List Int)))⟩:S85)]:List (S85))),(([(⟨1,(([0,2,4,2,1,0]:List Int))⟩:S62),(⟨0,(([0,2,3,2,4,2,1]:List Int))⟩:S62),(⟨1,(([4,2,1,0,2]:List Int))⟩:S62)]:List (S62))))
set_option maxHeartbeats 8000000 in
set_option maxRecDepth 100000 in
theorem saronlaw09_book.calls  (r1:Int) (r2:List (S85)) (r3:List (S62)) (w:World) (h:saronlaw09_book.f  = some (r1,r2,r3)) :
  Calls Tryd.prog 50 #[] w fun e w'=>∃ v1_ v2_:Value,e=.returned (.agg #[.int .i64 r1,v1_,v2_])∧Kd.N k85 85 w' w.heap.size (fun k_=>(w.heap.size≤k_)∧some k_≠(v2_:Value).ownBlock) v1_ r2∧Kd.N k62 62 w' w.heap.size (fun k_=>(w.heap.size≤k_)∧some k_≠(v1_:Value).ownBlock) v2_ r3∧Below w.heap.size w w':=by
 have hu27:=Tryd.underlying27
 have hu85:=Tryd.underlying85
 have hu24:=Tryd.underlying24
 have hu62:=Tryd.underlying62
 have HB:=Aside0.mk (Below.refl w.heap.size w)
 have H:(some (3,(([(⟨8,(([(([7]:List Int)),(([3,7]:List Int)),(([0,2,4,6]:List Int))]:List (List Int)))⟩:S85),(⟨4,(([(([3]:List Int)),(([1]:List Int)),(([0,2]:List Int))]:List (List Int)))⟩:S85)]:List (S85))),(([(⟨1,(([0,2,4,2,1,0]:List Int))⟩:S62),(⟨0,(([0,2,3,2,4,2,1]:List Int))⟩:S62),(⟨1,(([4,2,1,0,2]:List Int))⟩:S62)]:List (S62)))))=some (r1,r2,r3):=h
 clear h
 obtain ⟨y334,hy334⟩:∃ y_:List Int,y_=(([7]:List Int)):=⟨_,rfl⟩
 replace H:(some (3,(([(⟨8,(([y334,(([3,7]:List Int)),(([0,2,4,6]:List Int))]:List (List Int)))⟩:S85),(⟨4,(([(([3]:List Int)),(([1]:List Int)),(([0,2]:List Int))]:List (List Int)))⟩:S85)]:List (S85))),(([(⟨1,(([0,2,4,2,1,0]:List Int))⟩:S62),(⟨0,(([0,2,3,2,4,2,1]:List Int))⟩:S62),(⟨1,(([4,2,1,0,2]:List Int))⟩:S62)]:List (S62)))))=some (r1,r2,r3):=by first|(rw [hy334];with_reducible exact H)|(have H2_:=(Option.bind_some _ _).symm.trans H;rw [hy334];with_reducible exact H2_)|(have H2_:=(Option.bind_some _ _).symm.trans H;with_reducible exact H2_)|with_reducible exact H|(rw [hy334];exact H)|exact H
 have Ny334:=Aside0.mk hy334
 clear hy334
 obtain ⟨y337,hy337⟩:∃ y_:List Int,y_=(([3,7]:List Int)):=⟨_,rfl⟩
 replace H:(some (3,(([(⟨8,(([y334,y337,(([0,2,4,6]:List Int))]:List (List Int)))⟩:S85),(⟨4,(([(([3]:List Int)),(([1]:List Int)),(([0,2]:List Int))]:List (List Int)))⟩:S85)]:List (S85))),(([(⟨1,(([0,2,4,2,1,0]:List Int))⟩:S62),(⟨0,(([0,2,3,2,4,2,1]:List Int))⟩:S62),(⟨1,(([4,2,1,0,2]:List Int))⟩:S62)]:List (S62)))))=some (r1,r2,r3):=by first|(rw [hy337];with_reducible exact H)|(have H2_:=(Option.bind_some _ _).symm.trans H;rw [hy337];with_reducible exact H2_)|(have H2_:=(Option.bind_some _ _).symm.trans H;with_reducible exact H2_)|with_reducible exact H|(rw [hy337];exact H)|exact H
 have Ny337:=Aside0.mk hy337
 clear hy337
 obtain ⟨y340,hy340⟩:∃ y_:List Int,y_=(([0,2,4,6]:List Int)):=⟨_,rfl⟩
 replace H:(some (3,(([(⟨8,(([y334,y337,y340]:List (List Int)))⟩:S85),(⟨4,(([(([3]:List Int)),(([1]:List Int)),(([0,2]:List Int))]:List (List Int)))⟩:S85)]:List (S85))),(([(⟨1,(([0,2,4,2,1,0]:List Int))⟩:S62),(⟨0,(([0,2,3,2,4,2,1]:List Int))⟩:S62),(⟨1,(([4,2,1,0,2]:List Int))⟩:S62)]:List (S62)))))=some (r1,r2,r3):=by first|(rw [hy340];with_reducible exact H)|(have H2_:=(Option.bind_some _ _).symm.trans H;rw [hy340];with_reducible exact H2_)|(have H2_:=(Option.bind_some _ _).symm.trans H;with_reducible exact H2_)|with_reducible exact H|(rw [hy340];exact H)|exact H
 have Ny340:=Aside0.mk hy340
 clear hy340
 obtain ⟨y343,hy343⟩:∃ y_:List (List Int),y_=(([y334,y337,y340]:List (List Int))):=⟨_,rfl⟩
 replace H:(some (3,(([(⟨8,y343⟩:S85),(⟨4,(([(([3]:List Int)),(([1]:List Int)),(([0,2]:List Int))]:List (List Int)))⟩:S85)]:List (S85))),(([(⟨1,(([0,2,4,2,1,0]:List Int))⟩:S62),(⟨0,(([0,2,3,2,4,2,1]:List Int))⟩:S62),(⟨1,(([4,2,1,0,2]:List Int))⟩:S62)]:List (S62)))))=some (r1,r2,r3):=by first|(rw [hy343];with_reducible exact H)|(have H2_:=(Option.bind_some _ _).symm.trans H;rw [hy343];with_reducible exact H2_)|(have H2_:=(Option.bind_some _ _).symm.trans H;with_reducible exact H2_)|with_reducible exact H|(rw [hy343];exact H)|exact H
 have Ny343:=Aside0.mk hy343
 clear hy343
 obtain ⟨y346,hy346⟩:∃ y_:List Int,y_=(([3]:List Int)):=⟨_,rfl⟩
 replace H:(some (3,(([(⟨8,y343⟩:S85),(⟨4,(([y346,(([1]:List Int)),(([0,2]:List Int))]:List (List Int)))⟩:S85)]:List (S85))),(([(⟨1,(([0,2,4,2,1,0]:List Int))⟩:S62),(⟨0,(([0,2,3,2,4,2,1]:List Int))⟩:S62),(⟨1,(([4,2,1,0,2]:List Int))⟩:S62)]:List (S62)))))=some (r1,r2,r3):=by first|(rw [hy346];with_reducible exact H)|(have H2_:=(Option.bind_some _ _).symm.trans H;rw [hy346];with_reducible exact H2_)|(have H2_:=(Option.bind_some _ _).symm.trans H;with_reducible exact H2_)|with_reducible exact H|(rw [hy346];exact H)|exact H
 have Ny346:=Aside0.mk hy346
 clear hy346
 obtain ⟨y349,hy349⟩:∃ y_:List Int,y_=(([1]:List Int)):=⟨_,rfl⟩
 replace H:(some (3,(([(⟨8,y343⟩:S85),(⟨4,(([y346,y349,(([0,2]:List Int))]:List (List Int)))⟩:S85)]:List (S85))),(([(⟨1,(([0,2,4,2,1,0]:List Int))⟩:S62),(⟨0,(([0,2,3,2,4,2,1]:List Int))⟩:S62),(⟨1,(([4,2,1,0,2]:List Int))⟩:S62)]:List (S62)))))=some (r1,r2,r3):=by first|(rw [hy349];with_reducible exact H)|(have H2_:=(Option.bind_some _ _).symm.trans H;rw [hy349];with_reducible exact H2_)|(have H2_:=(Option.bind_some _ _).symm.trans H;with_reducible exact H2_)|with_reducible exact H|(rw [hy349];exact H)|exact H
 have Ny349:=Aside0.mk hy349
 clear hy349
 obtain ⟨y352,hy352⟩:∃ y_:List Int,y_=(([0,2]:List Int)):=⟨_,rfl⟩
 replace H:(some (3,(([(⟨8,y343⟩:S85),(⟨4,(([y346,y349,y352]:List (List Int)))⟩:S85)]:List (S85))),(([(⟨1,(([0,2,4,2,1,0]:List Int))⟩:S62),(⟨0,(([0,2,3,2,4,2,1]:List Int))⟩:S62),(⟨1,(([4,2,1,0,2]:List Int))⟩:S62)]:List (S62)))))=some (r1,r2,r3):=by first|(rw [hy352];with_reducible exact H)|(have H2_:=(Option.bind_some _ _).symm.trans H;rw [hy352];with_reducible exact H2_)|(have H2_:=(Option.bind_some _ _).symm.trans H;with_reducible exact H2_)|with_reducible exact H|(rw [hy352];exact H)|exact H
 have Ny352:=Aside0.mk hy352
 clear hy352
 obtain ⟨y355,hy355⟩:∃ y_:List (List Int),y_=(([y346,y349,y352]:List (List Int))):=⟨_,rfl⟩
 replace H:(some (3,(([(⟨8,y343⟩:S85),(⟨4,y355⟩:S85)]:List (S85))),(([(⟨1,(([0,2,4,2,1,0]:List Int))⟩:S62),(⟨0,(([0,2,3,2,4,2,1]:List Int))⟩:S62),(⟨1,(([4,2,1,0,2]:List Int))⟩:S62)]:List (S62)))))=some (r1,r2,r3):=by first|(rw [hy355];with_reducible exact H)|(have H2_:=(Option.bind_some _ _).symm.trans H;rw [hy355];with_reducible exact H2_)|(have H2_:=(Option.bind_some _ _).symm.trans H;with_reducible exact H2_)|with_reducible exact H|(rw [hy355];exact H)|exact H
 have Ny355:=Aside0.mk hy355
 clear hy355
 obtain ⟨y358,hy358⟩:∃ y_:List (S85),y_=(([(⟨8,y343⟩:S85),(⟨4,y355⟩:S85)]:List (S85))):=⟨_,rfl⟩
 replace H:(some (3,y358,(([(⟨1,(([0,2,4,2,1,0]:List Int))⟩:S62),(⟨0,(([0,2,3,2,4,2,1]:List Int))⟩:S62),(⟨1,(([4,2,1,0,2]:List Int))⟩:S62)]:List (S62)))))=some (r1,r2,r3):=by first|(rw [hy358];with_reducible exact H)|(have H2_:=(Option.bind_some _ _).symm.trans H;rw [hy358];with_reducible exact H2_)|(have H2_:=(Option.bind_some _ _).symm.trans H;with_reducible exact H2_)|with_reducible exact H|(rw [hy358];exact H)|exact H
 have Ny358:=Aside0.mk hy358
 clear hy358
 obtain ⟨y362,hy362⟩:∃ y_:List Int,y_=(([0,2,4,2,1,0]:List Int)):=⟨_,rfl⟩
 replace H:(some (3,y358,(([(⟨1,y362⟩:S62),(⟨0,(([0,2,3,2,4,2,1]:List Int))⟩:S62),(⟨1,(([4,2,1,0,2]:List Int))⟩:S62)]:List (S62)))))=some (r1,r2,r3):=by first|(rw [hy362];with_reducible exact H)|(have H2_:=(Option.bind_some _ _).symm.trans H;rw [hy362];with_reducible exact H2_)|(have H2_:=(Option.bind_some _ _).symm.trans H;with_reducible exact H2_)|with_reducible exact H|(rw [hy362];exact H)|exact H
 have Ny362:=Aside0.mk hy362
 clear hy362
 obtain ⟨y365,hy365⟩:∃ y_:List Int,y_=(([0,2,3,2,4,2,1]:List Int)):=⟨_,rfl⟩
 replace H:(some (3,y358,(([(⟨1,y362⟩:S62),(⟨0,y365⟩:S62),(⟨1,(([4,2,1,0,2]:List Int))⟩:S62)]:List (S62)))))=some (r1,r2,r3):=by first|(rw [hy365];with_reducible exact H)|(have H2_:=(Option.bind_some _ _).symm.trans H;rw [hy365];with_reducible exact H2_)|(have H2_:=(Option.bind_some _ _).symm.trans H;with_reducible exact H2_)|with_reducible exact H|(rw [hy365];exact H)|exact H
 have Ny365:=Aside0.mk hy365
 clear hy365
 obtain ⟨y368,hy368⟩:∃ y_:List Int,y_=(([4,2,1,0,2]:List Int)):=⟨_,rfl⟩
 replace H:(some (3,y358,(([(⟨1,y362⟩:S62),(⟨0,y365⟩:S62),(⟨1,y368⟩:S62)]:List (S62)))))=some (r1,r2,r3):=by first|(rw [hy368];with_reducible exact H)|(have H2_:=(Option.bind_some _ _).symm.trans H;rw [hy368];with_reducible exact H2_)|(have H2_:=(Option.bind_some _ _).symm.trans H;with_reducible exact H2_)|with_reducible exact H|(rw [hy368];exact H)|exact H
 have Ny368:=Aside0.mk hy368
 clear hy368
 obtain ⟨y371,hy371⟩:∃ y_:List (S62),y_=(([(⟨1,y362⟩:S62),(⟨0,y365⟩:S62),(⟨1,y368⟩:S62)]:List (S62))):=⟨_,rfl⟩
 replace H:(some (3,y358,y371))=some (r1,r2,r3):=by first|(rw [hy371];with_reducible exact H)|(have H2_:=(Option.bind_some _ _).symm.trans H;rw [hy371];with_reducible exact H2_)|(have H2_:=(Option.bind_some _ _).symm.trans H;with_reducible exact H2_)|with_reducible exact H|(rw [hy371];exact H)|exact H
 have Ny371:=Aside0.mk hy371
 clear hy371
 simp only [Option.some.injEq,Prod.mk.injEq] at H
 obtain ⟨rfl,rfl,rfl⟩:=H
 go_enter Tryd.func50,Tryd.ntmps50
 go_wp2_with (first|((with_reducible refine gate_dst (N:=0) rfl ?_);refine box_event ?hg (N:=0) ?hd (cs:=#[.int .i64 0,.slice none 0 0,.slice none 0 0]) (t:=27) ?hr ?_;(case hd=>rfl);(case hg=>rfl);(case hr=>first|(go_simp;done)|(go_simp;rfl));intro gb333 hg w1 hbox hb;have n0_:=Aside0.mk (below_step (by repeat (first|(with_reducible first|exact HB.out|apply below_alloc|apply pw_below_drewN|apply below_drew1)|exact HB.out)) hb);have n1_:=Aside0.mk (hbox);have n2_:=Aside0.mk ((by rw [hg];exact (below_size (by repeat (first|(with_reducible first|exact HB.out|apply below_alloc|apply pw_below_drewN|apply below_drew1)|exact HB.out))):w.heap.size≤gb333));have n3_:=Aside0.mk ((by rw [hg];exact (below_size (by repeat (first|(with_reducible first|exact HB.out|apply below_alloc|apply pw_below_drewN|apply below_drew1)|exact HB.out))):w.heap.size≤gb333));clear HB;have HB:=n0_;have BK333:=n1_;have GW333:=n2_;have GE333:=n3_;clear n0_ n1_ n2_ n3_;clear hb hbox hg)|((with_reducible refine gate_dst (N:=2) rfl ?_);refine Kd.R_lit (Kd.int .i64) _ 3 ?hg (N:=2) ?hd (xs:=([7]:List Int)) (inner:=[.int .i64 7]) (ok:=fun _=>True) (okp:=fun _=>True) ?hr ?hp (fun _ hk=>hk) trivial (Below.refl _ _) (Nat.le_refl _) (by simp) ?_;(case hd=>rfl);(case hg=>rfl);(case hr=>first|(go_simp;done)|(go_simp;rfl));(case hp=>exact (Reps.one (show Kd.M (Kd.int .i64) _ _ _ 7 [.int .i64 7] from rfl) (Reps.none _ _)));intro v335 w2 ho3 hb hg_ hnew_;clear hg_ hnew_;(first|rw [← Ny334.out] at ho3|(simp only [Int.reduceToNat] at ho3;rw [← Ny334.out] at ho3));have n0_:=Aside0.mk (Kd.R_lower (Kd.R_newM (M:=fun k_=>(w.heap.size≤k_)) ho3 (below_size (by repeat (first|(with_reducible first|exact HB.out|apply below_alloc|apply pw_below_drewN|apply below_drew1|refine below_set ?_ GE333.out)|exact HB.out))) (fun k_ h_=>h_)) (below_size (by repeat (first|(with_reducible first|exact HB.out|apply below_alloc|apply pw_below_drewN|apply below_drew1|refine below_set ?_ GE333.out)|exact HB.out))));have n1_:=Aside0.mk (blk_below (g:=gb333) (o:=.cells #[.int .i64 0,.slice none 0 0,.slice none 0 0] 27 (0,0)) (by (with_reducible repeat (first|refine blk_drewN ?_ _|refine blk_drew ?_|refine blk_alloc ?_ _));exact BK333.out) hb);have n2_:=Aside0.mk (below_step (by repeat (first|(with_reducible first|exact HB.out|apply below_alloc|apply pw_below_drewN|apply below_drew1|refine below_set ?_ GE333.out)|exact HB.out)) hb);clear BK333;clear HB;have HO336:=n0_;have BK333:=n1_;have HB:=n2_;clear n0_ n1_ n2_;clear hb ho3)|((with_reducible refine gate_dst (N:=3) rfl ?_);refine Kd.R_lit (Kd.int .i64) _ 3 ?hg (N:=3) ?hd (xs:=([3,7]:List Int)) (inner:=[.int .i64 3,.int .i64 7]) (ok:=fun _=>True) (okp:=fun _=>True) ?hr ?hp (fun _ hk=>hk) trivial (Below.refl _ _) (Nat.le_refl _) (by simp) ?_;(case hd=>rfl);(case hg=>rfl);(case hr=>first|(go_simp;done)|(go_simp;rfl));(case hp=>exact (Reps.one (show Kd.M (Kd.int .i64) _ _ _ 3 [.int .i64 3] from rfl) (Reps.one (show Kd.M (Kd.int .i64) _ _ _ 7 [.int .i64 7] from rfl) (Reps.none _ _))));intro v338 w4 ho5 hb hg_ hnew_;clear hg_ hnew_;(first|rw [← Ny337.out] at ho5|(simp only [Int.reduceToNat] at ho5;rw [← Ny337.out] at ho5));have n0_:=Aside0.mk (Kd.R_elder' (by (with_reducible repeat (first|apply Kd.R_alloc|apply Kd.R_drewN|apply Kd.R_drew));exact HO336.out) (Kd.R_base ho5) hb);have n1_:=Aside0.mk (Kd.R_lower (Kd.R_new' (Kd.R_newM (M:=fun k_=>(w.heap.size≤k_)) ho5 (below_size (by repeat (first|(with_reducible first|exact HB.out|apply below_alloc|apply pw_below_drewN|apply below_drew1|refine below_set ?_ GE333.out)|exact HB.out))) (fun k_ h_=>h_)) (Kd.R_lt (by (with_reducible repeat (first|apply Kd.R_alloc|apply Kd.R_drewN|apply Kd.R_drew));exact HO336.out))) (below_size (by repeat (first|(with_reducible first|exact HB.out|apply below_alloc|apply pw_below_drewN|apply below_drew1|refine below_set ?_ GE333.out)|exact HB.out))));have n2_:=Aside0.mk (blk_below (g:=gb333) (o:=.cells #[.int .i64 0,.slice none 0 0,.slice none 0 0] 27 (0,0)) (by (with_reducible repeat (first|refine blk_drewN ?_ _|refine blk_drew ?_|refine blk_alloc ?_ _));exact BK333.out) hb);have n3_:=Aside0.mk (below_step (by repeat (first|(with_reducible first|exact HB.out|apply below_alloc|apply pw_below_drewN|apply below_drew1|refine below_set ?_ GE333.out)|exact HB.out)) hb);clear HO336;clear BK333;clear HB;have HO336:=n0_;have HO339:=n1_;have BK333:=n2_;have HB:=n3_;clear n0_ n1_ n2_ n3_;clear hb ho5)|((with_reducible refine gate_dst (N:=4) rfl ?_);refine Kd.R_lit (Kd.int .i64) _ 3 ?hg (N:=4) ?hd (xs:=([0,2,4,6]:List Int)) (inner:=[.int .i64 0,.int .i64 2,.int .i64 4,.int .i64 6]) (ok:=fun _=>True) (okp:=fun _=>True) ?hr ?hp (fun _ hk=>hk) trivial (Below.refl _ _) (Nat.le_refl _) (by simp) ?_;(case hd=>rfl);(case hg=>rfl);(case hr=>first|(go_simp;done)|(go_simp;rfl));(case hp=>exact (Reps.one (show Kd.M (Kd.int .i64) _ _ _ 0 [.int .i64 0] from rfl) (Reps.one (show Kd.M (Kd.int .i64) _ _ _ 2 [.int .i64 2] from rfl) (Reps.one (show Kd.M (Kd.int .i64) _ _ _ 4 [.int .i64 4] from rfl) (Reps.one (show Kd.M (Kd.int .i64) _ _ _ 6 [.int .i64 6] from rfl) (Reps.none _ _))))));intro v341 w6 ho7 hb hg_ hnew_;clear hg_ hnew_;(first|rw [← Ny340.out] at ho7|(simp only [Int.reduceToNat] at ho7;rw [← Ny340.out] at ho7));have n0_:=Aside0.mk (Kd.R_elder' (by (with_reducible repeat (first|apply Kd.R_alloc|apply Kd.R_drewN|apply Kd.R_drew));exact HO336.out) (Kd.R_base ho7) hb);have n1_:=Aside0.mk (Kd.R_elder' (by (with_reducible repeat (first|apply Kd.R_alloc|apply Kd.R_drewN|apply Kd.R_drew));exact HO339.out) (Kd.R_base ho7) hb);have n2_:=Aside0.mk (Kd.R_lower (Kd.R_new' (Kd.R_new' (Kd.R_newM (M:=fun k_=>(w.heap.size≤k_)) ho7 (below_size (by repeat (first|(with_reducible first|exact HB.out|apply below_alloc|apply pw_below_drewN|apply below_drew1|refine below_set ?_ GE333.out)|exact HB.out))) (fun k_ h_=>h_)) (Kd.R_lt (by (with_reducible repeat (first|apply Kd.R_alloc|apply Kd.R_drewN|apply Kd.R_drew));exact HO336.out))) (Kd.R_lt (by (with_reducible repeat (first|apply Kd.R_alloc|apply Kd.R_drewN|apply Kd.R_drew));exact HO339.out))) (below_size (by repeat (first|(with_reducible first|exact HB.out|apply below_alloc|apply pw_below_drewN|apply below_drew1|refine below_set ?_ GE333.out)|exact HB.out))));have n3_:=Aside0.mk (blk_below (g:=gb333) (o:=.cells #[.int .i64 0,.slice none 0 0,.slice none 0 0] 27 (0,0)) (by (with_reducible repeat (first|refine blk_drewN ?_ _|refine blk_drew ?_|refine blk_alloc ?_ _));exact BK333.out) hb);have n4_:=Aside0.mk (below_step (by repeat (first|(with_reducible first|exact HB.out|apply below_alloc|apply pw_below_drewN|apply below_drew1|refine below_set ?_ GE333.out)|exact HB.out)) hb);clear HO336;clear HO339;clear BK333;clear HB;have HO336:=n0_;have HO339:=n1_;have HO342:=n2_;have BK333:=n3_;have HB:=n4_;clear n0_ n1_ n2_ n3_ n4_;clear hb ho7;obtain ⟨Ao8,co8,eo8⟩:=Kd.R_slice HO336.out;subst eo8;obtain ⟨Ao9,co9,eo9⟩:=Kd.R_slice HO339.out;subst eo9;obtain ⟨Ao10,co10,eo10⟩:=Kd.R_slice HO342.out;subst eo10)|((with_reducible refine gate_dst (N:=5) rfl ?_);refine Kd.N_lit (Kd.slice 3 (Kd.int .i64)) _ 28 ?hg (N':=5) ?hd (xs:=([y334,y337,y340]:List (List Int))) (inner:=[.slice Ao8 y334.length co8,.slice Ao9 y337.length co9,.slice Ao10 y340.length co10]) (ok:=(fun k_=>(w.heap.size≤k_)∧k_≠gb333)) (okp:=(fun k_=>(w.heap.size≤k_)∧k_≠gb333)) ?hr ?hp (fun _ hk=>hk) ((show ∀ k_,w6.heap.size≤k_→(fun k_=>(w.heap.size≤k_)∧k_≠gb333) k_ from fun k_ hk=>⟨(Nat.le_trans (below_size (by repeat (first|(with_reducible first|exact HB.out|apply below_alloc|apply pw_below_drewN|apply below_drew1|refine below_set ?_ GE333.out)|exact HB.out))) hk),Kd.freshB (g:=gb333) (o:=.cells #[.int .i64 0,.slice none 0 0,.slice none 0 0] 27 (0,0)) (by (with_reducible repeat (first|refine blk_drewN ?_ _|refine blk_drew ?_|refine blk_alloc ?_ _));exact BK333.out) k_ hk⟩) _ (Nat.le_refl _)) (Below.refl _ _) (Nat.le_refl _) (by simp) ?_;(case hd=>rfl);(case hg=>rfl);(case hr=>first|(go_simp;done)|(go_simp;rfl));(case hp=>exact (Reps.one (show Kd.FK (Kd.slice 3 (Kd.int .i64)) _ _ y334 [.slice Ao8 y334.length co8] from (Kd.FK_slice_mk (Kd.R_reads' (Kd.R_mono (ok':=(fun k_=>(w.heap.size≤k_)∧k_≠gb333)) (Kd.R_types (HO336.out) BK333.out (by decide)) (fun k_ hk=>⟨hk.1.1.1.1,hk.2⟩))).2.1 (Kd.R_F (Kd.R_mono (ok':=(fun k_=>(w.heap.size≤k_)∧k_≠gb333)) (Kd.R_types (HO336.out) BK333.out (by decide)) (fun k_ hk=>⟨hk.1.1.1.1,hk.2⟩))))) (Reps.one (show Kd.FK (Kd.slice 3 (Kd.int .i64)) _ _ y337 [.slice Ao9 y337.length co9] from (Kd.FK_slice_mk (Kd.R_reads' (Kd.R_mono (ok':=(fun k_=>(w.heap.size≤k_)∧k_≠gb333)) (Kd.R_types (HO339.out) BK333.out (by decide)) (fun k_ hk=>⟨hk.1.1.1.1,hk.2⟩))).2.1 (Kd.R_F (Kd.R_mono (ok':=(fun k_=>(w.heap.size≤k_)∧k_≠gb333)) (Kd.R_types (HO339.out) BK333.out (by decide)) (fun k_ hk=>⟨hk.1.1.1.1,hk.2⟩))))) (Reps.one (show Kd.FK (Kd.slice 3 (Kd.int .i64)) _ _ y340 [.slice Ao10 y340.length co10] from (Kd.FK_slice_mk (Kd.R_reads' (Kd.R_mono (ok':=(fun k_=>(w.heap.size≤k_)∧k_≠gb333)) (Kd.R_types (HO342.out) BK333.out (by decide)) (fun k_ hk=>⟨hk.1.1.1.1,hk.2⟩))).2.1 (Kd.R_F (Kd.R_mono (ok':=(fun k_=>(w.heap.size≤k_)∧k_≠gb333)) (Kd.R_types (HO342.out) BK333.out (by decide)) (fun k_ hk=>⟨hk.1.1.1.1,hk.2⟩))))) (Reps.none _ _)))));intro v344 w11 ho12 hb hg_ hnew_;clear hg_ hnew_;(first|rw [← Ny343.out] at ho12|(simp only [Int.reduceToNat] at ho12;rw [← Ny343.out] at ho12));have n0_:=Aside0.mk (Kd.N_lower ho12 (below_size (by repeat (first|(with_reducible first|exact HB.out|apply below_alloc|apply pw_below_drewN|apply below_drew1|refine below_set ?_ GE333.out)|exact HB.out))));have n1_:=Aside0.mk (blk_below (g:=gb333) (o:=.cells #[.int .i64 0,.slice none 0 0,.slice none 0 0] 27 (0,0)) (by (with_reducible repeat (first|refine blk_drewN ?_ _|refine blk_drew ?_|refine blk_alloc ?_ _));exact BK333.out) hb);have n2_:=Aside0.mk (below_step (by repeat (first|(with_reducible first|exact HB.out|apply below_alloc|apply pw_below_drewN|apply below_drew1|refine below_set ?_ GE333.out)|exact HB.out)) hb);clear BK333;clear HB;clear HO336;clear HO339;clear HO342;have HO345:=n0_;have BK333:=n1_;have HB:=n2_;clear n0_ n1_ n2_;clear hb ho12;obtain ⟨Ao13,co13,eo13⟩:=Kd.N_slice HO345.out;subst eo13)|((with_reducible refine gate_dst (N:=7) rfl ?_);refine Kd.R_lit (Kd.int .i64) _ 3 ?hg (N:=7) ?hd (xs:=([3]:List Int)) (inner:=[.int .i64 3]) (ok:=fun _=>True) (okp:=fun _=>True) ?hr ?hp (fun _ hk=>hk) trivial (Below.refl _ _) (Nat.le_refl _) (by simp) ?_;(case hd=>rfl);(case hg=>rfl);(case hr=>first|(go_simp;done)|(go_simp;rfl));(case hp=>exact (Reps.one (show Kd.M (Kd.int .i64) _ _ _ 3 [.int .i64 3] from rfl) (Reps.none _ _)));intro v347 w14 ho15 hb hg_ hnew_;clear hg_ hnew_;(first|rw [← Ny346.out] at ho15|(simp only [Int.reduceToNat] at ho15;rw [← Ny346.out] at ho15));have n0_:=Aside0.mk (Kd.N_elder' (by (with_reducible repeat (first|apply Kd.N_alloc|apply Kd.N_drewN|apply Kd.N_drew));exact HO345.out) (Kd.R_base ho15) hb);have n1_:=Aside0.mk (Kd.R_lower (Kd.R_newM (M:=fun k_=>(w.heap.size≤k_)) ho15 (below_size (by repeat (first|(with_reducible first|exact HB.out|apply below_alloc|apply pw_below_drewN|apply below_drew1|refine below_set ?_ GE333.out)|exact HB.out))) (fun k_ h_=>h_)) (below_size (by repeat (first|(with_reducible first|exact HB.out|apply below_alloc|apply pw_below_drewN|apply below_drew1|refine below_set ?_ GE333.out)|exact HB.out))));have n2_:=Aside0.mk (blk_below (g:=gb333) (o:=.cells #[.int .i64 0,.slice none 0 0,.slice none 0 0] 27 (0,0)) (by (with_reducible repeat (first|refine blk_drewN ?_ _|refine blk_drew ?_|refine blk_alloc ?_ _));exact BK333.out) hb);have n3_:=Aside0.mk (below_step (by repeat (first|(with_reducible first|exact HB.out|apply below_alloc|apply pw_below_drewN|apply below_drew1|refine below_set ?_ GE333.out)|exact HB.out)) hb);clear HO345;clear BK333;clear HB;have HO345:=n0_;have HO348:=n1_;have BK333:=n2_;have HB:=n3_;clear n0_ n1_ n2_ n3_;clear hb ho15)|((with_reducible refine gate_dst (N:=8) rfl ?_);refine Kd.R_lit (Kd.int .i64) _ 3 ?hg (N:=8) ?hd (xs:=([1]:List Int)) (inner:=[.int .i64 1]) (ok:=fun _=>True) (okp:=fun _=>True) ?hr ?hp (fun _ hk=>hk) trivial (Below.refl _ _) (Nat.le_refl _) (by simp) ?_;(case hd=>rfl);(case hg=>rfl);(case hr=>first|(go_simp;done)|(go_simp;rfl));(case hp=>exact (Reps.one (show Kd.M (Kd.int .i64) _ _ _ 1 [.int .i64 1] from rfl) (Reps.none _ _)));intro v350 w16 ho17 hb hg_ hnew_;clear hg_ hnew_;(first|rw [← Ny349.out] at ho17|(simp only [Int.reduceToNat] at ho17;rw [← Ny349.out] at ho17));have n0_:=Aside0.mk (Kd.N_elder' (by (with_reducible repeat (first|apply Kd.N_alloc|apply Kd.N_drewN|apply Kd.N_drew));exact HO345.out) (Kd.R_base ho17) hb);have n1_:=Aside0.mk (Kd.R_elder' (by (with_reducible repeat (first|apply Kd.R_alloc|apply Kd.R_drewN|apply Kd.R_drew));exact HO348.out) (Kd.R_base ho17) hb);have n2_:=Aside0.mk (Kd.R_lower (Kd.R_new' (Kd.R_newM (M:=fun k_=>(w.heap.size≤k_)) ho17 (below_size (by repeat (first|(with_reducible first|exact HB.out|apply below_alloc|apply pw_below_drewN|apply below_drew1|refine below_set ?_ GE333.out)|exact HB.out))) (fun k_ h_=>h_)) (Kd.R_lt (by (with_reducible repeat (first|apply Kd.R_alloc|apply Kd.R_drewN|apply Kd.R_drew));exact HO348.out))) (below_size (by repeat (first|(with_reducible first|exact HB.out|apply below_alloc|apply pw_below_drewN|apply below_drew1|refine below_set ?_ GE333.out)|exact HB.out))));have n3_:=Aside0.mk (blk_below (g:=gb333) (o:=.cells #[.int .i64 0,.slice none 0 0,.slice none 0 0] 27 (0,0)) (by (with_reducible repeat (first|refine blk_drewN ?_ _|refine blk_drew ?_|refine blk_alloc ?_ _));exact BK333.out) hb);have n4_:=Aside0.mk (below_step (by repeat (first|(with_reducible first|exact HB.out|apply below_alloc|apply pw_below_drewN|apply below_drew1|refine below_set ?_ GE333.out)|exact HB.out)) hb);clear HO345;clear HO348;clear BK333;clear HB;have HO345:=n0_;have HO348:=n1_;have HO351:=n2_;have BK333:=n3_;have HB:=n4_;clear n0_ n1_ n2_ n3_ n4_;clear hb ho17)|((with_reducible refine gate_dst (N:=9) rfl ?_);refine Kd.R_lit (Kd.int .i64) _ 3 ?hg (N:=9) ?hd (xs:=([0,2]:List Int)) (inner:=[.int .i64 0,.int .i64 2]) (ok:=fun _=>True) (okp:=fun _=>True) ?hr ?hp (fun _ hk=>hk) trivial (Below.refl _ _) (Nat.le_refl _) (by simp) ?_;(case hd=>rfl);(case hg=>rfl);(case hr=>first|(go_simp;done)|(go_simp;rfl));(case hp=>exact (Reps.one (show Kd.M (Kd.int .i64) _ _ _ 0 [.int .i64 0] from rfl) (Reps.one (show Kd.M (Kd.int .i64) _ _ _ 2 [.int .i64 2] from rfl) (Reps.none _ _))));intro v353 w18 ho19 hb hg_ hnew_;clear hg_ hnew_;(first|rw [← Ny352.out] at ho19|(simp only [Int.reduceToNat] at ho19;rw [← Ny352.out] at ho19));have n0_:=Aside0.mk (Kd.N_elder' (by (with_reducible repeat (first|apply Kd.N_alloc|apply Kd.N_drewN|apply Kd.N_drew));exact HO345.out) (Kd.R_base ho19) hb);have n1_:=Aside0.mk (Kd.R_elder' (by (with_reducible repeat (first|apply Kd.R_alloc|apply Kd.R_drewN|apply Kd.R_drew));exact HO348.out) (Kd.R_base ho19) hb);have n2_:=Aside0.mk (Kd.R_elder' (by (with_reducible repeat (first|apply Kd.R_alloc|apply Kd.R_drewN|apply Kd.R_drew));exact HO351.out) (Kd.R_base ho19) hb);have n3_:=Aside0.mk (Kd.R_lower (Kd.R_new' (Kd.R_new' (Kd.R_newM (M:=fun k_=>(w.heap.size≤k_)) ho19 (below_size (by repeat (first|(with_reducible first|exact HB.out|apply below_alloc|apply pw_below_drewN|apply below_drew1|refine below_set ?_ GE333.out)|exact HB.out))) (fun k_ h_=>h_)) (Kd.R_lt (by (with_reducible repeat (first|apply Kd.R_alloc|apply Kd.R_drewN|apply Kd.R_drew));exact HO348.out))) (Kd.R_lt (by (with_reducible repeat (first|apply Kd.R_alloc|apply Kd.R_drewN|apply Kd.R_drew));exact HO351.out))) (below_size (by repeat (first|(with_reducible first|exact HB.out|apply below_alloc|apply pw_below_drewN|apply below_drew1|refine below_set ?_ GE333.out)|exact HB.out))));have n4_:=Aside0.mk (blk_below (g:=gb333) (o:=.cells #[.int .i64 0,.slice none 0 0,.slice none 0 0] 27 (0,0)) (by (with_reducible repeat (first|refine blk_drewN ?_ _|refine blk_drew ?_|refine blk_alloc ?_ _));exact BK333.out) hb);have n5_:=Aside0.mk (below_step (by repeat (first|(with_reducible first|exact HB.out|apply below_alloc|apply pw_below_drewN|apply below_drew1|refine below_set ?_ GE333.out)|exact HB.out)) hb);clear HO345;clear HO348;clear HO351;clear BK333;clear HB;have HO345:=n0_;have HO348:=n1_;have HO351:=n2_;have HO354:=n3_;have BK333:=n4_;have HB:=n5_;clear n0_ n1_ n2_ n3_ n4_ n5_;clear hb ho19;obtain ⟨Ao20,co20,eo20⟩:=Kd.R_slice HO348.out;subst eo20;obtain ⟨Ao21,co21,eo21⟩:=Kd.R_slice HO351.out;subst eo21;obtain ⟨Ao22,co22,eo22⟩:=Kd.R_slice HO354.out;subst eo22)|((with_reducible refine gate_dst (N:=10) rfl ?_);refine Kd.N_lit (Kd.slice 3 (Kd.int .i64)) _ 28 ?hg (N':=10) ?hd (xs:=([y346,y349,y352]:List (List Int))) (inner:=[.slice Ao20 y346.length co20,.slice Ao21 y349.length co21,.slice Ao22 y352.length co22]) (ok:=(fun k_=>(w.heap.size≤k_)∧some k_≠(.slice Ao13 y343.length co13:Value).ownBlock∧k_≠gb333)) (okp:=(fun k_=>(w.heap.size≤k_)∧some k_≠(.slice Ao13 y343.length co13:Value).ownBlock∧k_≠gb333)) ?hr ?hp (fun _ hk=>hk) ((show ∀ k_,w18.heap.size≤k_→(fun k_=>(w.heap.size≤k_)∧some k_≠(.slice Ao13 y343.length co13:Value).ownBlock∧k_≠gb333) k_ from fun k_ hk=>⟨(Nat.le_trans (below_size (by repeat (first|(with_reducible first|exact HB.out|apply below_alloc|apply pw_below_drewN|apply below_drew1|refine below_set ?_ GE333.out)|exact HB.out))) hk),Kd.fresh' (Kd.N_lt (by (with_reducible repeat (first|apply Kd.N_alloc|apply Kd.N_drewN|apply Kd.N_drew));exact HO345.out)) k_ hk,Kd.freshB (g:=gb333) (o:=.cells #[.int .i64 0,.slice none 0 0,.slice none 0 0] 27 (0,0)) (by (with_reducible repeat (first|refine blk_drewN ?_ _|refine blk_drew ?_|refine blk_alloc ?_ _));exact BK333.out) k_ hk⟩) _ (Nat.le_refl _)) (Below.refl _ _) (Nat.le_refl _) (by simp) ?_;(case hd=>rfl);(case hg=>rfl);(case hr=>first|(go_simp;done)|(go_simp;rfl));(case hp=>exact (Reps.one (show Kd.FK (Kd.slice 3 (Kd.int .i64)) _ _ y346 [.slice Ao20 y346.length co20] from (Kd.FK_slice_mk (Kd.R_reads' (Kd.R_mono (ok':=(fun k_=>(w.heap.size≤k_)∧some k_≠(.slice Ao13 y343.length co13:Value).ownBlock∧k_≠gb333)) (Kd.R_types (Kd.R_apart' (HO348.out) (Kd.N_typed HO345.out) (by decide)) BK333.out (by decide)) (fun k_ hk=>⟨hk.1.1.1.1.1,⟨hk.1.2,hk.2⟩⟩))).2.1 (Kd.R_F (Kd.R_mono (ok':=(fun k_=>(w.heap.size≤k_)∧some k_≠(.slice Ao13 y343.length co13:Value).ownBlock∧k_≠gb333)) (Kd.R_types (Kd.R_apart' (HO348.out) (Kd.N_typed HO345.out) (by decide)) BK333.out (by decide)) (fun k_ hk=>⟨hk.1.1.1.1.1,⟨hk.1.2,hk.2⟩⟩))))) (Reps.one (show Kd.FK (Kd.slice 3 (Kd.int .i64)) _ _ y349 [.slice Ao21 y349.length co21] from (Kd.FK_slice_mk (Kd.R_reads' (Kd.R_mono (ok':=(fun k_=>(w.heap.size≤k_)∧some k_≠(.slice Ao13 y343.length co13:Value).ownBlock∧k_≠gb333)) (Kd.R_types (Kd.R_apart' (HO351.out) (Kd.N_typed HO345.out) (by decide)) BK333.out (by decide)) (fun k_ hk=>⟨hk.1.1.1.1.1,⟨hk.1.2,hk.2⟩⟩))).2.1 (Kd.R_F (Kd.R_mono (ok':=(fun k_=>(w.heap.size≤k_)∧some k_≠(.slice Ao13 y343.length co13:Value).ownBlock∧k_≠gb333)) (Kd.R_types (Kd.R_apart' (HO351.out) (Kd.N_typed HO345.out) (by decide)) BK333.out (by decide)) (fun k_ hk=>⟨hk.1.1.1.1.1,⟨hk.1.2,hk.2⟩⟩))))) (Reps.one (show Kd.FK (Kd.slice 3 (Kd.int .i64)) _ _ y352 [.slice Ao22 y352.length co22] from (Kd.FK_slice_mk (Kd.R_reads' (Kd.R_mono (ok':=(fun k_=>(w.heap.size≤k_)∧some k_≠(.slice Ao13 y343.length co13:Value).ownBlock∧k_≠gb333)) (Kd.R_types (Kd.R_apart' (HO354.out) (Kd.N_typed HO345.out) (by decide)) BK333.out (by decide)) (fun k_ hk=>⟨hk.1.1.1.1.1,⟨hk.1.2,hk.2⟩⟩))).2.1 (Kd.R_F (Kd.R_mono (ok':=(fun k_=>(w.heap.size≤k_)∧some k_≠(.slice Ao13 y343.length co13:Value).ownBlock∧k_≠gb333)) (Kd.R_types (Kd.R_apart' (HO354.out) (Kd.N_typed HO345.out) (by decide)) BK333.out (by decide)) (fun k_ hk=>⟨hk.1.1.1.1.1,⟨hk.1.2,hk.2⟩⟩))))) (Reps.none _ _)))));intro v356 w23 ho24 hb hg_ hnew_;clear hg_ hnew_;(first|rw [← Ny355.out] at ho24|(simp only [Int.reduceToNat] at ho24;rw [← Ny355.out] at ho24));have n0_:=Aside0.mk (Kd.N_elder' (by (with_reducible repeat (first|apply Kd.N_alloc|apply Kd.N_drewN|apply Kd.N_drew));exact HO345.out) (Kd.N_base ho24) hb);have n1_:=Aside0.mk (Kd.N_lower ho24 (below_size (by repeat (first|(with_reducible first|exact HB.out|apply below_alloc|apply pw_below_drewN|apply below_drew1|refine below_set ?_ GE333.out)|exact HB.out))));have n2_:=Aside0.mk (blk_below (g:=gb333) (o:=.cells #[.int .i64 0,.slice none 0 0,.slice none 0 0] 27 (0,0)) (by (with_reducible repeat (first|refine blk_drewN ?_ _|refine blk_drew ?_|refine blk_alloc ?_ _));exact BK333.out) hb);have n3_:=Aside0.mk (below_step (by repeat (first|(with_reducible first|exact HB.out|apply below_alloc|apply pw_below_drewN|apply below_drew1|refine below_set ?_ GE333.out)|exact HB.out)) hb);clear HO345;clear BK333;clear HB;clear HO348;clear HO351;clear HO354;have HO345:=n0_;have HO357:=n1_;have BK333:=n2_;have HB:=n3_;clear n0_ n1_ n2_ n3_;clear hb ho24;obtain ⟨Ao25,co25,eo25⟩:=Kd.N_slice HO357.out;subst eo25)|((with_reducible refine gate_dst (N:=12) rfl ?_);refine Kd.N_lit k85 _ 85 ?hg (N':=12) ?hd (xs:=([(⟨8,y343⟩:S85),(⟨4,y355⟩:S85)]:List (S85))) (inner:=[.int .i64 8,.slice Ao13 y343.length co13,.int .i64 4,.slice Ao25 y355.length co25]) (ok:=(fun k_=>(w.heap.size≤k_)∧k_≠gb333)) (okp:=(fun k_=>(w.heap.size≤k_)∧k_≠gb333)) ?hr ?hp (fun _ hk=>hk) ((show ∀ k_,w23.heap.size≤k_→(fun k_=>(w.heap.size≤k_)∧k_≠gb333) k_ from fun k_ hk=>⟨(Nat.le_trans (below_size (by repeat (first|(with_reducible first|exact HB.out|apply below_alloc|apply pw_below_drewN|apply below_drew1|refine below_set ?_ GE333.out)|exact HB.out))) hk),Kd.freshB (g:=gb333) (o:=.cells #[.int .i64 0,.slice none 0 0,.slice none 0 0] 27 (0,0)) (by (with_reducible repeat (first|refine blk_drewN ?_ _|refine blk_drew ?_|refine blk_alloc ?_ _));exact BK333.out) k_ hk⟩) _ (Nat.le_refl _)) (Below.refl _ _) (Nat.le_refl _) (by simp) ?_;(case hd=>rfl);(case hg=>rfl);(case hr=>first|(go_simp;done)|(go_simp;rfl));(case hp=>exact (Reps.c2 (show Kd.FK k85 _ _ (⟨8,y343⟩:S85) [.int .i64 8,.slice Ao13 y343.length co13] from (k85_mkF _ _ (⟨8,y343⟩:S85) (Kd.N_reads' (Kd.N_mono (ok':=(fun k_=>(w.heap.size≤k_)∧k_≠gb333)) (HO345.out) (fun k_ hk=>⟨hk.1.1.1.1.1,hk.1.1.1.1.2⟩))).2.1 (Kd.N_F (Kd.N_mono (ok':=(fun k_=>(w.heap.size≤k_)∧k_≠gb333)) (HO345.out) (fun k_ hk=>⟨hk.1.1.1.1.1,hk.1.1.1.1.2⟩))))) (Reps.c2 (show Kd.FK k85 _ _ (⟨4,y355⟩:S85) [.int .i64 4,.slice Ao25 y355.length co25] from (k85_mkF _ _ (⟨4,y355⟩:S85) (Kd.N_reads' (Kd.N_mono (ok':=(fun k_=>(w.heap.size≤k_)∧k_≠gb333)) (HO357.out) (fun k_ hk=>⟨hk.1,hk.2.2⟩))).2.1 (Kd.N_F (Kd.N_mono (ok':=(fun k_=>(w.heap.size≤k_)∧k_≠gb333)) (HO357.out) (fun k_ hk=>⟨hk.1,hk.2.2⟩))))) (Reps.none _ _))));intro v359 w26 ho27 hb hg_ hnew_;clear hg_ hnew_;(first|rw [← Ny358.out] at ho27|(simp only [Int.reduceToNat] at ho27;rw [← Ny358.out] at ho27));have n0_:=Aside0.mk (Kd.N_lower ho27 (below_size (by repeat (first|(with_reducible first|exact HB.out|apply below_alloc|apply pw_below_drewN|apply below_drew1|refine below_set ?_ GE333.out)|exact HB.out))));have n1_:=Aside0.mk (blk_below (g:=gb333) (o:=.cells #[.int .i64 0,.slice none 0 0,.slice none 0 0] 27 (0,0)) (by (with_reducible repeat (first|refine blk_drewN ?_ _|refine blk_drew ?_|refine blk_alloc ?_ _));exact BK333.out) hb);have n2_:=Aside0.mk (below_step (by repeat (first|(with_reducible first|exact HB.out|apply below_alloc|apply pw_below_drewN|apply below_drew1|refine below_set ?_ GE333.out)|exact HB.out)) hb);clear BK333;clear HB;clear HO345;clear HO357;have HO360:=n0_;have BK333:=n1_;have HB:=n2_;clear n0_ n1_ n2_;clear hb ho27;obtain ⟨Ao28,co28,eo28⟩:=Kd.N_slice HO360.out;subst eo28)|((with_reducible refine gate_dst (N:=1) rfl ?_);refine box_event ?hg (N:=1) ?hd (cs:=#[.int .i64 0,.slice none 0 0]) (t:=24) ?hr ?_;(case hd=>rfl);(case hg=>rfl);(case hr=>first|(go_simp;done)|(go_simp;rfl));intro gb361 hg w29 hbox hb;have n0_:=Aside0.mk (Kd.N_below (Kd.N_elderB (by (with_reducible repeat (first|apply Kd.N_alloc|apply Kd.N_drewN|apply Kd.N_drew));exact HO360.out) gb361 (Nat.le_of_eq hg.symm)) hb);have n1_:=Aside0.mk (blk_below (g:=gb333) (o:=.cells #[.int .i64 0,.slice none 0 0,.slice none 0 0] 27 (0,0)) (by (with_reducible repeat (first|refine blk_drewN ?_ _|refine blk_drew ?_|refine blk_alloc ?_ _));exact BK333.out) hb);have n2_:=Aside0.mk (below_step (by repeat (first|(with_reducible first|exact HB.out|apply below_alloc|apply pw_below_drewN|apply below_drew1|refine below_set ?_ GE333.out)|exact HB.out)) hb);have n3_:=Aside0.mk (hbox);have n4_:=Aside0.mk ((by rw [hg];exact (below_size (by repeat (first|(with_reducible first|exact HB.out|apply below_alloc|apply pw_below_drewN|apply below_drew1|refine below_set ?_ GE333.out)|exact HB.out))):w.heap.size≤gb361));have n5_:=Aside0.mk ((by rw [hg];exact (below_size (by repeat (first|(with_reducible first|exact HB.out|apply below_alloc|apply pw_below_drewN|apply below_drew1|refine below_set ?_ GE333.out)|exact HB.out))):w.heap.size≤gb361));have n6_:=Aside0.mk ((by rw [hg];exact Nat.ne_of_lt (blk_lt (g:=gb333) (o:=.cells #[.int .i64 0,.slice none 0 0,.slice none 0 0] 27 (0,0)) (by (with_reducible repeat (first|refine blk_drewN ?_ _|refine blk_drew ?_|refine blk_alloc ?_ _));exact BK333.out)):gb333≠gb361));have n7_:=Aside0.mk ((by rw [hg];exact Nat.ne_of_gt (blk_lt (g:=gb333) (o:=.cells #[.int .i64 0,.slice none 0 0,.slice none 0 0] 27 (0,0)) (by (with_reducible repeat (first|refine blk_drewN ?_ _|refine blk_drew ?_|refine blk_alloc ?_ _));exact BK333.out)):gb361≠gb333));clear HO360;clear BK333;clear HB;have HO360:=n0_;have BK333:=n1_;have HB:=n2_;have BK361:=n3_;have GW361:=n4_;have GE361:=n5_;have NB333_361:=n6_;have NB361_333:=n7_;clear n0_ n1_ n2_ n3_ n4_ n5_ n6_ n7_;clear hb hbox hg;have hnb30:=NB361_333.out;have hnc30:=NB333_361.out;have hcz31_0:w29.cell? ⟨gb361,0,none⟩=some (.int .i64 0):=(blk_cell BK361.out 0).trans rfl;have hcz31_1:w29.cell? ⟨gb361,1,none⟩=some (.slice none 0 0):=(blk_cell BK361.out 1).trans rfl;have hfz31_0:=blk_frozen BK361.out 0;have hfz31_1:=blk_frozen BK361.out 1)|((with_reducible refine gate_dst (N:=15) rfl ?_);refine Kd.R_lit (Kd.int .i64) _ 3 ?hg (N:=15) ?hd (xs:=([0,2,4,2,1,0]:List Int)) (inner:=[.int .i64 0,.int .i64 2,.int .i64 4,.int .i64 2,.int .i64 1,.int .i64 0]) (ok:=fun _=>True) (okp:=fun _=>True) ?hr ?hp (fun _ hk=>hk) trivial (Below.refl _ _) (Nat.le_refl _) (by simp) ?_;(case hd=>rfl);(case hg=>rfl);(case hr=>first|(go_simp;done)|(go_simp;rfl));(case hp=>exact (Reps.one (show Kd.M (Kd.int .i64) _ _ _ 0 [.int .i64 0] from rfl) (Reps.one (show Kd.M (Kd.int .i64) _ _ _ 2 [.int .i64 2] from rfl) (Reps.one (show Kd.M (Kd.int .i64) _ _ _ 4 [.int .i64 4] from rfl) (Reps.one (show Kd.M (Kd.int .i64) _ _ _ 2 [.int .i64 2] from rfl) (Reps.one (show Kd.M (Kd.int .i64) _ _ _ 1 [.int .i64 1] from rfl) (Reps.one (show Kd.M (Kd.int .i64) _ _ _ 0 [.int .i64 0] from rfl) (Reps.none _ _))))))));intro v363 w32 ho33 hb hg_ hnew_;clear hg_ hnew_;(first|rw [← Ny362.out] at ho33|(simp only [Int.reduceToNat] at ho33;rw [← Ny362.out] at ho33));have n0_:=Aside0.mk (Kd.N_elder' (by (with_reducible repeat (first|apply Kd.N_alloc|apply Kd.N_drewN|apply Kd.N_drew));exact (Kd.N_mono (Kd.N_far (p:=⟨gb361,1,none⟩) (Kd.N_far (p:=⟨gb361,0,none⟩) (Kd.N_mono HO360.out (fun k_ hk=>(⟨hk,hk.2⟩:_∧k_≠gb361))) (fun _ hk=>hk.2) (.int .i64 3)) (fun _ hk=>hk.2) (.slice Ao28 y358.length co28)) (fun _ h_=>h_.1))) (Kd.R_base ho33) hb);have n1_:=Aside0.mk (Kd.R_lower (Kd.R_newM (M:=fun k_=>(w.heap.size≤k_)) ho33 (below_size (by repeat (first|(with_reducible first|exact HB.out|apply below_alloc|apply pw_below_drewN|apply below_drew1|refine below_set ?_ GE333.out|refine below_set ?_ GE361.out)|exact HB.out))) (fun k_ h_=>h_)) (below_size (by repeat (first|(with_reducible first|exact HB.out|apply below_alloc|apply pw_below_drewN|apply below_drew1|refine below_set ?_ GE333.out|refine below_set ?_ GE361.out)|exact HB.out))));have n2_:=Aside0.mk (blk_below (g:=gb333) (o:=.cells #[.int .i64 0,.slice none 0 0,.slice none 0 0] 27 (0,0)) (by (with_reducible repeat (first|refine blk_drewN ?_ _|refine blk_drew ?_|refine blk_alloc ?_ _));refine blk_far ?_ NB333_361.out _;(with_reducible repeat (first|refine blk_drewN ?_ _|refine blk_drew ?_|refine blk_alloc ?_ _));refine blk_far ?_ NB333_361.out _;(with_reducible repeat (first|refine blk_drewN ?_ _|refine blk_drew ?_|refine blk_alloc ?_ _));exact BK333.out) hb);have n3_:=Aside0.mk (blk_below (g:=gb361) (o:=.cells #[.int .i64 3,.slice Ao28 y358.length co28] 24 (0,0)) (by (with_reducible repeat (first|refine blk_drewN ?_ _|refine blk_drew ?_|refine blk_alloc ?_ _));refine blk_put (cs:=#[.int .i64 3,.slice none 0 0]) ?_ 1 _ rfl;(with_reducible repeat (first|refine blk_drewN ?_ _|refine blk_drew ?_|refine blk_alloc ?_ _));refine blk_put (cs:=#[.int .i64 0,.slice none 0 0]) ?_ 0 _ rfl;(with_reducible repeat (first|refine blk_drewN ?_ _|refine blk_drew ?_|refine blk_alloc ?_ _));exact BK361.out) hb);have n4_:=Aside0.mk (below_step (by repeat (first|(with_reducible first|exact HB.out|apply below_alloc|apply pw_below_drewN|apply below_drew1|refine below_set ?_ GE333.out|refine below_set ?_ GE361.out)|exact HB.out)) hb);clear HO360;clear BK333;clear BK361;clear HB;have HO360:=n0_;have HO364:=n1_;have BK333:=n2_;have BK361:=n3_;have HB:=n4_;clear n0_ n1_ n2_ n3_ n4_;clear hb ho33;obtain ⟨Ao34,co34,eo34⟩:=Kd.R_slice HO364.out;subst eo34)|((with_reducible refine gate_dst (N:=17) rfl ?_);refine Kd.R_lit (Kd.int .i64) _ 3 ?hg (N:=17) ?hd (xs:=([0,2,3,2,4,2,1]:List Int)) (inner:=[.int .i64 0,.int .i64 2,.int .i64 3,.int .i64 2,.int .i64 4,.int .i64 2,.int .i64 1]) (ok:=fun _=>True) (okp:=fun _=>True) ?hr ?hp (fun _ hk=>hk) trivial (Below.refl _ _) (Nat.le_refl _) (by simp) ?_;(case hd=>rfl);(case hg=>rfl);(case hr=>first|(go_simp;done)|(go_simp;rfl));(case hp=>exact (Reps.one (show Kd.M (Kd.int .i64) _ _ _ 0 [.int .i64 0] from rfl) (Reps.one (show Kd.M (Kd.int .i64) _ _ _ 2 [.int .i64 2] from rfl) (Reps.one (show Kd.M (Kd.int .i64) _ _ _ 3 [.int .i64 3] from rfl) (Reps.one (show Kd.M (Kd.int .i64) _ _ _ 2 [.int .i64 2] from rfl) (Reps.one (show Kd.M (Kd.int .i64) _ _ _ 4 [.int .i64 4] from rfl) (Reps.one (show Kd.M (Kd.int .i64) _ _ _ 2 [.int .i64 2] from rfl) (Reps.one (show Kd.M (Kd.int .i64) _ _ _ 1 [.int .i64 1] from rfl) (Reps.none _ _)))))))));intro v366 w35 ho36 hb hg_ hnew_;clear hg_ hnew_;(first|rw [← Ny365.out] at ho36|(simp only [Int.reduceToNat] at ho36;rw [← Ny365.out] at ho36));have n0_:=Aside0.mk (Kd.N_elder' (by (with_reducible repeat (first|apply Kd.N_alloc|apply Kd.N_drewN|apply Kd.N_drew));exact HO360.out) (Kd.R_base ho36) hb);have n1_:=Aside0.mk (Kd.R_elder' (by (with_reducible repeat (first|apply Kd.R_alloc|apply Kd.R_drewN|apply Kd.R_drew));exact HO364.out) (Kd.R_base ho36) hb);have n2_:=Aside0.mk (Kd.R_lower (Kd.R_new' (Kd.R_newM (M:=fun k_=>(w.heap.size≤k_)) ho36 (below_size (by repeat (first|(with_reducible first|exact HB.out|apply below_alloc|apply pw_below_drewN|apply below_drew1|refine below_set ?_ GE333.out|refine below_set ?_ GE361.out)|exact HB.out))) (fun k_ h_=>h_)) (Kd.R_lt (by (with_reducible repeat (first|apply Kd.R_alloc|apply Kd.R_drewN|apply Kd.R_drew));exact HO364.out))) (below_size (by repeat (first|(with_reducible first|exact HB.out|apply below_alloc|apply pw_below_drewN|apply below_drew1|refine below_set ?_ GE333.out|refine below_set ?_ GE361.out)|exact HB.out))));have n3_:=Aside0.mk (blk_below (g:=gb333) (o:=.cells #[.int .i64 0,.slice none 0 0,.slice none 0 0] 27 (0,0)) (by (with_reducible repeat (first|refine blk_drewN ?_ _|refine blk_drew ?_|refine blk_alloc ?_ _));exact BK333.out) hb);have n4_:=Aside0.mk (blk_below (g:=gb361) (o:=.cells #[.int .i64 3,.slice Ao28 y358.length co28] 24 (0,0)) (by (with_reducible repeat (first|refine blk_drewN ?_ _|refine blk_drew ?_|refine blk_alloc ?_ _));exact BK361.out) hb);have n5_:=Aside0.mk (below_step (by repeat (first|(with_reducible first|exact HB.out|apply below_alloc|apply pw_below_drewN|apply below_drew1|refine below_set ?_ GE333.out|refine below_set ?_ GE361.out)|exact HB.out)) hb);clear HO360;clear HO364;clear BK333;clear BK361;clear HB;have HO360:=n0_;have HO364:=n1_;have HO367:=n2_;have BK333:=n3_;have BK361:=n4_;have HB:=n5_;clear n0_ n1_ n2_ n3_ n4_ n5_;clear hb ho36;obtain ⟨Ao37,co37,eo37⟩:=Kd.R_slice HO367.out;subst eo37)|((with_reducible refine gate_dst (N:=19) rfl ?_);refine Kd.R_lit (Kd.int .i64) _ 3 ?hg (N:=19) ?hd (xs:=([4,2,1,0,2]:List Int)) (inner:=[.int .i64 4,.int .i64 2,.int .i64 1,.int .i64 0,.int .i64 2]) (ok:=fun _=>True) (okp:=fun _=>True) ?hr ?hp (fun _ hk=>hk) trivial (Below.refl _ _) (Nat.le_refl _) (by simp) ?_;(case hd=>rfl);(case hg=>rfl);(case hr=>first|(go_simp;done)|(go_simp;rfl));(case hp=>exact (Reps.one (show Kd.M (Kd.int .i64) _ _ _ 4 [.int .i64 4] from rfl) (Reps.one (show Kd.M (Kd.int .i64) _ _ _ 2 [.int .i64 2] from rfl) (Reps.one (show Kd.M (Kd.int .i64) _ _ _ 1 [.int .i64 1] from rfl) (Reps.one (show Kd.M (Kd.int .i64) _ _ _ 0 [.int .i64 0] from rfl) (Reps.one (show Kd.M (Kd.int .i64) _ _ _ 2 [.int .i64 2] from rfl) (Reps.none _ _)))))));intro v369 w38 ho39 hb hg_ hnew_;clear hg_ hnew_;(first|rw [← Ny368.out] at ho39|(simp only [Int.reduceToNat] at ho39;rw [← Ny368.out] at ho39));have n0_:=Aside0.mk (Kd.N_elder' (by (with_reducible repeat (first|apply Kd.N_alloc|apply Kd.N_drewN|apply Kd.N_drew));exact HO360.out) (Kd.R_base ho39) hb);have n1_:=Aside0.mk (Kd.R_elder' (by (with_reducible repeat (first|apply Kd.R_alloc|apply Kd.R_drewN|apply Kd.R_drew));exact HO364.out) (Kd.R_base ho39) hb);have n2_:=Aside0.mk (Kd.R_elder' (by (with_reducible repeat (first|apply Kd.R_alloc|apply Kd.R_drewN|apply Kd.R_drew));exact HO367.out) (Kd.R_base ho39) hb);have n3_:=Aside0.mk (Kd.R_lower (Kd.R_new' (Kd.R_new' (Kd.R_newM (M:=fun k_=>(w.heap.size≤k_)) ho39 (below_size (by repeat (first|(with_reducible first|exact HB.out|apply below_alloc|apply pw_below_drewN|apply below_drew1|refine below_set ?_ GE333.out|refine below_set ?_ GE361.out)|exact HB.out))) (fun k_ h_=>h_)) (Kd.R_lt (by (with_reducible repeat (first|apply Kd.R_alloc|apply Kd.R_drewN|apply Kd.R_drew));exact HO364.out))) (Kd.R_lt (by (with_reducible repeat (first|apply Kd.R_alloc|apply Kd.R_drewN|apply Kd.R_drew));exact HO367.out))) (below_size (by repeat (first|(with_reducible first|exact HB.out|apply below_alloc|apply pw_below_drewN|apply below_drew1|refine below_set ?_ GE333.out|refine below_set ?_ GE361.out)|exact HB.out))));have n4_:=Aside0.mk (blk_below (g:=gb333) (o:=.cells #[.int .i64 0,.slice none 0 0,.slice none 0 0] 27 (0,0)) (by (with_reducible repeat (first|refine blk_drewN ?_ _|refine blk_drew ?_|refine blk_alloc ?_ _));exact BK333.out) hb);have n5_:=Aside0.mk (blk_below (g:=gb361) (o:=.cells #[.int .i64 3,.slice Ao28 y358.length co28] 24 (0,0)) (by (with_reducible repeat (first|refine blk_drewN ?_ _|refine blk_drew ?_|refine blk_alloc ?_ _));exact BK361.out) hb);have n6_:=Aside0.mk (below_step (by repeat (first|(with_reducible first|exact HB.out|apply below_alloc|apply pw_below_drewN|apply below_drew1|refine below_set ?_ GE333.out|refine below_set ?_ GE361.out)|exact HB.out)) hb);clear HO360;clear HO364;clear HO367;clear BK333;clear BK361;clear HB;have HO360:=n0_;have HO364:=n1_;have HO367:=n2_;have HO370:=n3_;have BK333:=n4_;have BK361:=n5_;have HB:=n6_;clear n0_ n1_ n2_ n3_ n4_ n5_ n6_;clear hb ho39;obtain ⟨Ao40,co40,eo40⟩:=Kd.R_slice HO370.out;subst eo40)|((with_reducible refine gate_dst (N:=21) rfl ?_);refine Kd.N_lit k62 _ 62 ?hg (N':=21) ?hd (xs:=([(⟨1,y362⟩:S62),(⟨0,y365⟩:S62),(⟨1,y368⟩:S62)]:List (S62))) (inner:=[.int .i64 1,.slice Ao34 y362.length co34,.int .i64 0,.slice Ao37 y365.length co37,.int .i64 1,.slice Ao40 y368.length co40]) (ok:=(fun k_=>(w.heap.size≤k_)∧some k_≠(.slice Ao28 y358.length co28:Value).ownBlock∧k_≠gb333∧k_≠gb361)) (okp:=(fun k_=>(w.heap.size≤k_)∧some k_≠(.slice Ao28 y358.length co28:Value).ownBlock∧k_≠gb333∧k_≠gb361)) ?hr ?hp (fun _ hk=>hk) ((show ∀ k_,w38.heap.size≤k_→(fun k_=>(w.heap.size≤k_)∧some k_≠(.slice Ao28 y358.length co28:Value).ownBlock∧k_≠gb333∧k_≠gb361) k_ from fun k_ hk=>⟨(Nat.le_trans (below_size (by repeat (first|(with_reducible first|exact HB.out|apply below_alloc|apply pw_below_drewN|apply below_drew1|refine below_set ?_ GE333.out|refine below_set ?_ GE361.out)|exact HB.out))) hk),Kd.fresh' (Kd.N_lt (by (with_reducible repeat (first|apply Kd.N_alloc|apply Kd.N_drewN|apply Kd.N_drew));exact HO360.out)) k_ hk,Kd.freshB (g:=gb333) (o:=.cells #[.int .i64 0,.slice none 0 0,.slice none 0 0] 27 (0,0)) (by (with_reducible repeat (first|refine blk_drewN ?_ _|refine blk_drew ?_|refine blk_alloc ?_ _));exact BK333.out) k_ hk,Kd.freshB (g:=gb361) (o:=.cells #[.int .i64 3,.slice Ao28 y358.length co28] 24 (0,0)) (by (with_reducible repeat (first|refine blk_drewN ?_ _|refine blk_drew ?_|refine blk_alloc ?_ _));exact BK361.out) k_ hk⟩) _ (Nat.le_refl _)) (Below.refl _ _) (Nat.le_refl _) (by simp) ?_;(case hd=>rfl);(case hg=>rfl);(case hr=>first|(go_simp;done)|(go_simp;rfl));(case hp=>exact (Reps.c2 (show Kd.FK k62 _ _ (⟨1,y362⟩:S62) [.int .i64 1,.slice Ao34 y362.length co34] from (k62_mkF _ _ (⟨1,y362⟩:S62) (Kd.R_reads' (Kd.R_mono (ok':=(fun k_=>(w.heap.size≤k_)∧some k_≠(.slice Ao28 y358.length co28:Value).ownBlock∧k_≠gb333∧k_≠gb361)) (Kd.R_types (Kd.R_types (Kd.R_apart' (HO364.out) (Kd.N_typed HO360.out) (by decide)) BK333.out (by decide)) BK361.out (by decide)) (fun k_ hk=>⟨hk.1.1.1.1.1.1,⟨hk.1.1.2,⟨hk.1.2,hk.2⟩⟩⟩))).2.1 (Kd.R_F (Kd.R_mono (ok':=(fun k_=>(w.heap.size≤k_)∧some k_≠(.slice Ao28 y358.length co28:Value).ownBlock∧k_≠gb333∧k_≠gb361)) (Kd.R_types (Kd.R_types (Kd.R_apart' (HO364.out) (Kd.N_typed HO360.out) (by decide)) BK333.out (by decide)) BK361.out (by decide)) (fun k_ hk=>⟨hk.1.1.1.1.1.1,⟨hk.1.1.2,⟨hk.1.2,hk.2⟩⟩⟩))))) (Reps.c2 (show Kd.FK k62 _ _ (⟨0,y365⟩:S62) [.int .i64 0,.slice Ao37 y365.length co37] from (k62_mkF _ _ (⟨0,y365⟩:S62) (Kd.R_reads' (Kd.R_mono (ok':=(fun k_=>(w.heap.size≤k_)∧some k_≠(.slice Ao28 y358.length co28:Value).ownBlock∧k_≠gb333∧k_≠gb361)) (Kd.R_types (Kd.R_types (Kd.R_apart' (HO367.out) (Kd.N_typed HO360.out) (by decide)) BK333.out (by decide)) BK361.out (by decide)) (fun k_ hk=>⟨hk.1.1.1.1.1.1,⟨hk.1.1.2,⟨hk.1.2,hk.2⟩⟩⟩))).2.1 (Kd.R_F (Kd.R_mono (ok':=(fun k_=>(w.heap.size≤k_)∧some k_≠(.slice Ao28 y358.length co28:Value).ownBlock∧k_≠gb333∧k_≠gb361)) (Kd.R_types (Kd.R_types (Kd.R_apart' (HO367.out) (Kd.N_typed HO360.out) (by decide)) BK333.out (by decide)) BK361.out (by decide)) (fun k_ hk=>⟨hk.1.1.1.1.1.1,⟨hk.1.1.2,⟨hk.1.2,hk.2⟩⟩⟩))))) (Reps.c2 (show Kd.FK k62 _ _ (⟨1,y368⟩:S62) [.int .i64 1,.slice Ao40 y368.length co40] from (k62_mkF _ _ (⟨1,y368⟩:S62) (Kd.R_reads' (Kd.R_mono (ok':=(fun k_=>(w.heap.size≤k_)∧some k_≠(.slice Ao28 y358.length co28:Value).ownBlock∧k_≠gb333∧k_≠gb361)) (Kd.R_types (Kd.R_types (Kd.R_apart' (HO370.out) (Kd.N_typed HO360.out) (by decide)) BK333.out (by decide)) BK361.out (by decide)) (fun k_ hk=>⟨hk.1.1.1.1.1.1,⟨hk.1.1.2,⟨hk.1.2,hk.2⟩⟩⟩))).2.1 (Kd.R_F (Kd.R_mono (ok':=(fun k_=>(w.heap.size≤k_)∧some k_≠(.slice Ao28 y358.length co28:Value).ownBlock∧k_≠gb333∧k_≠gb361)) (Kd.R_types (Kd.R_types (Kd.R_apart' (HO370.out) (Kd.N_typed HO360.out) (by decide)) BK333.out (by decide)) BK361.out (by decide)) (fun k_ hk=>⟨hk.1.1.1.1.1.1,⟨hk.1.1.2,⟨hk.1.2,hk.2⟩⟩⟩))))) (Reps.none _ _)))));intro v372 w41 ho42 hb hg_ hnew_;clear hg_ hnew_;(first|rw [← Ny371.out] at ho42|(simp only [Int.reduceToNat] at ho42;rw [← Ny371.out] at ho42));have n0_:=Aside0.mk (Kd.N_elder' (by (with_reducible repeat (first|apply Kd.N_alloc|apply Kd.N_drewN|apply Kd.N_drew));exact HO360.out) (Kd.N_base ho42) hb);have n1_:=Aside0.mk (Kd.N_lower ho42 (below_size (by repeat (first|(with_reducible first|exact HB.out|apply below_alloc|apply pw_below_drewN|apply below_drew1|refine below_set ?_ GE333.out|refine below_set ?_ GE361.out)|exact HB.out))));have n2_:=Aside0.mk (blk_below (g:=gb333) (o:=.cells #[.int .i64 0,.slice none 0 0,.slice none 0 0] 27 (0,0)) (by (with_reducible repeat (first|refine blk_drewN ?_ _|refine blk_drew ?_|refine blk_alloc ?_ _));exact BK333.out) hb);have n3_:=Aside0.mk (blk_below (g:=gb361) (o:=.cells #[.int .i64 3,.slice Ao28 y358.length co28] 24 (0,0)) (by (with_reducible repeat (first|refine blk_drewN ?_ _|refine blk_drew ?_|refine blk_alloc ?_ _));exact BK361.out) hb);have n4_:=Aside0.mk (below_step (by repeat (first|(with_reducible first|exact HB.out|apply below_alloc|apply pw_below_drewN|apply below_drew1|refine below_set ?_ GE333.out|refine below_set ?_ GE361.out)|exact HB.out)) hb);clear HO360;clear BK333;clear BK361;clear HB;clear HO364;clear HO367;clear HO370;have HO360:=n0_;have HO373:=n1_;have BK333:=n2_;have BK361:=n3_;have HB:=n4_;clear n0_ n1_ n2_ n3_ n4_;clear hb ho42;obtain ⟨Ao43,co43,eo43⟩:=Kd.N_slice HO373.out;subst eo43;have hcz44_0:w41.cell? ⟨gb333,0,none⟩=some (.int .i64 0):=(blk_cell BK333.out 0).trans rfl;have hcz44_1:w41.cell? ⟨gb333,1,none⟩=some (.slice none 0 0):=(blk_cell BK333.out 1).trans rfl;have hcz44_2:w41.cell? ⟨gb333,2,none⟩=some (.slice none 0 0):=(blk_cell BK333.out 2).trans rfl;have hfz44_0:=blk_frozen BK333.out 0;have hfz44_1:=blk_frozen BK333.out 1;have hfz44_2:=blk_frozen BK333.out 2))
 refine bodyPost_ret (results_cell_row rfl _ _ gb333 27 #[.int .i64 3,.slice Ao28 y358.length co28,.slice Ao43 y371.length co43] (0,0) _ rfl (by (with_reducible repeat (first|refine blk_drewN ?_ _|refine blk_drew ?_|refine blk_alloc ?_ _));refine blk_put (cs:=#[.int .i64 3,.slice Ao28 y358.length co28,.slice none 0 0]) ?_ 2 _ rfl;(with_reducible repeat (first|refine blk_drewN ?_ _|refine blk_drew ?_|refine blk_alloc ?_ _));refine blk_put (cs:=#[.int .i64 3,.slice none 0 0,.slice none 0 0]) ?_ 1 _ rfl;(with_reducible repeat (first|refine blk_drewN ?_ _|refine blk_drew ?_|refine blk_alloc ?_ _));refine blk_put (cs:=#[.int .i64 0,.slice none 0 0,.slice none 0 0]) ?_ 0 _ rfl;(with_reducible repeat (first|refine blk_drewN ?_ _|refine blk_drew ?_|refine blk_alloc ?_ _));exact BK333.out) Tryd.underlying27 rfl (by kernel_rfl)) rfl ?_
 exact ⟨_,_,by first|rfl|(simp [errW_none,errW_some] <;> rfl)|(simp [*,errW_none,errW_some] <;> rfl),by (with_reducible repeat (first|apply Kd.N_alloc|apply Kd.N_drewN|apply Kd.N_drew));exact Kd.N_mono (Kd.N_far (p:=⟨gb333,2,none⟩) (Kd.N_far (p:=⟨gb333,1,none⟩) (Kd.N_far (p:=⟨gb333,0,none⟩) (Kd.N_mono HO360.out (fun k_ hk=>(⟨hk,hk.1.1.1.1.1.2⟩:_∧k_≠gb333))) (fun _ hk=>hk.2) (.int .i64 3)) (fun _ hk=>hk.2) (.slice Ao28 y358.length co28)) (fun _ hk=>hk.2) (.slice Ao43 y371.length co43)) (fun _ hk=>⟨hk.1.1.1.1.1.1.1,hk.1.2⟩),by (with_reducible repeat (first|apply Kd.N_alloc|apply Kd.N_drewN|apply Kd.N_drew));exact Kd.N_mono (Kd.N_far (p:=⟨gb333,2,none⟩) (Kd.N_far (p:=⟨gb333,1,none⟩) (Kd.N_far (p:=⟨gb333,0,none⟩) (Kd.N_mono HO373.out (fun k_ hk=>(⟨hk,hk.2.2.1⟩:_∧k_≠gb333))) (fun _ hk=>hk.2) (.int .i64 3)) (fun _ hk=>hk.2) (.slice Ao28 y358.length co28)) (fun _ hk=>hk.2) (.slice Ao43 y371.length co43)) (fun _ hk=>⟨hk.1.1,hk.1.2.1⟩),by repeat (first|(with_reducible first|exact HB.out|apply below_alloc|apply pw_below_drewN|apply below_drew1|refine below_set ?_ GE333.out|refine below_set ?_ GE361.out)|exact HB.out)⟩
end Go.Proofs.YthnilelmhpmanaaDoor.PHeardFits
end
section
namespace Go.Proofs.YthnilelmhpmanaaDoor.PHeardFits
open Go.RowKit Go.Proofs.YthnilelmhpmanaaDoorW.PrintWords Go.Proofs.YthnilelmhpmanaaDoorW.PrintLast Go.Proofs.YthnilelmhpmanaaDoorW.PrintMore
attribute [local go_sem] max2_int min2_int max_two min_two max_three min_three max_four min_four
set_option linter.unusedVariables false
set_option linter.unusedSimpArgs false
def saronref09_areTones.l0:Nat→List Int→Bool→Int→Option (Bool)
 | 0,_,_,_=>none
 | k+1,x0,x7,x8=>if x7=true then (if x8<(x0.length:Int) then (if 0≤x8 then ((saronref00_Sits.f (rd x0 x8) 0 6).bind fun t152=>(saronref09_areTones.l0 k x0 t152 (wrap64 (x8+1)))) else (none)) else (some x7)) else (some x7)
def saronref09_areTones.f (k:Nat) (l0:List Int) (a1:Int) (a2:Int):Option (Bool):=(saronref00_Sits.f (l0.length:Int) a1 a2).bind fun t150=>(saronref09_areTones.l0 k l0 t150 0)
set_option maxHeartbeats 8000000 in
set_option maxRecDepth 100000 in
theorem saronref09_areTones.calls (k:Nat) (A0:Option Addr) (c0:Nat) (l0:List Int) (a1:Int) (a2:Int) (r:Bool) (w:World) (hr0:Kd.C (Kd.int .i64) w A0 l0.length l0) (hc0:l0.length≤c0) (h:saronref09_areTones.f k l0 a1 a2=some r) :
  Calls Tryd.prog 68 #[.slice A0 l0.length c0,.int .i64 a1,.int .i64 a2] w fun e w'=>e=.returned (.bool r)∧Drawn0 w w':=by
 have HR0:=Aside0.mk hr0
 have HC0:=Aside0.mk hc0
 clear hr0 hc0
 have H:((saronref00_Sits.f (l0.length:Int) a1 a2).bind fun t150=>(saronref09_areTones.l0 k l0 t150 0))=some r:=h
 clear h
 replace H:=Option.bind_eq_some_iff.mp H
 obtain ⟨t150,A40,H⟩:=H
 try dsimp only at H
 have A4:=Aside0.mk A40
 clear A40
 have H':=Aside0.mk H
 clear H
 go_enter Tryd.func68,Tryd.ntmps68
 go_wp2_with (first|((with_reducible refine gate_callee (f:=41) rfl ?_);refine goesL_ (some 13) rfl rfl Tryd.func41 (by kernel_rfl) rfl #[.int .i64 (l0.length:Int),.int .i64 a1,.int .i64 a2] rfl (by (try simp only [List.map_toArray,List.map_cons,List.map_nil]);first|done|rfl|(simp only [List.length_drop,List.length_take];rfl)) ?_;(with_reducible refine (saronref00_Sits.calls (l0.length:Int) a1 a2 t150 _ A4.out).mono ?_);rintro e w' ⟨rfl,⟨nd,rfl⟩⟩;refine ⟨_,rfl,?_⟩))
 go_loopg [7,8] k (fun kq v7 v8 w'=>∃ (x7_1:Bool) (x8_1:Int),v7=.bool x7_1∧v8=.int .i64 x8_1∧Aside0 (saronref09_areTones.l0 kq l0 x7_1 x8_1=some r)∧Aside0 (kq≤k)∧Drawn0 w w')
 case atStart=>exact ⟨(t150),(0),(by first|rfl|(simp;done)|(simp [*];done)),(by first|rfl|(simp;done)|(simp [*];done)),H',⟨Nat.le_refl _⟩,by repeat (first|exact Drawn0.refl _|apply Drawn0.step)⟩
 case round =>
  clear H'
  try clear p2
  try clear c4
  obtain ⟨x7_1,x8_1,rfl,rfl,HA,HK1,⟨m1,rfl⟩⟩:=hrel
  cases gk with
  | zero=>exact absurd HA.out (by simp [saronref09_areTones.l0])
  | succ k1 =>
   have H:=HA.out
   clear HA
   simp only [saronref09_areTones.l0] at H
   by_cases c5:x7_1=true
   ·subst c5
    rw [if_pos rfl] at H
    by_cases c6:x8_1<(l0.length:Int)
    ·rw [if_pos c6] at H
     have c6b0:decide (x8_1<(l0.length:Int))=true:=decide_eq_true c6
     clear c6
     by_cases c7:0≤x8_1
     ·rw [if_pos c7] at H
      have c7b0:decide (0≤x8_1)=true:=decide_eq_true c7
      clear c7
      replace H:=Option.bind_eq_some_iff.mp H
      obtain ⟨t152,A80,H⟩:=H
      try dsimp only at H
      have A8:=Aside0.mk A80
      clear A80
      have H':=Aside0.mk H
      clear H
      have p151:0≤(x8_1:Int):=of_decide_eq_true (by first|(with_reducible assumption)|assumption)
      have q151:x8_1<(l0.length:Int):=of_decide_eq_true (by first|(with_reducible assumption)|assumption)
      obtain ⟨ad151,e151,hx151_0⟩:=Kd.at_int HR0.out x8_1 p151 q151
      cases e151
      replace p151:=eq_true p151
      replace q151:=eq_true q151
      go_wp2_with (first|((with_reducible refine gate_callee (f:=41) rfl ?_);refine goesL_ (some 27) rfl rfl Tryd.func41 (by kernel_rfl) rfl #[.int .i64 (rd l0 x8_1),.int .i64 0,.int .i64 6] rfl (by (try simp only [List.map_toArray,List.map_cons,List.map_nil]);first|done|rfl|(simp only [List.length_drop,List.length_take];rfl)) ?_;(with_reducible refine (saronref00_Sits.calls (rd l0 x8_1) 0 6 t152 _ A8.out).mono ?_);rintro e w' ⟨rfl,⟨nd,rfl⟩⟩;refine ⟨_,rfl,?_⟩))
      go_roundg k1
      case measure=>have:=HK1.out;omega
      case rel=>exact ⟨(t152),(wrap64 (x8_1+1)),(by first|rfl|(simp;done)|(simp [*];done)),(by first|rfl|(simp;done)|(simp [*];done)),H',⟨by have:=HK1.out;omega⟩,by repeat (first|exact Drawn0.refl _|apply Drawn0.step)⟩
     ·rw [if_neg c7] at H
      exact absurd H (by simp)
    ·rw [if_neg c6] at H
     have c6b0:decide (x8_1<(l0.length:Int))=false:=decide_eq_false c6
     clear c6
     obtain rfl:=Option.some.inj H
     go_wp2
     go_ret
     exact ⟨by first|rfl|(simp;done)|(simp [*];done),by repeat (first|exact Drawn0.refl _|apply Drawn0.step)⟩
   ·replace c5:=Bool.eq_false_iff.mpr c5
    subst c5
    rw [if_neg (show ¬ (false=true) by decide)] at H
    obtain rfl:=Option.some.inj H
    go_wp2
    go_ret
    exact ⟨by first|rfl|(simp;done)|(simp [*];done),by repeat (first|exact Drawn0.refl _|apply Drawn0.step)⟩
end Go.Proofs.YthnilelmhpmanaaDoor.PHeardFits
end
