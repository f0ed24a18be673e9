/- A part of the proof: contracts and laws. -/
import Derived.RangeFuncNested
import Derived.RangeFuncBound
import Derived.RangeFuncCalls
import Derived.RangeFuncLeaves
import Derived.RangeFuncWrites
import Derived.Shelf.Abstract
import Derived.Shelf.RegionOpen
import Derived.OwnWalkIn
import Derived.TacticsInMore
import Derived.LoopNIn
import Derived.LoopIn
import Derived.Test.YthnilelmhpmanaaDoorWxq13
section
namespace Go.Proofs.YthnilelmhpmanaaDoor.PHeardFits
open Go.RowKit Go.Shelf Go.Proofs.YthnilelmhpmanaaDoorW.PrintWords Go.Proofs.YthnilelmhpmanaaDoorW.PrintLast Go.Proofs.YthnilelmhpmanaaDoorW.PrintMore
open Go.Proofs.YthnilelmhpmanaaDoor.Hm
attribute [local go_sem] Oper.semAt_some max2_int min2_int max_two min_two max_three min_three max_four min_four
set_option linter.unusedVariables false
set_option linter.unusedSimpArgs false
/-- What a round of the iterator keeps. -/
def KpB (nB b1 b2 b3:Nat) (W W':World):Prop:=Below nB W W'∧∀ a v,(a.block=b1∨a.block=b2∨a.block=b3)→W.cell? a=some v→W'.cell? a=some v
theorem KpB.t {nB b1 b2 b3:Nat} {A B C:World} (h:KpB nB b1 b2 b3 A B) (k:KpB nB b1 b2 b3 B C):KpB nB b1 b2 b3 A C:=⟨h.1.trans k.1,fun a v ha hv=>k.2 a v ha (h.2 a v ha hv)⟩
theorem cell_putObj {W:World} {l:Nat} {o:Obj} {a:Addr} {v:Value} (h:W.cell? a=some v) (hne:a.block≠l):(W.putObj l o).cell? a=some v :=
  (grownBy_putObj' W l o).cell h (by simpa using hne)
theorem KpB.b {nB b1 b2 b3:Nat} {w:World} (hn:nB≤w.heap.size) (h1:b1<w.heap.size) (h2:b2<w.heap.size) (h3:b3<w.heap.size) (W:World) (l:Nat) (o o':Obj) (hl:w.heap.size≤l) (h:W.heap[l]?=some o) (hc:o.isCells=false) (hw:o.isWalk=false):KpB nB b1 b2 b3 W (W.putObj l o') :=
  ⟨belowK_b hn W l o o' hl h hc hw,fun a v ha hv=>cell_putObj hv (by omega)⟩
/-- The strokes that are yielded. -/
def behL (pl:Nat):Nat→Nat→List (Fin pl)
  | _,0=>[]
  | t,c+1=>if h:t<pl then ⟨t,h⟩ :: behL pl (t+1) c else []
section
variable (g:Int) (Af:Option Addr) (cf:Nat) (fs:List S85) (ad:Addr) (Ap:Option Addr) (cp:Nat) (ps:List S62) (pn:Nat) (At:Option Addr) (ct:Nat) (ts:List Int) (Ag:Option Addr) (cg:Nat) (gs:List Int) (lost wrong:Int)
/-- What the iterator reads. -/
structure ItF (A1:Option Addr) (c1 nB b1 b2 b3:Nat) (j last:Nat) (w:World):Prop where
  h1:w.cell? ⟨b1,0,none⟩=some (.int .i64 j)
  h2:w.cell? ⟨b2,0,none⟩=some (.int .i64 last)
  h3:w.cell? ⟨b3,0,none⟩=some (.int .i64 g)∧w.cell? ⟨b3,1,none⟩=some (.slice Af fs.length cf)∧w.cell? ⟨b3,2,none⟩=some (.slice (some ad) ps.length cp)∧w.cell? ⟨b3,3,none⟩=some (.int .i64 pn)∧w.cell? ⟨b3,4,none⟩=some (.slice At ts.length ct)∧w.cell? ⟨b3,5,none⟩=some (.slice Ag gs.length cg)∧w.cell? ⟨b3,6,none⟩=some (.int .i64 lost)∧w.cell? ⟨b3,7,none⟩=some (.int .i64 wrong)
  hx:w.cell? ⟨(ad.add (pn * 2)).block,(ad.add (pn * 2)).off+1,none⟩=some (.slice A1 (ptones ps pn).length c1)
  lt:(ad.add (pn * 2)).block<nB
variable {g Af cf fs ad Ap cp ps pn At ct ts Ag cg gs lost wrong}
theorem ItF.below {A1:Option Addr} {c1 nB b1 b2 b3:Nat} {j last:Nat} {w w':World} (h:ItF g Af cf fs ad cp ps pn At ct ts Ag cg gs lost wrong A1 c1 nB b1 b2 b3 j last w) (hb:Below w.heap.size w w'):ItF g Af cf fs ad cp ps pn At ct ts Ag cg gs lost wrong A1 c1 nB b1 b2 b3 j last w' :=
  ⟨kc hb h.h1,kc hb h.h2,by obtain ⟨s0,s1,s2,s3,s4,s5,s6,s7⟩:=h.h3;exact ⟨kc hb s0,kc hb s1,kc hb s2,kc hb s3,kc hb s4,kc hb s5,kc hb s6,kc hb s7⟩,kc hb h.hx,h.lt⟩
theorem ItF.kp {A1:Option Addr} {c1 nB b1 b2 b3:Nat} {j last:Nat} {w w':World} (h:ItF g Af cf fs ad cp ps pn At ct ts Ag cg gs lost wrong A1 c1 nB b1 b2 b3 j last w) (hk:KpB nB b1 b2 b3 w w'):ItF g Af cf fs ad cp ps pn At ct ts Ag cg gs lost wrong A1 c1 nB b1 b2 b3 j last w' :=
  ⟨hk.2 _ _ (.inl rfl) h.h1,hk.2 _ _ (.inr (.inl rfl)) h.h2,by obtain ⟨s0,s1,s2,s3,s4,s5,s6,s7⟩:=h.h3;exact ⟨hk.2 _ _ (.inr (.inr rfl)) s0,hk.2 _ _ (.inr (.inr rfl)) s1,hk.2 _ _ (.inr (.inr rfl)) s2,hk.2 _ _ (.inr (.inr rfl)) s3,hk.2 _ _ (.inr (.inr rfl)) s4,hk.2 _ _ (.inr (.inr rfl)) s5,hk.2 _ _ (.inr (.inr rfl)) s6,hk.2 _ _ (.inr (.inr rfl)) s7⟩,(hk.1.cell (p:=⟨(ad.add (pn * 2)).block,(ad.add (pn * 2)).off+1,none⟩) h.lt).trans h.hx,h.lt⟩
set_option maxRecDepth 100000 in
set_option maxHeartbeats 1000000 in
theorem behind1_in (hp:pn<ps.length) (A1:Option Addr) (c1 nB b1 b2 b3:Nat) (j last n l:Nat) (hj:j<(ptones ps pn).length) (hl:(ptones ps pn).length≤1000) (hla:last≤1000) (hn:1≤n) (J Jx:List (Fin (ptones ps pn).length)→World→Prop)
    (W0:World) (hJ:AbidesFrom W0.heap.size J) (hY:∀ pre x W,J pre W→pre.length<(ptones ps pn).length→YieldAt Fence.wide (n - 1) Tryd.prog l #[.int .i64 (x.val:Nat)] W fun e W' =>
      (e=.returned (.bool true)∧J (pre ++ [x]) W'∧KpB nB b1 b2 b3 W W')∨(e=.returned (.bool false)∧Jx (pre ++ [x]) W'))
    (hI:ItF g Af cf fs ad cp ps pn At ct ts Ag cg gs lost wrong A1 c1 nB b1 b2 b3 j last W0) (h0:J [] W0) :
    CallsIn Fence.wide n Tryd.prog 138 #[.func (.yield l) #[] #[],.pointer (some ⟨b1,0,none⟩),.pointer (some ⟨b2,0,none⟩),.pointer (some ⟨b3,0,none⟩)] W0 fun e W'=>(∃ v,e=.returned v) ∧
      ((∃ ys,ys=behL (ptones ps pn).length (j+1) (last - j)∧J ys W')∨(∃ pre,True∧Jx pre W')):=by
  have hu94:=Tryd.underlying94
  have hu27:=Tryd.underlying27
  have hu24:=Tryd.underlying24
  have hu30:=Tryd.underlying30
  have e1:=hI.h1
  have HI0:=Aside0.mk hI
  have HY:=Aside0.mk hY
  have HJ:=Aside0.mk hJ
  clear hI hY hJ
  refine callsIn_of_wp Tryd.func138 rfl trivial ?_ rfl
  simp only [Tryd.ntmps138,List.size_toArray,List.length_cons,List.length_nil,Nat.reduceAdd,Nat.reduceSub,Array.replicate_succ,Array.replicate_zero,List.push_toArray,List.append_toArray,List.nil_append,List.cons_append]
  gi_wp2
  clear e1
  gi_loopw [5] (fun v5 wr=>∃ (pre:List (Fin (ptones ps pn).length)) (t c:Nat),v5=.int .i64 (t:Nat)∧Aside0 (t+c=j+1+(last - j))∧Aside0 (j<t∧t≤(ptones ps pn).length)∧Aside0 (pre.length=t - (j+1))∧Aside0 (behL (ptones ps pn).length (j+1) (last - j)=pre ++ behL (ptones ps pn).length t c)∧Aside0 (ItF g Af cf fs ad cp ps pn At ct ts Ag cg gs lost wrong A1 c1 nB b1 b2 b3 j last wr)∧Aside0 (J pre wr))
    (fun v5 _=>(ptones ps pn).length - (intOf v5).toNat)
  case atStart =>
    exact ⟨[],j+1,last - j,by go_num,⟨rfl⟩,⟨by omega⟩,⟨by simp⟩,⟨rfl⟩,HI0,⟨h0⟩⟩
  case round =>
    obtain ⟨pre,t,c,rfl,HC,HT,HL,HB,HI,HJs⟩:=hrel
    have hC:=HC.out
    have hT:=HT.out
    have e2:=HI.out.h2
    obtain ⟨s0,s1,s2,s3,s4,s5,s6,s7⟩:=HI.out.h3
    have hx1:=HI.out.hx
    have hw1:IntKind.i64.wrap (((ptones ps pn).length:Int) - 1)=((ptones ps pn).length:Int) - 1:=IntWalk.i64_in _ (by omega)
    gi_wp2
    refine wpIn_wide.2 ?_
    go_region_held3 (fun w'=>w'.cell? ⟨b2,0,none⟩=some (.int .i64 last)∧w'.cell? ⟨b3,0,none⟩=some (.int .i64 g)∧w'.cell? ⟨b3,1,none⟩=some (.slice Af fs.length cf)∧w'.cell? ⟨b3,2,none⟩=some (.slice (some ad) ps.length cp)∧w'.cell? ⟨b3,3,none⟩=some (.int .i64 pn)∧w'.cell? ⟨b3,4,none⟩=some (.slice At ts.length ct)∧w'.cell? ⟨b3,5,none⟩=some (.slice Ag gs.length cg)∧w'.cell? ⟨b3,6,none⟩=some (.int .i64 lost)∧w'.cell? ⟨b3,7,none⟩=some (.int .i64 wrong)) (first|exact ⟨e2,s0,s1,s2,s3,s4,s5,s6,s7⟩|exact ⟨kc hb2 e2,kc hb2 s0,kc hb2 s1,kc hb2 s2,kc hb2 s3,kc hb2 s4,kc hb2 s5,kc hb2 s6,kc hb2 s7⟩|go_keep) (first|(go_at_call 69;refine (tones_at (g:=g) (cf:=cf) (cp:=cp) (ct:=ct) (cg:=cg) (lost:=lost) (wrong:=wrong) (At:=At) (ts:=ts) (Ag:=Ag) (gs:=gs) (Af:=Af) (fs:=fs) (ps:=ps) (pn:=pn) hp ad A1 c1 wr.drew hx1).mono ?_;rintro e w2 ⟨rfl,hb2⟩))
    have hB2:=(below_drew1 (Below.refl _ wr)).trans hb2
    have HI2:=Aside0.mk (HI.out.below hB2)
    have HJ2:=Aside0.mk (HJ.out pre wr w2 none HJs.out (grown_of_below hB2 none) (fun r e=>by cases e))
    clear HI HJs e2 s0 s1 s2 s3 s4 s5 s6 s7 hx1 hb2 hB2 hw1
    obtain ⟨M,hM⟩:∃ M:Int,(if ((ptones ps pn).length:Int) - 1<last then ((ptones ps pn).length:Int) - 1 else last)=M:=⟨_,rfl⟩
    rw [hM]
    by_cases hq:c=0∨t=(ptones ps pn).length
    · have hd:decide ((t:Int)≤M)=false:=by
        rw [← hM];apply decide_eq_false;split <;> omega
      have hend:Aside0 (behL (ptones ps pn).length (j+1) (last - j)=pre):=⟨by
        rw [HB.out]
        rcases hq with rfl|rfl
        · simp [behL]
        · cases c <;> simp [behL]⟩
      rw [hd]
      clear hd hM
      gi_wp2
      go_end0
      exact ⟨⟨_,rfl⟩,.inl (by rw [hend.out];exact ⟨_,rfl,HJ2.out⟩)⟩
    · obtain ⟨c',rfl⟩:∃ c',c=c'+1:=⟨c - 1,by omega⟩
      have ht:t<(ptones ps pn).length:=by omega
      have hd:decide ((t:Int)≤M)=true:=by
        rw [← hM];apply decide_eq_true;split <;> omega
      obtain ⟨fn,tmps,assign,body,hy,hR⟩:=HY.out pre ⟨t,ht⟩ w2 HJ2.out (by rw [HL.out];omega)
      dsimp only at hy
      rw [hd]
      clear hd hM
      gi_wp2
      refine hR.mono ?_
      rintro e W3 (⟨rfl,hJ3,hk3⟩ | ⟨rfl,hJx3⟩)
      · have HI3:=Aside0.mk (HI2.out.kp hk3)
        have HJ3:=Aside0.mk hJ3
        clear hk3 hJ3 HI2 HJ2 hq
        gi_wp2
        go_roundw
        case rel=>exact ⟨pre ++ [⟨t,ht⟩],t+1,c',by go_num,⟨by omega⟩,⟨by omega⟩,⟨by have:=HL.out;simp;omega⟩,⟨by rw [HB.out];simp [behL,ht]⟩,HI3,HJ3⟩
        case measure=>simp [intOf];omega
      · gi_wp2
        refine bodyPost_ret (results_none rfl _ _ _) rfl ?_
        exact ⟨⟨_,rfl⟩,.inr ⟨_,trivial,hJx3⟩⟩
/-- The iterator, as a loop over it wants it. -/
theorem behind1_stops (hp:pn<ps.length) (A1:Option Addr) (c1 nB b1 b2 b3:Nat) (j last n:Nat) (hj:j<(ptones ps pn).length) (hl:(ptones ps pn).length≤1000) (hla:last≤1000) (hn:1≤n) (w:World)
    (hI:ItF g Af cf fs ad cp ps pn At ct ts Ag cg gs lost wrong A1 c1 nB b1 b2 b3 j last w) :
    SeqStopsK Fence.wide n Tryd.prog 138 #[.pointer (some ⟨b1,0,none⟩),.pointer (some ⟨b2,0,none⟩),.pointer (some ⟨b3,0,none⟩)] (fun x:Fin (ptones ps pn).length=>#[.int .i64 (x.val:Nat)]) (KpB nB b1 b2 b3) (fun ys=>ys=behL (ptones ps pn).length (j+1) (last - j)) (fun _=>True) (ptones ps pn).length w :=
  fun l J Jx W hW hJ hJx hY h0=>behind1_in hp A1 c1 nB b1 b2 b3 j last n l hj hl hla hn J Jx W hJ hY (hI.below hW) h0
set_option maxRecDepth 100000 in
theorem behind_in (j last:Int) (w:World) :
    Calls Tryd.prog 130 #[bkv g Af cf fs Ap cp ps pn At ct ts Ag cg gs lost wrong,.int .i64 j,.int .i64 last] w fun e w'=>e=.returned (.func (.func 138) #[] #[.pointer (some ⟨w.heap.size+1,0,none⟩),.pointer (some ⟨w.heap.size+1+1,0,none⟩),.pointer (some ⟨w.heap.size,0,none⟩)]) ∧
      w'=((w.alloc (.cells #[.int .i64 g,.slice Af fs.length cf,.slice Ap ps.length cp,.int .i64 pn,.slice At ts.length ct,.slice Ag gs.length cg,.int .i64 lost,.int .i64 wrong] 94)).alloc (.cells #[.int .i64 j] 3)).alloc (.cells #[.int .i64 last] 3):=by
  have hu94:=Tryd.underlying94
  have hu27:=Tryd.underlying27
  have hu24:=Tryd.underlying24
  have hu30:=Tryd.underlying30
  unfold bkv
  go_enter Tryd.func130,Tryd.ntmps130
  go_wp2_with fail
  go_ret
  exact ⟨rfl,rfl⟩
end
end Go.Proofs.YthnilelmhpmanaaDoor.PHeardFits
end
