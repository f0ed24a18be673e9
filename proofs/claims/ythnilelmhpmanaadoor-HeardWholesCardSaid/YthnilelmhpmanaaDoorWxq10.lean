/- A part of the proof: contracts and laws. -/
import Derived.StillTailTactics
import Derived.Test.YthnilelmhpmanaaDoorWxq8
import Derived.Test.YthnilelmhpmanaaDoorWxq9
section
namespace Go.Proofs.YthnilelmhpmanaaDoor.PHeardFits
open Go.RowKit Go.Proofs.YthnilelmhpmanaaDoorW.PrintWords Go.Proofs.YthnilelmhpmanaaDoorW.PrintLast Go.Proofs.YthnilelmhpmanaaDoorW.PrintMore
open Go.Proofs.YthnilelmhpmanaaDoor.Hm
set_option linter.unusedVariables false
set_option linter.unusedSimpArgs false
def cliesB (a b c:Int):Bool:=decide (b≤a) && decide (a≤c)
theorem clies_any (a b c:Int) (w:World):Calls Tryd.prog 101 #[.int .i64 a,.int .i64 b,.int .i64 c] w fun e w'=>e=.returned (.bool (cliesB a b c))∧Drawn0 w w' :=
  cycle_lies.calls a b c _ w (clies_eq a b c)
theorem isForm_any (g:Int) (A:Option Addr) (n c B:Nat) (f:Int) (hn:n≤4611686018427387904) (w:World) :
    Calls Tryd.prog 84 #[.agg #[.int .i64 g,.slice A n c,.map (some B)],.int .i64 f] w fun e w'=>e=.returned (.bool (cliesB f 0 ((n:Int) - 1)))∧Below w.heap.size w w':=by
  have hu24:=Tryd.underlying24
  have hu120:=Tryd.underlying120
  go_enter Tryd.func84,Tryd.ntmps84
  go_wp2_with (go_at_call 101;refine (clies_any _ _ _ _).mono ?_;rintro e w' ⟨rfl,⟨nd,rfl⟩⟩)
  go_ret
  exact ⟨rfl,pw_below_drewN ((Below.refl _ _).alloc (Nat.le_refl _) _) _⟩
theorem isBeat_any (b:Int) (w:World) :
    Calls Tryd.prog 85 #[.int .i64 b] w fun e w'=>e=.returned (.bool (cliesB b 0 100000))∧Drawn0 w w':=by
  go_enter Tryd.func85,Tryd.ntmps85
  go_wp2_with (go_at_call 101;refine (clies_any _ _ _ _).mono ?_;rintro e w' ⟨rfl,⟨nd,rfl⟩⟩)
  go_ret
  exact ⟨rfl,⟨_,rfl⟩⟩
theorem right_any (g:Int) (A:Option Addr) (n c B b1 b2:Nat) (f b:Int) (hn:n≤4611686018427387904) (w:World) (h1:w.cell? ⟨b1,0,none⟩=some (.int .i64 f)) (h2:w.cell? ⟨b2,0,none⟩=some (.int .i64 b)) (l1:b1<w.heap.size) (l2:b2<w.heap.size) :
    Calls Tryd.prog 83 #[.agg #[.int .i64 g,.slice A n c,.map (some B)],.pointer (some ⟨b1,0,none⟩),.pointer (some ⟨b2,0,none⟩)] w fun e w'=>e=.returned (.bool (cliesB f 0 ((n:Int) - 1) && cliesB b 0 100000))∧Below w.heap.size w w':=by
  have hu24:=Tryd.underlying24
  have hu120:=Tryd.underlying120
  have l1':b1<w.heap.size+1:=by omega
  have l2':b2<w.heap.size+1:=by omega
  cases hc:cliesB f 0 ((n:Int) - 1) with
  | false =>
    go_enter Tryd.func83,Tryd.ntmps83
    go_wp2_with fail
    refine (isForm_any _ _ _ _ _ _ hn _).mono ?_
    rintro e w1 ⟨rfl,hb⟩
    go_wp2_with fail
    go_ret
    exact ⟨rfl,((Below.refl _ _).alloc (Nat.le_refl _) _).trans (hb.mono (by simp))⟩
  | true =>
    go_enter Tryd.func83,Tryd.ntmps83
    go_wp2_with fail
    refine (isForm_any _ _ _ _ _ _ hn _).mono ?_
    rintro e w1 ⟨rfl,hb⟩
    have e2:w1.cell? ⟨b2,0,none⟩=some (.int .i64 b):=by rw [(bcell hb).1 _ _ (by simp;omega)];rw [World.cell?_alloc_past _ _ _ l2];exact h2
    have HB:=Aside0.mk hb
    clear hb
    go_wp2_with (go_at_call 85;refine (isBeat_any _ _).mono ?_;rintro e w' ⟨rfl,⟨nd,rfl⟩⟩)
    go_ret
    exact ⟨ret_bool (by simp),pw_below_drewN (((Below.refl _ _).alloc (Nat.le_refl _) _).trans (HB.out.mono (by simp))) _⟩
set_option maxRecDepth 100000 in
set_option maxHeartbeats 1000000 in
theorem at_any (g:Int) (A:Option Addr) (c B:Nat) (fs:List S85) (i:Nat) (b:Int) (m:SM) (tb:TB) (hb0:0≤b) (hb1:b≤100000) (hi:i<fs.length) (hl:fs.length≤4) (w:World) (hr:Kd.C k85 w A fs.length fs) (h2:2≤(rd_T85 fs i).f0) (hM:MapIs w B m) (hT:Tab m tb) :
    Calls Tryd.prog 86 #[.agg #[.int .i64 g,.slice A fs.length c,.map (some B)],.int .i64 i,.int .i64 b] w fun e w'=>e=.returned (gv tb i (b % (rd_T85 fs i).f0))∧Below w.heap.size w w':=by
  have hu24:=Tryd.underlying24
  have hu120:=Tryd.underlying120
  obtain ⟨ad,A1,c1,e1,hx0,hx1,hl1,hC1⟩:=at_T85 hr (i:Int) (by omega) (by omega)
  cases e1
  rw [Int.toNat_natCast] at hx0 hx1
  have hlook:∀ w':World,MapIs w' B m→(Instr.lookup 118 (.map (some B)) (.agg #[.int .i64 i,.int .i64 (b % (rd_T85 fs i).f0)]) false).run Tryd.prog w'=.ok (gv tb i (b % (rd_T85 fs i).f0)) w':=fun w' h=>by
    have:=run_lookup key162 Tryd.underlying118 h (zero125 w') i (b % (rd_T85 fs i).f0) false
    rw [show Value.agg #[.int .i64 i,.int .i64 (b % (rd_T85 fs i).f0)]=ks i (b % (rd_T85 fs i).f0) from rfl,this,if_neg (by simp),hT]
  go_enter Tryd.func86,Tryd.ntmps86
  go_wp2_with fail
  have hB2:=Aside0.mk (((Below.refl _ w).alloc (Nat.le_refl _) (Obj.cells #[Value.int IntKind.i64 g,Value.slice (some ad) fs.length c,Value.map (some B)] 120)).alloc (by simp) (Obj.cells #[Value.bool false,Value.bool false,Value.bool false,Value.bool false,Value.bool false] 125))
  have b1:=Aside0.mk (blk_alloc (blk_new w (Obj.cells #[Value.int IntKind.i64 g,Value.slice (some ad) fs.length c,Value.map (some B)] 120)) (Obj.cells #[Value.bool false,Value.bool false,Value.bool false,Value.bool false,Value.bool false] 125))
  have b2:Aside0 (((w.alloc (Obj.cells #[Value.int IntKind.i64 g,Value.slice (some ad) fs.length c,Value.map (some B)] 120)).alloc (Obj.cells #[Value.bool false,Value.bool false,Value.bool false,Value.bool false,Value.bool false] 125)).heap[w.heap.size+1]?=some (.cells #[Value.bool false,Value.bool false,Value.bool false,Value.bool false,Value.bool false] 125 (0,0))):=⟨by have:=blk_new (w.alloc (Obj.cells #[Value.int IntKind.i64 g,Value.slice (some ad) fs.length c,Value.map (some B)] 120)) (Obj.cells #[Value.bool false,Value.bool false,Value.bool false,Value.bool false,Value.bool false] 125);simpa using this⟩
  have M2:=Aside0.mk ((hM.alloc (Obj.cells #[Value.int IntKind.i64 g,Value.slice (some ad) fs.length c,Value.map (some B)] 120)).alloc (Obj.cells #[Value.bool false,Value.bool false,Value.bool false,Value.bool false,Value.bool false] 125))
  obtain ⟨w2,hw2⟩:∃ w2,((w.alloc (Obj.cells #[Value.int IntKind.i64 g,Value.slice (some ad) fs.length c,Value.map (some B)] 120)).alloc (Obj.cells #[Value.bool false,Value.bool false,Value.bool false,Value.bool false,Value.bool false] 125))=w2:=⟨_,rfl⟩
  rw [hw2] at hB2 b1 b2 M2 ⊢
  clear hw2
  replace hx0:=(hB2.out.cell (World.block_lt_of_cell? w _ hx0)).trans hx0
  replace hx1:=(hB2.out.cell (World.block_lt_of_cell? w _ hx1)).trans hx1
  have k0:w2.cell? ⟨w.heap.size,0,none⟩=some (Value.int IntKind.i64 g):=(blk_cell b1.out 0).trans rfl
  have k1:w2.cell? ⟨w.heap.size,1,none⟩=some (Value.slice (some ad) fs.length c):=(blk_cell b1.out 1).trans rfl
  have k2:w2.cell? ⟨w.heap.size,2,none⟩=some (Value.map (some B)):=(blk_cell b1.out 2).trans rfl
  have k3:=hlook w2.drew M2.out.drew
  have r0:=(blk_cell b2.out 0).trans rfl
  have r1:=(blk_cell b2.out 1).trans rfl
  have r2:=(blk_cell b2.out 2).trans rfl
  have r3:=(blk_cell b2.out 3).trans rfl
  have r4:=(blk_cell b2.out 4).trans rfl
  have z0:=blk_frozen b2.out 0
  have z1:=blk_frozen b2.out 1
  have z2:=blk_frozen b2.out 2
  have z3:=blk_frozen b2.out 3
  have z4:=blk_frozen b2.out 4
  have k4:¬ (rd_T85 fs i).f0=0:=by omega
  have k5:b.tmod (rd_T85 fs i).f0=b % (rd_T85 fs i).f0:=Int.tmod_eq_emod_of_nonneg hb0
  clear hlook hM
  go_still_tail 14,(by kernel_rfl)
  change wpList _ _ _ _ _ w2.drew
  dsimp only [gv]
  have HB2:=Aside0.mk (hB2.out.drew)
  have hBel:=fun (v0 v1 v2 v3 v4:Value)=>Aside0.mk (((((HB2.out.setCell (p:=⟨w.heap.size+1,0,none⟩) (by show w.heap.size≤w.heap.size+1;omega) v0).setCell (p:=⟨w.heap.size+1,1,none⟩) (by show w.heap.size≤w.heap.size+1;omega) v1).setCell (p:=⟨w.heap.size+1,2,none⟩) (by show w.heap.size≤w.heap.size+1;omega) v2).setCell (p:=⟨w.heap.size+1,3,none⟩) (by show w.heap.size≤w.heap.size+1;omega) v3).setCell (p:=⟨w.heap.size+1,4,none⟩) (by show w.heap.size≤w.heap.size+1;omega) v4)
  clear k3 k4 k5 hx0 hx1 k0 k1 k2
  go_wp2_with fail
  refine bodyPost_ret (v:=gv tb i (b % (rd_T85 fs i).f0)) (by simp [results,Tryd.results86,go_sem,r0,r1,r2,r3,r4,gv]) rfl ⟨rfl,(hBel _ _ _ _ _).out⟩
theorem eql125 (a b:List Bool) (ha:a.length=5) (hb:b.length=5) (w:World):(binOp .eql 125 (.agg (bvs a)) (.agg (bvs b))).run Tryd.prog w=.ok (.bool (a == b)) w:=by
  obtain ⟨i,hi⟩:=info_of_underlying Tryd.underlying4
  exact run_eql_bools Tryd.underlying125 hi (by kernel_rfl) (by kernel_rfl) Tryd.underlying4 w a b ha (by omega)
theorem index125 (a:List Bool) (ha:a.length=5) (w:World) (j:Nat) (h:j<5):(Instr.index 125 (.agg (bvs a)) (.int .i64 j)).run Tryd.prog w=.ok (.bool (bat a j)) w:=by
  obtain ⟨i,hi⟩:=info_of_underlying Tryd.underlying4
  exact run_index_bools Tryd.underlying125 hi (by kernel_rfl) (by kernel_rfl) w a ha j h
theorem row125:(Tryd.prog.info? 125).map (·.size)=some 5:=by kernel_rfl
theorem list87 (l:List Bool) (hl:l.length=5) (w:World) :
    Calls Tryd.prog 87 #[.agg (bvs l)] w fun e w'=>∃ v:Value,e=.returned v∧Kd.R (Kd.int .i64) 3 w' w.heap.size (fun _=>True) v (truesB l 0)∧Below w.heap.size w w':=by
  have heq:=eql125 l [false,false,false,false,false] hl rfl
  have hix:=index125 l hl
  rw [show bvs [false,false,false,false,false]=#[.bool false,.bool false,.bool false,.bool false,.bool false] from rfl] at heq
  have hsz:(bvs l).size=5:=by simp [bvs,hl]
  generalize hxs:bvs l=xs at heq hix hsz ⊢
  have HSZ:=Aside0.mk hsz
  have HL:=Aside0.mk hl
  clear hsz hxs hl
  cases hb:(l == [false,false,false,false,false]) with
  | true =>
    have HN:=Aside0.mk hb
    go_enter Tryd.func87,Tryd.ntmps87
    go_wp2_with (refine wpList_load_row rfl 125 (.tmp 1) rfl w.heap.size rfl 125 xs (0,0) _ (blk_new w _) Tryd.underlying125 rfl (by rw [HSZ.out];exact row125) ?_)
    go_ret
    exact ⟨_,rfl,by rw [truesB_none l 0 (by rw [HL.out];exact HN.out)];exact Kd.R_nil _ _ _ _ _,(Below.refl _ _).alloc (Nat.le_refl _) _⟩
  | false =>
    go_enter Tryd.func87,Tryd.ntmps87
    go_wp2_with (first|(refine wpList_load_row rfl 125 (.tmp 1) rfl w.heap.size rfl 125 xs (0,0) _ (blk_new w _) Tryd.underlying125 rfl (by rw [HSZ.out];exact row125) ?_))
    have HB0:=Aside0.mk ((Below.refl w.heap.size w).alloc (Nat.le_refl _) (.cells xs 125))
    go_loopg [3,10] 5 (fun gk v3 v10 w'=>∃ (j:Nat),v10=.int .i64 j∧Aside0 (gk+j=5)∧Aside0 (Kd.R (Kd.int .i64) 3 w' w.heap.size (fun _=>True) v3 (truesB (l.take j) 0))∧Aside0 (Below w.heap.size w w'))
    case atStart=>exact ⟨0,rfl,⟨rfl⟩,⟨Kd.R_nil _ _ _ _ _⟩,HB0⟩
    case round =>
      obtain ⟨j,rfl,HJ,HO,HB⟩:=hrel
      have hj:=HJ.out
      by_cases hlt:j<5
      · have hix1:=fun w=>hix w j hlt
        cases hbj:bat l j with
        | true =>
          have HT:=truesB_take l j (by have:=HL.out;omega)
          rw [hbj,if_pos rfl] at HT
          have hT:=Aside0.mk HT
          have HLen:=truesB_len (l.take j) 0
          rw [List.length_take] at HLen
          have hLen:=Aside0.mk HLen
          clear HT HLen hix
          go_wp2_with (first|(at_builtin;refine Kd.R_append (Kd.int .i64) (w0:=w) w.heap.size rfl (.tmp 15) (.tmp 17) 28 3 (.int .i64 0) 8 rfl Tryd.underlying28 info3 rfl (by decide) (by omega) u3 (truesB (l.take j) 0) (j:Int) [.int .i64 (j:Int)] (fun _=>True) (fun _=>False) rfl rfl ?aP (fun _ hk=>hk.elim) ?aF ?aO ?aB ?aS ?aL ?_;(case aP=>exact rfl);(case aB=>exact HB.out);(case aF=>exact (fun _ _=>trivial));(case aO=>exact HO.out);(case aS=>exact HB.out.size);(case aL=>have:=hLen.out;omega);intro v4 w6 ho hb hg hat;rw [← hT.out] at ho;have HO2:=Aside0.mk ho;have HB2:=Aside0.mk hb;clear ho hb hg hat))
          go_roundg (gk - 1)
          case measure=>omega
          case rel=>exact ⟨j+1,by go_num,⟨by omega⟩,HO2,HB2⟩
        | false =>
          have HT:=truesB_take l j (by have:=HL.out;omega)
          rw [hbj,if_neg (by simp),List.append_nil] at HT
          have hT:=Aside0.mk HT
          clear HT hix
          go_wp2_with fail
          go_roundg (gk - 1)
          case measure=>omega
          case rel=>exact ⟨j+1,by go_num,⟨by omega⟩,by rw [hT.out];exact HO,HB⟩
      · go_wp2_with fail
        go_ret
        exact ⟨_,rfl,by rw [List.take_of_length_le (by have:=HL.out;omega)] at HO;exact HO.out,HB.out⟩
end Go.Proofs.YthnilelmhpmanaaDoor.PHeardFits
end
section
namespace Go.Proofs.YthnilelmhpmanaaDoor.PHeardFits
open Go.RowKit Go.Proofs.YthnilelmhpmanaaDoorW.PrintWords Go.Proofs.YthnilelmhpmanaaDoorW.PrintLast Go.Proofs.YthnilelmhpmanaaDoorW.PrintMore
open Go.Proofs.YthnilelmhpmanaaDoor.Hm
set_option linter.unusedVariables false
set_option linter.unusedSimpArgs false
/-- A row of one's own is one that is only read, in what is new. -/
theorem F_of_R {α:Type} {d:Kd α} {e:Nat} {w:World} {base:Nat} {ok:Nat→Prop} {A:Option Addr} {n c:Nat} {xs:List α} (h:d.R e w base ok (.slice A n c) xs):n=xs.length∧n≤c∧Kd.F d w (fun k=>base≤k) A xs.length xs:=by
  obtain ⟨A',c',he,hl,_⟩:=Kd.R_reads h
  simp only [Value.slice.injEq] at he
  obtain ⟨rfl,rfl,rfl⟩:=he
  refine ⟨rfl,hl,fun W' hW=>?_⟩
  obtain ⟨A2,c2,he2,_,hC⟩:=Kd.R_reads (Kd.R_move (Kd.R_bound h) (w1:=W') (fun k hk=>hW k hk.2.1 hk.2.2.1))
  simp only [Value.slice.injEq] at he2
  obtain ⟨rfl,_,rfl⟩:=he2
  exact hC
set_option maxRecDepth 100000 in
theorem opened_err (k:Nat) (g:Int) (A:Option Addr) (c:Nat) (fs:List S85) (fv:Value) (r:Int) (hne:r≠0) (w:World) (hr:Kd.C k85 w A fs.length fs) (hc:fs.length≤c) (h:cycle_Check.f k g fs=some r) :
    Calls Tryd.prog 82 #[.agg #[.int .i64 g,.slice A fs.length c],fv] w fun e w'=>e=.returned (.tuple #[.agg #[.int .i64 0,.slice none 0 0,.map none],.int .i64 r])∧Below w.heap.size w w':=by
  have HR:=Aside0.mk hr
  have HC:=Aside0.mk hc
  have HH:=Aside0.mk h
  clear hr hc h
  have hu24:=Tryd.underlying24
  have hrb:(r != 0)=true:=by simpa using hne
  go_enter Tryd.func82,Tryd.ntmps82
  go_wp2_with fail
  refine (cycle_Check.calls k _ _ _ _ _ _ (Kd.C_below HR.out (((Below.refl _ _).alloc (Nat.le_refl _) _).alloc (by simp) _)) HC.out HH.out).mono ?_
  rintro e w1 ⟨rfl,hb⟩
  have q0:w1.heap[w.heap.size+1]?=some (.cells #[Value.int IntKind.i64 0,Value.slice none 0 0,Value.map none] 120 (0,0)):=(hb.block (w.heap.size+1) (by simp)).trans (by have:=heap_alloc_new (w.alloc (Obj.cells #[Value.int IntKind.i64 g,Value.slice A fs.length c] 24)) (Obj.cells #[Value.int IntKind.i64 0,Value.slice none 0 0,Value.map none] 120);simpa using this)
  have hW1:Below w.heap.size w w1:=(((Below.refl _ _).alloc (Nat.le_refl _) _).alloc (by simp) _).trans (hb.mono (by simp;omega))
  have hB9:=Aside0.mk hW1
  have c0:=(blk_cell q0 0).trans rfl
  have c1:=(blk_cell q0 1).trans rfl
  have c2:=(blk_cell q0 2).trans rfl
  have z0:=blk_frozen q0 0
  have z1:=blk_frozen q0 1
  have z2:=blk_frozen q0 2
  have hBel:=fun (v0 v1 v2:Value)=>Aside0.mk (((hB9.out.setCell (p:=⟨w.heap.size+1,0,none⟩) (by show w.heap.size≤w.heap.size+1;omega) v0).setCell (p:=⟨w.heap.size+1,1,none⟩) (by show w.heap.size≤w.heap.size+1;omega) v1).setCell (p:=⟨w.heap.size+1,2,none⟩) (by show w.heap.size≤w.heap.size+1;omega) v2)
  clear q0 hb hW1
  go_wp2_with fail
  refine bodyPost_ret (v:=.tuple #[.agg #[.int .i64 0,.slice none 0 0,.map none],.int .i64 r]) (by simp [results,Tryd.results82,go_sem,c0,c1,c2]) rfl ⟨rfl,(hBel _ _ _).out⟩
/-- The gongs that are struck at a beat of a form. -/
def struckP (fs:List S85) (form beat:Int):List Int:=truesB ((List.range 5).map (allT t0 0 fs form (beat % (rd_T85 fs form).f0))) 0
def cycle_Struck.f (k:Nat) (a0_0:Int) (l0_1:List S85) (a1 a2:Int):Option (List Int×Int) :=
  (cycle_Check.f k a0_0 l0_1).bind fun e=>if e=0 then (if bookB a0_0 l0_1=true then (if (cliesB a1 0 ((l0_1.length:Int) - 1) && cliesB a2 0 100000)=true then some (struckP l0_1 a1 a2,0) else some ([],51)) else none) else some ([],e)
set_option maxRecDepth 100000 in
set_option maxHeartbeats 1000000 in
theorem cycle_Struck.calls (k:Nat) (a0_0:Int) (A0_1:Option Addr) (c0_1:Nat) (l0_1:List S85) (a1:Int) (a2:Int) (r1:List Int) (r2:Int) (w:World) (hr0_1:Kd.C k85 w A0_1 l0_1.length l0_1) (hc0_1:l0_1.length≤c0_1) (h:cycle_Struck.f k a0_0 l0_1 a1 a2=some (r1,r2)) :
    Calls Tryd.prog 44 #[.agg #[.int .i64 a0_0,.slice A0_1 l0_1.length c0_1],.int .i64 a1,.int .i64 a2] w fun e w'=>∃ v0_:Value,e=.returned (.tuple #[v0_,.int .i64 r2])∧Kd.V (Kd.int .i64) 3 w' w.heap.size (fun k_=>(w.heap.size≤k_)) v0_ r1∧Below w.heap.size w w':=by
  unfold cycle_Struck.f at h
  obtain ⟨e0,he0,h⟩:=Option.bind_eq_some_iff.mp h
  by_cases hz:e0=0
  · subst hz
    rw [if_pos rfl] at h
    by_cases hB:bookB a0_0 l0_1=true
    · rw [if_pos hB] at h
      have HR:=Aside0.mk hr0_1
      have HC:=Aside0.mk hc0_1
      have HH:=Aside0.mk he0
      have HBk:=Aside0.mk hB
      have hf4:=(book_forms hB).1
      clear hr0_1 hc0_1 he0 hB
      have hu24:=Tryd.underlying24
      have hu120:=Tryd.underlying120
      cases hcc:(cliesB a1 0 ((l0_1.length:Int) - 1) && cliesB a2 0 100000) with
      | false =>
        rw [hcc,if_neg (by simp)] at h
        simp only [Option.some.injEq,Prod.mk.injEq] at h
        obtain ⟨rfl,rfl⟩:=h
        have HCC:=Aside0.mk hcc
        clear hcc
        go_enter Tryd.func44,Tryd.ntmps44
        go_wp2_with fail
        refine (opened_any k a0_0 A0_1 c0_1 l0_1 _ _ false _ (fun B w' hb=>?_) (Kd.C_below HR.out ((((Below.refl _ _).alloc (Nat.le_refl _) _).alloc (by simp) _).alloc (by simp;omega) _)) HC.out HH.out HBk.out).mono ?_
        · rw [← HCC.out]
          exact right_any a0_0 A0_1 l0_1.length c0_1 B _ _ a1 a2 (by omega) w' ((hb.cell (p:=⟨w.heap.size+1,0,none⟩) (by simp)).trans (by go_simp)) ((hb.cell (p:=⟨w.heap.size+1+1,0,none⟩) (by simp)).trans (by go_simp)) (by have:=hb.size;simp at this;omega) (by have:=hb.size;simp at this;omega)
        rintro e w1 ⟨hb,⟨-,rfl⟩ | ⟨hf,_⟩⟩
        · have hB9:=Aside0.mk (((((Below.refl _ _).alloc (Nat.le_refl _) _).alloc (by simp) _).alloc (by simp;omega) _).trans (hb.mono (by simp;omega)):Below w.heap.size w w1)
          clear hb
          go_wp2_with fail
          go_ret2
          exact ⟨_,rfl,Kd.V_nil _ _ _ _ _,hB9.out.alloc hB9.out.size _⟩
        · cases hf
      | true =>
        rw [hcc,if_pos rfl] at h
        simp only [Option.some.injEq,Prod.mk.injEq] at h
        obtain ⟨rfl,rfl⟩:=h
        have HCC:=Aside0.mk hcc
        simp only [cliesB,Bool.and_eq_true,decide_eq_true_eq] at hcc
        obtain ⟨⟨ha0,ha1⟩,hb0,hb1⟩:=hcc
        obtain ⟨i,rfl⟩:∃ i:Nat,a1=i:=⟨a1.toNat,by omega⟩
        have hi:i<l0_1.length:=by omega
        have h2:=((book_forms HBk.out).2 _ (rd_T85_mem l0_1 i hi)).1
        go_enter Tryd.func44,Tryd.ntmps44
        go_wp2_with fail
        refine (opened_any k a0_0 A0_1 c0_1 l0_1 _ _ true _ (fun B w' hb=>?_) (Kd.C_below HR.out ((((Below.refl _ _).alloc (Nat.le_refl _) _).alloc (by simp) _).alloc (by simp;omega) _)) HC.out HH.out HBk.out).mono ?_
        · rw [← HCC.out]
          exact right_any a0_0 A0_1 l0_1.length c0_1 B _ _ i a2 (by omega) w' ((hb.cell (p:=⟨w.heap.size+1,0,none⟩) (by simp)).trans (by go_simp)) ((hb.cell (p:=⟨w.heap.size+1+1,0,none⟩) (by simp)).trans (by go_simp)) (by have:=hb.size;simp at this;omega) (by have:=hb.size;simp at this;omega)
        rintro e w1 ⟨hb,⟨hf,_⟩ | ⟨-,B,m,hBs,hM,hT,rfl⟩⟩
        · cases hf
        · have hB9:=Aside0.mk (((((Below.refl _ _).alloc (Nat.le_refl _) _).alloc (by simp) _).alloc (by simp;omega) _).trans (hb.mono (by simp;omega)):Below w.heap.size w w1)
          have e1:w1.cell? ⟨w.heap.size+1,0,none⟩=some (.int .i64 i):=(hb.cell (p:=⟨w.heap.size+1,0,none⟩) (by simp)).trans (by go_simp)
          have e2:w1.cell? ⟨w.heap.size+1+1,0,none⟩=some (.int .i64 a2):=(hb.cell (p:=⟨w.heap.size+1+1,0,none⟩) (by simp)).trans (by go_simp)
          have s1:w.heap.size+1<w1.heap.size:=by have:=hb.size;simp at this;omega
          have s2:w.heap.size+1+1<w1.heap.size:=by have:=hb.size;simp at this;omega
          have HM:=Aside0.mk hM
          have HT:=Aside0.mk hT
          clear hb hM hT
          go_wp2_with fail
          have hBa:=Aside0.mk (hB9.out.alloc hB9.out.size (Obj.cells #[Value.int IntKind.i64 a0_0,Value.slice A0_1 l0_1.length c0_1,Value.map (some B)] 120))
          refine (at_any a0_0 A0_1 c0_1 B l0_1 i a2 m _ hb0 hb1 hi hf4 _ (Kd.C_below HR.out hBa.out) h2 (HM.out.alloc _) HT.out).mono ?_
          rintro e w2 ⟨rfl,hb2⟩
          go_wp2_with fail
          refine (list87 [allT t0 0 l0_1 i (a2 % (rd_T85 l0_1 i).f0) 0,allT t0 0 l0_1 i (a2 % (rd_T85 l0_1 i).f0) 1,allT t0 0 l0_1 i (a2 % (rd_T85 l0_1 i).f0) 2,allT t0 0 l0_1 i (a2 % (rd_T85 l0_1 i).f0) 3,allT t0 0 l0_1 i (a2 % (rd_T85 l0_1 i).f0) 4] rfl _).mono ?_
          rintro e w3 ⟨v,rfl,hR,hb3⟩
          obtain ⟨A,c,rfl⟩:=Kd.R_slice hR
          obtain ⟨-,hlc,hF⟩:=F_of_R hR
          have hW3:Below w.heap.size w w3:=(hBa.out.trans (hb2.mono hBa.out.size)).trans (hb3.mono (Nat.le_trans hBa.out.size hb2.size))
          have hszz:w.heap.size≤w2.heap.size:=Nat.le_trans hBa.out.size hb2.size
          have HF:=Aside0.mk hF
          have HW3:=Aside0.mk hW3
          have HSZ:=Aside0.mk hszz
          clear hR hF hb2 hb3 hW3 hszz e1 e2
          go_wp2_with fail
          go_ret2
          exact ⟨_,rfl,Kd.V_mk (Nat.le_refl _) (Kd.F_mono HF.out (fun k hk=>Nat.le_trans HSZ.out hk)),HW3.out⟩
    · rw [if_neg hB] at h;simp at h
  · rw [if_neg hz] at h
    simp only [Option.some.injEq,Prod.mk.injEq] at h
    obtain ⟨rfl,rfl⟩:=h
    have HR:=Aside0.mk hr0_1
    have HC:=Aside0.mk hc0_1
    have HH:=Aside0.mk he0
    clear hr0_1 hc0_1 he0
    have hzb:(e0 != 0)=true:=by simpa using hz
    have hu24:=Tryd.underlying24
    have hu120:=Tryd.underlying120
    go_enter Tryd.func44,Tryd.ntmps44
    go_wp2_with fail
    refine (opened_err k _ _ _ _ _ _ hz _ (Kd.C_below HR.out ((((Below.refl _ _).alloc (Nat.le_refl _) _).alloc (by simp) _).alloc (by simp;omega) _)) HC.out HH.out).mono ?_
    rintro e w1 ⟨rfl,hb⟩
    have hW1:Below w.heap.size w w1:=((((Below.refl _ _).alloc (Nat.le_refl _) _).alloc (by simp) _).alloc (by simp;omega) _).trans (hb.mono (by simp;omega))
    have hB9:=Aside0.mk hW1
    clear hb hW1
    go_wp2_with fail
    go_ret2
    exact ⟨_,rfl,Kd.V_nil _ _ _ _ _,hB9.out.alloc hB9.out.size _⟩
end Go.Proofs.YthnilelmhpmanaaDoor.PHeardFits
end
section
namespace Go.Proofs.YthnilelmhpmanaaDoor.PHeardFits
open Go.RowKit Go.Proofs.YthnilelmhpmanaaDoorW.PrintWords Go.Proofs.YthnilelmhpmanaaDoorW.PrintLast Go.Proofs.YthnilelmhpmanaaDoorW.PrintMore
open Go.Proofs.YthnilelmhpmanaaDoor.Hm
set_option linter.unusedVariables false
set_option linter.unusedSimpArgs false
theorem kc {w w':World} {a:Addr} {v:Value} (hb:Below w.heap.size w w') (h:w.cell? a=some v):w'.cell? a=some v:=(hb.cell (World.block_lt_of_cell? w _ h)).trans h
theorem below_at {n:Nat} {w w':World} (hb:Below n w w') (h:w.heap.size=n):Below w.heap.size w w'.drew:=by subst h;exact below_drew1 hb
theorem findI_yes {x:Int} {l:List Int} {i:Nat} (h:i<l.length) (hp:(x == rd l i)=true):findP (fun y=>x == y) (l.drop i) i=i:=findP_yes (p:=fun y=>x == y) h hp
theorem findI_no {x:Int} {l:List Int} {i:Nat} (h:i<l.length) (hp:(x == rd l i)=false):findP (fun y=>x == y) (l.drop i) i=findP (fun y=>x == y) (l.drop (i+1)) (i+1):=findP_no (p:=fun y=>x == y) h hp
/-- The first place of a number. -/
def idxI (x:Int) (l:List Int) (i:Nat):Int:=findP (fun y=>x == y) l i
theorem indexI_any (A:Option Addr) (c:Nat) (l:List Int) (x:Int) (w:World) (hr:Kd.C (Kd.int .i64) w A l.length l) (hl:l.length≤4611686018427387904) :
    Calls Tryd.prog 141 #[.slice A l.length c,.int .i64 x] w fun e w'=>e=.returned (.int .i64 (idxI x l 0))∧Drawn0 w w':=by
  have HR:=Aside0.mk hr
  clear hr
  go_enter Tryd.func141,Tryd.ntmps141
  go_wp2_with fail
  go_loopg [5,8] l.length (fun gk v5 v8 w'=>∃ (i:Nat) (x5:Value),v8=.int .i64 i∧v5=x5∧Aside0 (gk+i=l.length)∧Aside0 (idxI x l 0=idxI x (l.drop i) i)∧Drawn0 w w')
  case atStart=>exact ⟨0,_,rfl,rfl,⟨by omega⟩,⟨rfl⟩,Drawn0.refl _⟩
  case round =>
    obtain ⟨i,x5,rfl,rfl,HI,HA,⟨m1,rfl⟩⟩:=hrel
    have hi:=HI.out
    by_cases hlt:i<l.length
    · obtain ⟨ad,e1,hx⟩:=Kd.at_int HR.out (i:Int) (by omega) (by omega)
      cases e1
      rw [Int.toNat_natCast] at hx
      cases hq:(x == rd l i) with
      | true =>
        have HQ:=Aside0.mk hq
        go_wp2_with fail
        go_ret
        exact ⟨ret_i64 (by rw [HA.out];exact (findI_yes hlt HQ.out).symm),by repeat (first|exact Drawn0.refl _|apply Drawn0.step)⟩
      | false =>
        have HQ:=Aside0.mk hq
        go_wp2_with fail
        go_roundg (gk - 1)
        case measure=>omega
        case rel=>exact ⟨i+1,_,by go_num,rfl,⟨by omega⟩,⟨by rw [HA.out];exact findI_no hlt HQ.out⟩,by repeat (first|exact Drawn0.refl _|apply Drawn0.step)⟩
    · go_wp2_with fail
      go_ret
      exact ⟨ret_i64 (by rw [HA.out,List.drop_eq_nil_of_le (by omega)];rfl),by repeat (first|exact Drawn0.refl _|apply Drawn0.step)⟩
/-- Is a number in a list? -/
def hasI (x:Int) (l:List Int):Bool:=l.any fun y=>x == y
theorem containsI_any (A:Option Addr) (c:Nat) (l:List Int) (x:Int) (w:World) (hr:Kd.C (Kd.int .i64) w A l.length l) (hl:l.length≤4611686018427387904) :
    Calls Tryd.prog 136 #[.slice A l.length c,.int .i64 x] w fun e w'=>e=.returned (.bool (hasI x l))∧Drawn0 w w':=by
  go_enter Tryd.func136,Tryd.ntmps136
  go_wp2_with (first|(go_at_call 141;refine (indexI_any _ _ _ _ _ hr hl).mono ?_;rintro e w' ⟨rfl,⟨nd,rfl⟩⟩))
  go_ret
  exact ⟨ret_bool (findP_ge _ _ _),⟨_,rfl⟩⟩
section
variable (g:Int) (Af:Option Addr) (cf:Nat) (fs:List S85) (Ap:Option Addr) (cp:Nat) (ps:List S62) (pn:Nat) (At:Option Addr) (ct:Nat) (ts:List Int) (Ag:Option Addr) (cg:Nat) (gs:List Int) (lost wrong:Int)
/-- A book in the calculation. -/
def bkv:Value:=.agg #[.int .i64 g,.slice Af fs.length cf,.slice Ap ps.length cp,.int .i64 pn,.slice At ts.length ct,.slice Ag gs.length cg,.int .i64 lost,.int .i64 wrong]
structure BkC (w:World):Prop where
  f:Kd.C k85 w Af fs.length fs
  p:Kd.C k62 w Ap ps.length ps
  t:Kd.C (Kd.int .i64) w At ts.length ts
  g:Kd.C (Kd.int .i64) w Ag gs.length gs
variable {g Af cf fs Ap cp ps pn At ct ts Ag cg gs lost wrong}
theorem BkC.below {w w':World} (h:BkC Af fs Ap ps At ts Ag gs w) (hb:Below w.heap.size w w'):BkC Af fs Ap ps At ts Ag gs w':=⟨Kd.C_below h.f hb,Kd.C_below h.p hb,Kd.C_below h.t hb,Kd.C_below h.g hb⟩
/-- The tones of the piece. -/
def ptones (ps:List S62) (pn:Nat):List Int:=(rd_T62 ps pn).f1
set_option maxRecDepth 100000 in
theorem tones_at (hp:pn<ps.length) (ad:Addr) (A1:Option Addr) (c1:Nat) (w:World) (hx1:w.cell? ⟨(ad.add (pn * 2)).block,(ad.add (pn * 2)).off+1,none⟩=some (.slice A1 (ptones ps pn).length c1)) :
    Calls Tryd.prog 69 #[bkv g Af cf fs (some ad) cp ps pn At ct ts Ag cg gs lost wrong] w fun e w'=>e=.returned (.slice A1 (ptones ps pn).length c1)∧Below w.heap.size w w':=by
  have hb:∀ o,(w.alloc o).cell? ⟨(ad.add (pn * 2)).block,(ad.add (pn * 2)).off+1,none⟩=some (.slice A1 (ptones ps pn).length c1):=fun o=>((below_alloc (Below.refl _ w) o).cell (World.block_lt_of_cell? w _ hx1)).trans hx1
  clear hx1
  unfold bkv
  have hu94:=Tryd.underlying94
  have hu27:=Tryd.underlying27
  have hu24:=Tryd.underlying24
  have hu30:=Tryd.underlying30
  go_enter Tryd.func69,Tryd.ntmps69
  go_wp2_with fail
  go_ret
  exact ⟨rfl,below_alloc (Below.refl _ w) _⟩
set_option maxRecDepth 100000 in
set_option maxHeartbeats 1000000 in
theorem isRight_any (hp:pn<ps.length) (i j:Nat) (hi:i<ts.length) (hj:j<(ptones ps pn).length) (hbt : -1000≤rd ts i∧rd ts i≤1000) (hbp : -1000≤rd (ptones ps pn) j∧rd (ptones ps pn) j≤1000) (w:World) (h:BkC Af fs Ap ps At ts Ag gs w) :
    Calls Tryd.prog 168 #[bkv g Af cf fs Ap cp ps pn At ct ts Ag cg gs lost wrong,.agg #[.int .i64 i,.int .i64 j]] w fun e w'=>e=.returned (.bool (rd ts i == rd (ptones ps pn) j))∧Below w.heap.size w w':=by
  have hu94:=Tryd.underlying94
  have hu27:=Tryd.underlying27
  have hu24:=Tryd.underlying24
  have hu30:=Tryd.underlying30
  have H:=Aside0.mk h
  obtain ⟨adt,et,ht⟩:=Kd.at_int h.t (i:Int) (by omega) (by omega)
  cases et
  rw [Int.toNat_natCast] at ht
  obtain ⟨ad,A1,c1,ep,_,hx1,hl1,hC1⟩:=at_T62 h.p (pn:Int) (by omega) (by omega)
  cases ep
  rw [Int.toNat_natCast] at hx1
  obtain ⟨ad2,ee2,hx2⟩:=Kd.at_int hC1 (j:Int) (by omega) (by have:j<(rd_T62 ps pn).f1.length:=hj;omega)
  cases ee2
  rw [Int.toNat_natCast] at hx2
  clear h hl1 hC1
  have u1:(0:Int)≤i:=by omega
  have u2:(i:Int)<ts.length:=by omega
  have u3:(0:Int)≤j:=by omega
  have u4:(j:Int)<(ptones ps pn).length:=by omega
  unfold bkv
  go_enter Tryd.func168,Tryd.ntmps168
  go_wp2_with fail
  have b1:=Aside0.mk (blk_alloc (blk_new w (Obj.cells #[.int .i64 g,.slice Af fs.length cf,.slice (some ad) ps.length cp,.int .i64 pn,.slice (some adt) ts.length ct,.slice Ag gs.length cg,.int .i64 lost,.int .i64 wrong] 94)) (Obj.cells #[.int .i64 i,.int .i64 j] 107))
  have b2:Aside0 (((w.alloc (Obj.cells #[.int .i64 g,.slice Af fs.length cf,.slice (some ad) ps.length cp,.int .i64 pn,.slice (some adt) ts.length ct,.slice Ag gs.length cg,.int .i64 lost,.int .i64 wrong] 94)).alloc (Obj.cells #[.int .i64 i,.int .i64 j] 107)).heap[w.heap.size+1]?=some (.cells #[.int .i64 i,.int .i64 j] 107 (0,0))):=⟨by have:=blk_new (w.alloc (Obj.cells #[.int .i64 g,.slice Af fs.length cf,.slice (some ad) ps.length cp,.int .i64 pn,.slice (some adt) ts.length ct,.slice Ag gs.length cg,.int .i64 lost,.int .i64 wrong] 94)) (Obj.cells #[.int .i64 i,.int .i64 j] 107);rwa [World.size_alloc] at this⟩
  have hB:=Aside0.mk ((below_alloc (Below.refl _ w) (Obj.cells #[.int .i64 g,.slice Af fs.length cf,.slice (some ad) ps.length cp,.int .i64 pn,.slice (some adt) ts.length ct,.slice Ag gs.length cg,.int .i64 lost,.int .i64 wrong] 94)).alloc (by simp) (Obj.cells #[.int .i64 i,.int .i64 j] 107))
  obtain ⟨w1,hw1⟩:∃ w1,((w.alloc (Obj.cells #[.int .i64 g,.slice Af fs.length cf,.slice (some ad) ps.length cp,.int .i64 pn,.slice (some adt) ts.length ct,.slice Ag gs.length cg,.int .i64 lost,.int .i64 wrong] 94)).alloc (Obj.cells #[.int .i64 i,.int .i64 j] 107))=w1:=⟨_,rfl⟩
  rw [hw1] at b1 b2 hB ⊢
  clear hw1
  replace hx1:=(hB.out.cell (World.block_lt_of_cell? w _ hx1)).trans hx1
  replace hx2:=(hB.out.cell (World.block_lt_of_cell? w _ hx2)).trans hx2
  replace ht:=(hB.out.cell (World.block_lt_of_cell? w _ ht)).trans ht
  have s0:=(blk_cell b1.out 0).trans rfl
  have s1:=(blk_cell b1.out 1).trans rfl
  have s2:=(blk_cell b1.out 2).trans rfl
  have s3:=(blk_cell b1.out 3).trans rfl
  have s4:=(blk_cell b1.out 4).trans rfl
  have s5:=(blk_cell b1.out 5).trans rfl
  have s6:=(blk_cell b1.out 6).trans rfl
  have s7:=(blk_cell b1.out 7).trans rfl
  have s8:=(blk_cell b2.out 0).trans rfl
  have s9:=(blk_cell b2.out 1).trans rfl
  obtain ⟨n0,hn0⟩:∃ n0,w.heap.size=n0:=⟨_,rfl⟩
  have HBW:Aside0 (Below n0 w w1):=⟨hn0 ▸ hB.out⟩
  rw [hn0] at s0 s1 s2 s3 s4 s5 s6 s7 s8 s9 b1 b2 hB ⊢
  have HN:=Aside0.mk hn0
  clear hn0 b1 b2
  go_region_held3 (fun w'=>w'.cell? ⟨n0,0,none⟩=some (.int .i64 g)∧w'.cell? ⟨n0,1,none⟩=some (.slice Af fs.length cf)∧w'.cell? ⟨n0,2,none⟩=some (.slice (some ad) ps.length cp)∧w'.cell? ⟨n0,3,none⟩=some (.int .i64 pn)∧w'.cell? ⟨n0,4,none⟩=some (.slice (some adt) ts.length ct)∧w'.cell? ⟨n0,5,none⟩=some (.slice Ag gs.length cg)∧w'.cell? ⟨n0,6,none⟩=some (.int .i64 lost)∧w'.cell? ⟨n0,7,none⟩=some (.int .i64 wrong)∧w'.cell? ⟨n0+1,0,none⟩=some (.int .i64 i)∧w'.cell? ⟨n0+1,1,none⟩=some (.int .i64 j)∧w'.cell? (adt.add i)=some (.int .i64 (rd ts i))∧w'.cell? (ad2.add j)=some (.int .i64 (rd (ptones ps pn) j))) (first|exact ⟨s0,s1,s2,s3,s4,s5,s6,s7,s8,s9,ht,hx2⟩|exact ⟨kc hb2 s0,kc hb2 s1,kc hb2 s2,kc hb2 s3,kc hb2 s4,kc hb2 s5,kc hb2 s6,kc hb2 s7,kc hb2 s8,kc hb2 s9,kc hb2 ht,kc hb2 hx2⟩|go_keep) (first|(go_at_call 69;refine (tones_at (g:=g) (cf:=cf) (cp:=cp) (ct:=ct) (cg:=cg) (lost:=lost) (wrong:=wrong) (At:=some adt) (ts:=ts) (Ag:=Ag) (gs:=gs) (Af:=Af) (fs:=fs) (ps:=ps) (pn:=pn) hp ad (some ad2) c1 w1.drew hx1).mono ?_;rintro e w2 ⟨rfl,hb2⟩))
  go_wp2_with fail
  go_ret
  exact ⟨rfl,by rw [HN.out];exact (below_drew1 HBW.out).trans (hb2.mono (by have:=HBW.out.size;have:=HN.out;show n0≤w1.heap.size;omega))⟩
set_option maxRecDepth 100000 in
set_option maxHeartbeats 1000000 in
theorem isWrong_any (hp:pn<ps.length) (i j:Nat) (hi:i<ts.length) (hj:j<(ptones ps pn).length) (hbt : -1000≤rd ts i∧rd ts i≤1000) (hbp : -1000≤rd (ptones ps pn) j∧rd (ptones ps pn) j≤1000) (w:World) (h:BkC Af fs Ap ps At ts Ag gs w) :
    Calls Tryd.prog 169 #[bkv g Af cf fs Ap cp ps pn At ct ts Ag cg gs lost wrong,.agg #[.int .i64 i,.int .i64 j]] w fun e w'=>e=.returned (.bool ((rd ts i - rd (ptones ps pn) j == 1) || (rd ts i - rd (ptones ps pn) j == -1)))∧Below w.heap.size w w':=by
  have hu94:=Tryd.underlying94
  have hu27:=Tryd.underlying27
  have hu24:=Tryd.underlying24
  have hu30:=Tryd.underlying30
  have H:=Aside0.mk h
  obtain ⟨adt,et,ht⟩:=Kd.at_int h.t (i:Int) (by omega) (by omega)
  cases et
  rw [Int.toNat_natCast] at ht
  obtain ⟨ad,A1,c1,ep,_,hx1,hl1,hC1⟩:=at_T62 h.p (pn:Int) (by omega) (by omega)
  cases ep
  rw [Int.toNat_natCast] at hx1
  obtain ⟨ad2,ee2,hx2⟩:=Kd.at_int hC1 (j:Int) (by omega) (by have:j<(rd_T62 ps pn).f1.length:=hj;omega)
  cases ee2
  rw [Int.toNat_natCast] at hx2
  clear h hl1 hC1
  have u1:(0:Int)≤i:=by omega
  have u2:(i:Int)<ts.length:=by omega
  have u3:(0:Int)≤j:=by omega
  have u4:(j:Int)<(ptones ps pn).length:=by omega
  unfold bkv
  go_enter Tryd.func169,Tryd.ntmps169
  go_wp2_with fail
  have b1:=Aside0.mk (blk_alloc (blk_new w (Obj.cells #[.int .i64 g,.slice Af fs.length cf,.slice (some ad) ps.length cp,.int .i64 pn,.slice (some adt) ts.length ct,.slice Ag gs.length cg,.int .i64 lost,.int .i64 wrong] 94)) (Obj.cells #[.int .i64 i,.int .i64 j] 107))
  have b2:Aside0 (((w.alloc (Obj.cells #[.int .i64 g,.slice Af fs.length cf,.slice (some ad) ps.length cp,.int .i64 pn,.slice (some adt) ts.length ct,.slice Ag gs.length cg,.int .i64 lost,.int .i64 wrong] 94)).alloc (Obj.cells #[.int .i64 i,.int .i64 j] 107)).heap[w.heap.size+1]?=some (.cells #[.int .i64 i,.int .i64 j] 107 (0,0))):=⟨by have:=blk_new (w.alloc (Obj.cells #[.int .i64 g,.slice Af fs.length cf,.slice (some ad) ps.length cp,.int .i64 pn,.slice (some adt) ts.length ct,.slice Ag gs.length cg,.int .i64 lost,.int .i64 wrong] 94)) (Obj.cells #[.int .i64 i,.int .i64 j] 107);rwa [World.size_alloc] at this⟩
  have hB:=Aside0.mk ((below_alloc (Below.refl _ w) (Obj.cells #[.int .i64 g,.slice Af fs.length cf,.slice (some ad) ps.length cp,.int .i64 pn,.slice (some adt) ts.length ct,.slice Ag gs.length cg,.int .i64 lost,.int .i64 wrong] 94)).alloc (by simp) (Obj.cells #[.int .i64 i,.int .i64 j] 107))
  obtain ⟨w1,hw1⟩:∃ w1,((w.alloc (Obj.cells #[.int .i64 g,.slice Af fs.length cf,.slice (some ad) ps.length cp,.int .i64 pn,.slice (some adt) ts.length ct,.slice Ag gs.length cg,.int .i64 lost,.int .i64 wrong] 94)).alloc (Obj.cells #[.int .i64 i,.int .i64 j] 107))=w1:=⟨_,rfl⟩
  rw [hw1] at b1 b2 hB ⊢
  clear hw1
  replace hx1:=(hB.out.cell (World.block_lt_of_cell? w _ hx1)).trans hx1
  replace hx2:=(hB.out.cell (World.block_lt_of_cell? w _ hx2)).trans hx2
  replace ht:=(hB.out.cell (World.block_lt_of_cell? w _ ht)).trans ht
  have s0:=(blk_cell b1.out 0).trans rfl
  have s1:=(blk_cell b1.out 1).trans rfl
  have s2:=(blk_cell b1.out 2).trans rfl
  have s3:=(blk_cell b1.out 3).trans rfl
  have s4:=(blk_cell b1.out 4).trans rfl
  have s5:=(blk_cell b1.out 5).trans rfl
  have s6:=(blk_cell b1.out 6).trans rfl
  have s7:=(blk_cell b1.out 7).trans rfl
  have s8:=(blk_cell b2.out 0).trans rfl
  have s9:=(blk_cell b2.out 1).trans rfl
  obtain ⟨n0,hn0⟩:∃ n0,w.heap.size=n0:=⟨_,rfl⟩
  have HBW:Aside0 (Below n0 w w1):=⟨hn0 ▸ hB.out⟩
  rw [hn0] at s0 s1 s2 s3 s4 s5 s6 s7 s8 s9 b1 b2 hB ⊢
  have HN:=Aside0.mk hn0
  clear hn0 b1 b2
  have hwr:IntKind.i64.wrap (rd ts i - rd (ptones ps pn) j)=rd ts i - rd (ptones ps pn) j:=IntWalk.i64_in _ (by omega)
  go_region_held3 (fun w'=>w'.cell? ⟨n0,0,none⟩=some (.int .i64 g)∧w'.cell? ⟨n0,1,none⟩=some (.slice Af fs.length cf)∧w'.cell? ⟨n0,2,none⟩=some (.slice (some ad) ps.length cp)∧w'.cell? ⟨n0,3,none⟩=some (.int .i64 pn)∧w'.cell? ⟨n0,4,none⟩=some (.slice (some adt) ts.length ct)∧w'.cell? ⟨n0,5,none⟩=some (.slice Ag gs.length cg)∧w'.cell? ⟨n0,6,none⟩=some (.int .i64 lost)∧w'.cell? ⟨n0,7,none⟩=some (.int .i64 wrong)∧w'.cell? ⟨n0+1,0,none⟩=some (.int .i64 i)∧w'.cell? ⟨n0+1,1,none⟩=some (.int .i64 j)∧w'.cell? (adt.add i)=some (.int .i64 (rd ts i))∧w'.cell? (ad2.add j)=some (.int .i64 (rd (ptones ps pn) j))) (first|exact ⟨s0,s1,s2,s3,s4,s5,s6,s7,s8,s9,ht,hx2⟩|exact ⟨kc hb2 s0,kc hb2 s1,kc hb2 s2,kc hb2 s3,kc hb2 s4,kc hb2 s5,kc hb2 s6,kc hb2 s7,kc hb2 s8,kc hb2 s9,kc hb2 ht,kc hb2 hx2⟩|go_keep) (first|(go_at_call 69;refine (tones_at (g:=g) (cf:=cf) (cp:=cp) (ct:=ct) (cg:=cg) (lost:=lost) (wrong:=wrong) (At:=some adt) (ts:=ts) (Ag:=Ag) (gs:=gs) (Af:=Af) (fs:=fs) (ps:=ps) (pn:=pn) hp ad (some ad2) c1 w1.drew hx1).mono ?_;rintro e w2 ⟨rfl,hb2⟩))
  clear hwr
  have HBW2:Aside0 (Below n0 w w2):=⟨(below_drew1 HBW.out).trans (hb2.mono (by have:=HBW.out.size;have:=HN.out;show n0≤w1.heap.size;omega))⟩
  clear hb2 hbt hbp s0 s1 s2 s3 s4 s5 s6 s7 s8 s9 ht hx2 hx1
  cases hd:(rd ts i - rd (ptones ps pn) j == 1) with
  | true =>
    have HD:=Aside0.mk hd
    go_wp2_with fail
    go_ret
    exact ⟨ret_bool (by rw [HD.out];rfl),by rw [HN.out];exact HBW2.out⟩
  | false =>
    have HD:=Aside0.mk hd
    go_wp2_with fail
    go_ret
    exact ⟨ret_bool (by rw [HD.out];rfl),by rw [HN.out];exact HBW2.out⟩
end
end Go.Proofs.YthnilelmhpmanaaDoor.PHeardFits
end
section
namespace Go.Proofs.YthnilelmhpmanaaDoor.PHeardFits
open Go.RowKit Go.Proofs.YthnilelmhpmanaaDoorW.PrintWords Go.Proofs.YthnilelmhpmanaaDoorW.PrintLast Go.Proofs.YthnilelmhpmanaaDoorW.PrintMore
open Go.Proofs.YthnilelmhpmanaaDoor.Hm
set_option linter.unusedVariables false
set_option linter.unusedSimpArgs false
section
variable {g:Int} {Af:Option Addr} {cf:Nat} {fs:List S85} {Ap:Option Addr} {cp:Nat} {ps:List S62} {pn:Nat} {At:Option Addr} {ct:Nat} {ts:List Int} {Ag:Option Addr} {cg:Nat} {gs:List Int} {lost wrong:Int}
set_option maxRecDepth 100000 in
set_option maxHeartbeats 1000000 in
theorem gong_any (k:Nat) (s:Int) (l:List Int) (r2:Int) (hp:pn<ps.length) (hl:l.length≤100) (w:World) (h:BkC Af fs Ap ps At ts Ag gs w) (hcf:fs.length≤cf) (hk:cycle_Struck.f k g fs (rd_T62 ps pn).f0 s=some (l,r2)) :
    Calls Tryd.prog 137 #[bkv g Af cf fs Ap cp ps pn At ct ts Ag cg gs lost wrong,.int .i64 s] w fun e w'=>e=.returned (.bool (hasI 0 l))∧Below w.heap.size w w':=by
  have hu94:=Tryd.underlying94
  have hu27:=Tryd.underlying27
  have hu24:=Tryd.underlying24
  have hu30:=Tryd.underlying30
  have H:=Aside0.mk h
  have HK:=Aside0.mk hk
  obtain ⟨ad,A1,c1,ep,hx0,_,_,_⟩:=at_T62 h.p (pn:Int) (by omega) (by omega)
  cases ep
  rw [Int.toNat_natCast] at hx0
  clear h hk
  unfold bkv
  go_enter Tryd.func137,Tryd.ntmps137
  go_wp2_with fail
  have b1:=Aside0.mk (blk_new w (Obj.cells #[.int .i64 g,.slice Af fs.length cf,.slice (some ad) ps.length cp,.int .i64 pn,.slice At ts.length ct,.slice Ag gs.length cg,.int .i64 lost,.int .i64 wrong] 94))
  have hB:=Aside0.mk (below_alloc (Below.refl _ w) (Obj.cells #[.int .i64 g,.slice Af fs.length cf,.slice (some ad) ps.length cp,.int .i64 pn,.slice At ts.length ct,.slice Ag gs.length cg,.int .i64 lost,.int .i64 wrong] 94))
  obtain ⟨w1,hw1⟩:∃ w1,w.alloc (Obj.cells #[.int .i64 g,.slice Af fs.length cf,.slice (some ad) ps.length cp,.int .i64 pn,.slice At ts.length ct,.slice Ag gs.length cg,.int .i64 lost,.int .i64 wrong] 94)=w1:=⟨_,rfl⟩
  rw [hw1] at b1 hB ⊢
  clear hw1
  replace hx0:=(hB.out.cell (World.block_lt_of_cell? w _ hx0)).trans hx0
  have s0:=(blk_cell b1.out 0).trans rfl
  have s1:=(blk_cell b1.out 1).trans rfl
  have s2:=(blk_cell b1.out 2).trans rfl
  have s3:=(blk_cell b1.out 3).trans rfl
  have s4:=(blk_cell b1.out 4).trans rfl
  have s5:=(blk_cell b1.out 5).trans rfl
  have s6:=(blk_cell b1.out 6).trans rfl
  have s7:=(blk_cell b1.out 7).trans rfl
  obtain ⟨n0,hn0⟩:∃ n0,w.heap.size=n0:=⟨_,rfl⟩
  have HBW:Aside0 (Below n0 w w1):=⟨hn0 ▸ hB.out⟩
  rw [hn0] at s0 s1 s2 s3 s4 s5 s6 s7 b1 hB ⊢
  have HN:=Aside0.mk hn0
  clear hn0 b1
  go_region_held3 (fun w'=>w'.cell? ⟨n0,0,none⟩=some (.int .i64 g)∧w'.cell? ⟨n0,1,none⟩=some (.slice Af fs.length cf)∧w'.cell? ⟨n0,2,none⟩=some (.slice (some ad) ps.length cp)∧w'.cell? ⟨n0,3,none⟩=some (.int .i64 pn)∧w'.cell? ⟨n0,4,none⟩=some (.slice At ts.length ct)∧w'.cell? ⟨n0,5,none⟩=some (.slice Ag gs.length cg)∧w'.cell? ⟨n0,6,none⟩=some (.int .i64 lost)∧w'.cell? ⟨n0,7,none⟩=some (.int .i64 wrong)∧w'.cell? (ad.add (pn * 2))=some (.int .i64 (rd_T62 ps pn).f0)) (first|exact ⟨s0,s1,s2,s3,s4,s5,s6,s7,hx0⟩|exact ⟨kc hb2 s0,kc hb2 s1,kc hb2 s2,kc hb2 s3,kc hb2 s4,kc hb2 s5,kc hb2 s6,kc hb2 s7,kc hb2 hx0⟩|go_keep) (first|(go_at_call 44;refine (cycle_Struck.calls k g Af cf fs (rd_T62 ps pn).f0 s l r2 w1.drew (Kd.C_below H.out.f (below_at hB.out HN.out)) hcf HK.out).mono ?_;rintro e w2 ⟨v2,rfl,⟨A2,c2,rfl,hl2,hF2⟩,hb2⟩))
  have HC:=Aside0.mk (Kd.F_now hF2)
  have HBW2:Aside0 (Below n0 w w2):=⟨(below_drew1 HBW.out).trans (hb2.mono (by have:=HBW.out.size;have:=HN.out;show n0≤w1.heap.size;omega))⟩
  clear hF2 hb2 s0 s1 s2 s3 s4 s5 s6 s7 hx0
  go_wp2_with (first|(go_at_call 136;refine (containsI_any _ _ _ _ _ HC.out (by omega)).mono ?_;rintro e w' ⟨rfl,⟨nd,rfl⟩⟩))
  go_ret
  exact ⟨rfl,by rw [HN.out];exact pw_below_drewN HBW2.out _⟩
end
end Go.Proofs.YthnilelmhpmanaaDoor.PHeardFits
end
section
namespace Go.Proofs.YthnilelmhpmanaaDoor.PHeardFits
open Go.RowKit Go.Proofs.YthnilelmhpmanaaDoorW.PrintWords Go.Proofs.YthnilelmhpmanaaDoorW.PrintLast Go.Proofs.YthnilelmhpmanaaDoorW.PrintMore
open Go.Proofs.YthnilelmhpmanaaDoor.Hm
set_option linter.unusedVariables false
set_option linter.unusedSimpArgs false
/-- What the package variable offs holds. -/
structure GlobIs (w:World):Prop where
  c0:w.cell? ⟨1,0,none⟩=some (.func (.func 168) #[] #[])
  c1:w.cell? ⟨1,1,none⟩=some (.func (.func 169) #[] #[])
theorem GlobIs.below {w w':World} (h:GlobIs w) (hb:Below w.heap.size w w'):GlobIs w':=⟨kc hb h.c0,kc hb h.c1⟩
/-- For how many wrong notes a note counts. -/
def offV (c0 gg:Bool) (x y:Int):Int:=if (c0 && !gg)=true then 1000 else if (x == y)=true then 0 else if ((x - y == 1) || (x - y == -1))=true then 1 else 1000
theorem index189_0 (w:World):(Instr.index 189 (.agg #[.func (.func 168) #[] #[],.func (.func 169) #[] #[]]) (.int .i64 0)).run Tryd.prog w=.ok (.func (.func 168) #[] #[]) w:=by kernel_rfl
theorem index189_1 (w:World):(Instr.index 189 (.agg #[.func (.func 168) #[] #[],.func (.func 169) #[] #[]]) (.int .i64 1)).run Tryd.prog w=.ok (.func (.func 169) #[] #[]) w:=by kernel_rfl
section
variable {g:Int} {Af:Option Addr} {cf:Nat} {fs:List S85} {Ap:Option Addr} {cp:Nat} {ps:List S62} {pn:Nat} {At:Option Addr} {ct:Nat} {ts:List Int} {Ag:Option Addr} {cg:Nat} {gs:List Int} {lost wrong:Int}
set_option maxRecDepth 100000 in
set_option maxHeartbeats 2000000 in
theorem off_gone (k:Nat) (l:List Int) (r2:Int) (hp:pn<ps.length) (i j:Nat) (hi:i<ts.length) (hj:j<(ptones ps pn).length) (hbt : -1000≤rd ts i∧rd ts i≤1000) (hbp : -1000≤rd (ptones ps pn) j∧rd (ptones ps pn) j≤1000) (hgl:gs.length≤1000) (hl:l.length≤100) (w:World) (h:BkC Af fs Ap ps At ts Ag gs w) (hG:GlobIs w) (hcf:fs.length≤cf) (hk:cycle_Struck.f k g fs (rd_T62 ps pn).f0 (j:Int)=some (l,r2)) (hc:hasI i gs=true) (hg:hasI 0 l=false) :
    Calls Tryd.prog 129 #[bkv g Af cf fs Ap cp ps pn At ct ts Ag cg gs lost wrong,.agg #[.int .i64 i,.int .i64 j]] w fun e w'=>e=.returned (.int .i64 (offV (hasI i gs) (hasI 0 l) (rd ts i) (rd (ptones ps pn) j)))∧Below w.heap.size w w':=by
  have hu94:=Tryd.underlying94
  have hu27:=Tryd.underlying27
  have hu24:=Tryd.underlying24
  have hu30:=Tryd.underlying30
  have H:=Aside0.mk h
  have HK:=Aside0.mk hk
  have HGl:=Aside0.mk hG
  clear h hk hG
  unfold bkv
  go_enter Tryd.func129,Tryd.ntmps129
  go_upto_region 1 with (fail)
  have b1:=Aside0.mk (blk_alloc (blk_new w (Obj.cells #[.int .i64 g,.slice Af fs.length cf,.slice Ap ps.length cp,.int .i64 pn,.slice At ts.length ct,.slice Ag gs.length cg,.int .i64 lost,.int .i64 wrong] 94)) (Obj.cells #[.int .i64 i,.int .i64 j] 107))
  have b2:Aside0 (((w.alloc (Obj.cells #[.int .i64 g,.slice Af fs.length cf,.slice Ap ps.length cp,.int .i64 pn,.slice At ts.length ct,.slice Ag gs.length cg,.int .i64 lost,.int .i64 wrong] 94)).alloc (Obj.cells #[.int .i64 i,.int .i64 j] 107)).heap[w.heap.size+1]?=some (.cells #[.int .i64 i,.int .i64 j] 107 (0,0))):=⟨by have:=blk_new (w.alloc (Obj.cells #[.int .i64 g,.slice Af fs.length cf,.slice Ap ps.length cp,.int .i64 pn,.slice At ts.length ct,.slice Ag gs.length cg,.int .i64 lost,.int .i64 wrong] 94)) (Obj.cells #[.int .i64 i,.int .i64 j] 107);rwa [World.size_alloc] at this⟩
  have hB:=Aside0.mk ((below_alloc (Below.refl _ w) (Obj.cells #[.int .i64 g,.slice Af fs.length cf,.slice Ap ps.length cp,.int .i64 pn,.slice At ts.length ct,.slice Ag gs.length cg,.int .i64 lost,.int .i64 wrong] 94)).alloc (by simp) (Obj.cells #[.int .i64 i,.int .i64 j] 107))
  obtain ⟨w1,hw1⟩:∃ w1,((w.alloc (Obj.cells #[.int .i64 g,.slice Af fs.length cf,.slice Ap ps.length cp,.int .i64 pn,.slice At ts.length ct,.slice Ag gs.length cg,.int .i64 lost,.int .i64 wrong] 94)).alloc (Obj.cells #[.int .i64 i,.int .i64 j] 107))=w1:=⟨_,rfl⟩
  rw [hw1] at b1 b2 hB ⊢
  clear hw1
  have s0:=(blk_cell b1.out 0).trans rfl
  have s1:=(blk_cell b1.out 1).trans rfl
  have s2:=(blk_cell b1.out 2).trans rfl
  have s3:=(blk_cell b1.out 3).trans rfl
  have s4:=(blk_cell b1.out 4).trans rfl
  have s5:=(blk_cell b1.out 5).trans rfl
  have s6:=(blk_cell b1.out 6).trans rfl
  have s7:=(blk_cell b1.out 7).trans rfl
  have s8:=(blk_cell b2.out 0).trans rfl
  have s9:=(blk_cell b2.out 1).trans rfl
  go_wp2_with fail
  refine (containsI_any _ _ _ _ w1 (H.out.below hB.out).g (by omega)).mono ?_
  rintro e w2 ⟨rfl,⟨nd,rfl⟩⟩
  have HC:=Aside0.mk hc
  have HG:=Aside0.mk hg
  go_wp2_with fail
  refine (gong_any k j l r2 hp hl (w1.drewN nd) (H.out.below (pw_below_drewN hB.out nd)) hcf HK.out).mono ?_
  rintro e w3 ⟨rfl,hb3⟩
  have HB3:=Aside0.mk ((pw_below_drewN hB.out nd).trans (hb3.mono hB.out.size))
  clear hb3
  go_wp2_with fail
  go_ret
  exact ⟨ret_i64 (by unfold offV;rw [HC.out,HG.out];rfl),HB3.out⟩
set_option maxRecDepth 100000 in
set_option maxHeartbeats 2000000 in
theorem off_no (k:Nat) (l:List Int) (r2:Int) (hp:pn<ps.length) (i j:Nat) (hi:i<ts.length) (hj:j<(ptones ps pn).length) (hbt : -1000≤rd ts i∧rd ts i≤1000) (hbp : -1000≤rd (ptones ps pn) j∧rd (ptones ps pn) j≤1000) (hgl:gs.length≤1000) (hl:l.length≤100) (w:World) (h:BkC Af fs Ap ps At ts Ag gs w) (hG:GlobIs w) (hcf:fs.length≤cf) (hk:cycle_Struck.f k g fs (rd_T62 ps pn).f0 (j:Int)=some (l,r2)) (hc:hasI i gs=false) :
    Calls Tryd.prog 129 #[bkv g Af cf fs Ap cp ps pn At ct ts Ag cg gs lost wrong,.agg #[.int .i64 i,.int .i64 j]] w fun e w'=>e=.returned (.int .i64 (offV (hasI i gs) (hasI 0 l) (rd ts i) (rd (ptones ps pn) j)))∧Below w.heap.size w w':=by
  have hu94:=Tryd.underlying94
  have hu27:=Tryd.underlying27
  have hu24:=Tryd.underlying24
  have hu30:=Tryd.underlying30
  have H:=Aside0.mk h
  have HK:=Aside0.mk hk
  have HGl:=Aside0.mk hG
  clear h hk hG
  unfold bkv
  go_enter Tryd.func129,Tryd.ntmps129
  go_upto_region 1 with (fail)
  have b1:=Aside0.mk (blk_alloc (blk_new w (Obj.cells #[.int .i64 g,.slice Af fs.length cf,.slice Ap ps.length cp,.int .i64 pn,.slice At ts.length ct,.slice Ag gs.length cg,.int .i64 lost,.int .i64 wrong] 94)) (Obj.cells #[.int .i64 i,.int .i64 j] 107))
  have b2:Aside0 (((w.alloc (Obj.cells #[.int .i64 g,.slice Af fs.length cf,.slice Ap ps.length cp,.int .i64 pn,.slice At ts.length ct,.slice Ag gs.length cg,.int .i64 lost,.int .i64 wrong] 94)).alloc (Obj.cells #[.int .i64 i,.int .i64 j] 107)).heap[w.heap.size+1]?=some (.cells #[.int .i64 i,.int .i64 j] 107 (0,0))):=⟨by have:=blk_new (w.alloc (Obj.cells #[.int .i64 g,.slice Af fs.length cf,.slice Ap ps.length cp,.int .i64 pn,.slice At ts.length ct,.slice Ag gs.length cg,.int .i64 lost,.int .i64 wrong] 94)) (Obj.cells #[.int .i64 i,.int .i64 j] 107);rwa [World.size_alloc] at this⟩
  have hB:=Aside0.mk ((below_alloc (Below.refl _ w) (Obj.cells #[.int .i64 g,.slice Af fs.length cf,.slice Ap ps.length cp,.int .i64 pn,.slice At ts.length ct,.slice Ag gs.length cg,.int .i64 lost,.int .i64 wrong] 94)).alloc (by simp) (Obj.cells #[.int .i64 i,.int .i64 j] 107))
  obtain ⟨w1,hw1⟩:∃ w1,((w.alloc (Obj.cells #[.int .i64 g,.slice Af fs.length cf,.slice Ap ps.length cp,.int .i64 pn,.slice At ts.length ct,.slice Ag gs.length cg,.int .i64 lost,.int .i64 wrong] 94)).alloc (Obj.cells #[.int .i64 i,.int .i64 j] 107))=w1:=⟨_,rfl⟩
  rw [hw1] at b1 b2 hB ⊢
  clear hw1
  have s0:=(blk_cell b1.out 0).trans rfl
  have s1:=(blk_cell b1.out 1).trans rfl
  have s2:=(blk_cell b1.out 2).trans rfl
  have s3:=(blk_cell b1.out 3).trans rfl
  have s4:=(blk_cell b1.out 4).trans rfl
  have s5:=(blk_cell b1.out 5).trans rfl
  have s6:=(blk_cell b1.out 6).trans rfl
  have s7:=(blk_cell b1.out 7).trans rfl
  have s8:=(blk_cell b2.out 0).trans rfl
  have s9:=(blk_cell b2.out 1).trans rfl
  go_wp2_with fail
  refine (containsI_any _ _ _ _ w1 (H.out.below hB.out).g (by omega)).mono ?_
  rintro e w2 ⟨rfl,⟨nd,rfl⟩⟩
  have HNo:Aside0 ((hasI i gs && !(hasI 0 l))=false):=⟨by rw [hc];rfl⟩
  have hW:Below w.heap.size w (w1.drewN nd):=pw_below_drewN hB.out nd
  have hGL0:GlobIs (w1.drewN nd):=HGl.out.below hW
  obtain ⟨wL,hwL⟩:∃ wL,w1.drewN nd=wL:=⟨_,rfl⟩
  replace s0:(w1.drewN nd).cell? _=_:=s0
  replace s1:(w1.drewN nd).cell? _=_:=s1
  replace s2:(w1.drewN nd).cell? _=_:=s2
  replace s3:(w1.drewN nd).cell? _=_:=s3
  replace s4:(w1.drewN nd).cell? _=_:=s4
  replace s5:(w1.drewN nd).cell? _=_:=s5
  replace s6:(w1.drewN nd).cell? _=_:=s6
  replace s7:(w1.drewN nd).cell? _=_:=s7
  replace s8:(w1.drewN nd).cell? _=_:=s8
  replace s9:(w1.drewN nd).cell? _=_:=s9
  rw [hwL] at hW hGL0 s0 s1 s2 s3 s4 s5 s6 s7 s8 s9 ⊢
  clear hwL b1 b2 hB
  have hGL:=hGL0
  have g0:=hGL.c0
  have g1:=hGL.c1
  have HW:=Aside0.mk hW
  clear hW hGL0 hGL
  have hi0:=index189_0
  have hi1:=index189_1
  go_wp2_with fail
  go_loopg [21] 2 (fun gk v21 w'=>∃ q:Int,v21=.int .i64 q∧Aside0 (gk+q=2)∧Aside0 (q=0∨q=1∧(rd ts i == rd (ptones ps pn) j)=false∨q=2∧(rd ts i == rd (ptones ps pn) j)=false∧((rd ts i - rd (ptones ps pn) j == 1) || (rd ts i - rd (ptones ps pn) j == -1))=false)∧Aside0 (Below wL.heap.size wL w'))
  case atStart=>exact ⟨0,rfl,⟨rfl⟩,⟨.inl rfl⟩,⟨Below.refl _ _⟩⟩
  case round =>
    obtain ⟨q,rfl,HQ,HD,HBL⟩:=hrel
    have hq:=HQ.out
    replace s0:=kc HBL.out s0
    replace s1:=kc HBL.out s1
    replace s2:=kc HBL.out s2
    replace s3:=kc HBL.out s3
    replace s4:=kc HBL.out s4
    replace s5:=kc HBL.out s5
    replace s6:=kc HBL.out s6
    replace s7:=kc HBL.out s7
    replace s8:=kc HBL.out s8
    replace s9:=kc HBL.out s9
    have hBB:=Aside0.mk (HW.out.trans (HBL.out.mono HW.out.size))
    rcases HD.out with rfl | ⟨rfl,hr⟩ | ⟨rfl,hr,hwq⟩
    · go_wp2_with fail
      refine (isRight_any hp i j hi hj hbt hbp _ (H.out.below hBB.out)).mono ?_
      rintro e w5 ⟨rfl,hb5⟩
      cases hr:(rd ts i == rd (ptones ps pn) j) with
      | true =>
        have HR:=Aside0.mk hr
        have HB5:=Aside0.mk (hBB.out.trans (hb5.mono hBB.out.size))
        clear hb5
        go_wp2_with fail
        go_ret
        exact ⟨ret_i64 (by unfold offV;first|(rw [HNo.out,HR.out];rfl)|(rw [HR.out];rfl)),HB5.out⟩
      | false =>
        have HR:=Aside0.mk hr
        have HB5:=Aside0.mk (HBL.out.trans (hb5.mono HBL.out.size))
        clear hb5
        go_wp2_with fail
        go_roundg (gk - 1)
        case measure=>omega
        case rel=>exact ⟨1,rfl,⟨by omega⟩,⟨.inr (.inl ⟨rfl,HR.out⟩)⟩,HB5⟩
    · have HR:=Aside0.mk hr
      clear hr
      go_wp2_with fail
      refine (isWrong_any hp i j hi hj hbt hbp _ (H.out.below hBB.out)).mono ?_
      rintro e w5 ⟨rfl,hb5⟩
      cases hwq:((rd ts i - rd (ptones ps pn) j == 1) || (rd ts i - rd (ptones ps pn) j == -1)) with
      | true =>
        have HR2:=Aside0.mk hwq
        have HB5:=Aside0.mk (hBB.out.trans (hb5.mono hBB.out.size))
        clear hb5 hwq
        go_wp2_with fail
        go_ret
        exact ⟨ret_i64 (by unfold offV;first|(rw [HNo.out,HR.out,HR2.out];rfl)|(rw [HR.out,HR2.out];rfl)),HB5.out⟩
      | false =>
        have HR2:=Aside0.mk hwq
        have HB5:=Aside0.mk (HBL.out.trans (hb5.mono HBL.out.size))
        clear hb5 hwq
        go_wp2_with fail
        go_roundg (gk - 1)
        case measure=>omega
        case rel=>exact ⟨2,rfl,⟨by omega⟩,⟨.inr (.inr ⟨rfl,HR.out,HR2.out⟩)⟩,HB5⟩
    · have HR:=Aside0.mk hr
      have HR2:=Aside0.mk hwq
      clear hr hwq
      go_wp2_with fail
      go_ret
      exact ⟨ret_i64 (by unfold offV;first|(rw [HNo.out,HR.out,HR2.out];rfl)|(rw [HR.out,HR2.out];rfl)),hBB.out⟩
set_option maxRecDepth 100000 in
set_option maxHeartbeats 2000000 in
theorem off_yes (k:Nat) (l:List Int) (r2:Int) (hp:pn<ps.length) (i j:Nat) (hi:i<ts.length) (hj:j<(ptones ps pn).length) (hbt : -1000≤rd ts i∧rd ts i≤1000) (hbp : -1000≤rd (ptones ps pn) j∧rd (ptones ps pn) j≤1000) (hgl:gs.length≤1000) (hl:l.length≤100) (w:World) (h:BkC Af fs Ap ps At ts Ag gs w) (hG:GlobIs w) (hcf:fs.length≤cf) (hk:cycle_Struck.f k g fs (rd_T62 ps pn).f0 (j:Int)=some (l,r2)) (hc:hasI i gs=true) (hg:hasI 0 l=true) :
    Calls Tryd.prog 129 #[bkv g Af cf fs Ap cp ps pn At ct ts Ag cg gs lost wrong,.agg #[.int .i64 i,.int .i64 j]] w fun e w'=>e=.returned (.int .i64 (offV (hasI i gs) (hasI 0 l) (rd ts i) (rd (ptones ps pn) j)))∧Below w.heap.size w w':=by
  have hu94:=Tryd.underlying94
  have hu27:=Tryd.underlying27
  have hu24:=Tryd.underlying24
  have hu30:=Tryd.underlying30
  have H:=Aside0.mk h
  have HK:=Aside0.mk hk
  have HGl:=Aside0.mk hG
  clear h hk hG
  unfold bkv
  go_enter Tryd.func129,Tryd.ntmps129
  go_upto_region 1 with (fail)
  have b1:=Aside0.mk (blk_alloc (blk_new w (Obj.cells #[.int .i64 g,.slice Af fs.length cf,.slice Ap ps.length cp,.int .i64 pn,.slice At ts.length ct,.slice Ag gs.length cg,.int .i64 lost,.int .i64 wrong] 94)) (Obj.cells #[.int .i64 i,.int .i64 j] 107))
  have b2:Aside0 (((w.alloc (Obj.cells #[.int .i64 g,.slice Af fs.length cf,.slice Ap ps.length cp,.int .i64 pn,.slice At ts.length ct,.slice Ag gs.length cg,.int .i64 lost,.int .i64 wrong] 94)).alloc (Obj.cells #[.int .i64 i,.int .i64 j] 107)).heap[w.heap.size+1]?=some (.cells #[.int .i64 i,.int .i64 j] 107 (0,0))):=⟨by have:=blk_new (w.alloc (Obj.cells #[.int .i64 g,.slice Af fs.length cf,.slice Ap ps.length cp,.int .i64 pn,.slice At ts.length ct,.slice Ag gs.length cg,.int .i64 lost,.int .i64 wrong] 94)) (Obj.cells #[.int .i64 i,.int .i64 j] 107);rwa [World.size_alloc] at this⟩
  have hB:=Aside0.mk ((below_alloc (Below.refl _ w) (Obj.cells #[.int .i64 g,.slice Af fs.length cf,.slice Ap ps.length cp,.int .i64 pn,.slice At ts.length ct,.slice Ag gs.length cg,.int .i64 lost,.int .i64 wrong] 94)).alloc (by simp) (Obj.cells #[.int .i64 i,.int .i64 j] 107))
  obtain ⟨w1,hw1⟩:∃ w1,((w.alloc (Obj.cells #[.int .i64 g,.slice Af fs.length cf,.slice Ap ps.length cp,.int .i64 pn,.slice At ts.length ct,.slice Ag gs.length cg,.int .i64 lost,.int .i64 wrong] 94)).alloc (Obj.cells #[.int .i64 i,.int .i64 j] 107))=w1:=⟨_,rfl⟩
  rw [hw1] at b1 b2 hB ⊢
  clear hw1
  have s0:=(blk_cell b1.out 0).trans rfl
  have s1:=(blk_cell b1.out 1).trans rfl
  have s2:=(blk_cell b1.out 2).trans rfl
  have s3:=(blk_cell b1.out 3).trans rfl
  have s4:=(blk_cell b1.out 4).trans rfl
  have s5:=(blk_cell b1.out 5).trans rfl
  have s6:=(blk_cell b1.out 6).trans rfl
  have s7:=(blk_cell b1.out 7).trans rfl
  have s8:=(blk_cell b2.out 0).trans rfl
  have s9:=(blk_cell b2.out 1).trans rfl
  go_wp2_with fail
  refine (containsI_any _ _ _ _ w1 (H.out.below hB.out).g (by omega)).mono ?_
  rintro e w2 ⟨rfl,⟨nd,rfl⟩⟩
  have HNo:Aside0 ((hasI i gs && !(hasI 0 l))=false):=⟨by rw [hc,hg];rfl⟩
  go_wp2_with fail
  refine (gong_any k j l r2 hp hl (w1.drewN nd) (H.out.below (pw_below_drewN hB.out nd)) hcf HK.out).mono ?_
  rintro e wL ⟨rfl,hb3⟩
  have hW:Below w.heap.size w wL:=(pw_below_drewN hB.out nd).trans (hb3.mono hB.out.size)
  have hGL0:GlobIs wL:=HGl.out.below hW
  replace s0:=kc (w:=w1.drewN nd) hb3 s0
  replace s1:=kc (w:=w1.drewN nd) hb3 s1
  replace s2:=kc (w:=w1.drewN nd) hb3 s2
  replace s3:=kc (w:=w1.drewN nd) hb3 s3
  replace s4:=kc (w:=w1.drewN nd) hb3 s4
  replace s5:=kc (w:=w1.drewN nd) hb3 s5
  replace s6:=kc (w:=w1.drewN nd) hb3 s6
  replace s7:=kc (w:=w1.drewN nd) hb3 s7
  replace s8:=kc (w:=w1.drewN nd) hb3 s8
  replace s9:=kc (w:=w1.drewN nd) hb3 s9
  clear hb3 b1 b2 hB
  have hGL:=hGL0
  have g0:=hGL.c0
  have g1:=hGL.c1
  have HW:=Aside0.mk hW
  clear hW hGL0 hGL
  have hi0:=index189_0
  have hi1:=index189_1
  go_wp2_with fail
  go_loopg [21] 2 (fun gk v21 w'=>∃ q:Int,v21=.int .i64 q∧Aside0 (gk+q=2)∧Aside0 (q=0∨q=1∧(rd ts i == rd (ptones ps pn) j)=false∨q=2∧(rd ts i == rd (ptones ps pn) j)=false∧((rd ts i - rd (ptones ps pn) j == 1) || (rd ts i - rd (ptones ps pn) j == -1))=false)∧Aside0 (Below wL.heap.size wL w'))
  case atStart=>exact ⟨0,rfl,⟨rfl⟩,⟨.inl rfl⟩,⟨Below.refl _ _⟩⟩
  case round =>
    obtain ⟨q,rfl,HQ,HD,HBL⟩:=hrel
    have hq:=HQ.out
    replace s0:=kc HBL.out s0
    replace s1:=kc HBL.out s1
    replace s2:=kc HBL.out s2
    replace s3:=kc HBL.out s3
    replace s4:=kc HBL.out s4
    replace s5:=kc HBL.out s5
    replace s6:=kc HBL.out s6
    replace s7:=kc HBL.out s7
    replace s8:=kc HBL.out s8
    replace s9:=kc HBL.out s9
    have hBB:=Aside0.mk (HW.out.trans (HBL.out.mono HW.out.size))
    rcases HD.out with rfl | ⟨rfl,hr⟩ | ⟨rfl,hr,hwq⟩
    · go_wp2_with fail
      refine (isRight_any hp i j hi hj hbt hbp _ (H.out.below hBB.out)).mono ?_
      rintro e w5 ⟨rfl,hb5⟩
      cases hr:(rd ts i == rd (ptones ps pn) j) with
      | true =>
        have HR:=Aside0.mk hr
        have HB5:=Aside0.mk (hBB.out.trans (hb5.mono hBB.out.size))
        clear hb5
        go_wp2_with fail
        go_ret
        exact ⟨ret_i64 (by unfold offV;first|(rw [HNo.out,HR.out];rfl)|(rw [HR.out];rfl)),HB5.out⟩
      | false =>
        have HR:=Aside0.mk hr
        have HB5:=Aside0.mk (HBL.out.trans (hb5.mono HBL.out.size))
        clear hb5
        go_wp2_with fail
        go_roundg (gk - 1)
        case measure=>omega
        case rel=>exact ⟨1,rfl,⟨by omega⟩,⟨.inr (.inl ⟨rfl,HR.out⟩)⟩,HB5⟩
    · have HR:=Aside0.mk hr
      clear hr
      go_wp2_with fail
      refine (isWrong_any hp i j hi hj hbt hbp _ (H.out.below hBB.out)).mono ?_
      rintro e w5 ⟨rfl,hb5⟩
      cases hwq:((rd ts i - rd (ptones ps pn) j == 1) || (rd ts i - rd (ptones ps pn) j == -1)) with
      | true =>
        have HR2:=Aside0.mk hwq
        have HB5:=Aside0.mk (hBB.out.trans (hb5.mono hBB.out.size))
        clear hb5 hwq
        go_wp2_with fail
        go_ret
        exact ⟨ret_i64 (by unfold offV;first|(rw [HNo.out,HR.out,HR2.out];rfl)|(rw [HR.out,HR2.out];rfl)),HB5.out⟩
      | false =>
        have HR2:=Aside0.mk hwq
        have HB5:=Aside0.mk (HBL.out.trans (hb5.mono HBL.out.size))
        clear hb5 hwq
        go_wp2_with fail
        go_roundg (gk - 1)
        case measure=>omega
        case rel=>exact ⟨2,rfl,⟨by omega⟩,⟨.inr (.inr ⟨rfl,HR.out,HR2.out⟩)⟩,HB5⟩
    · have HR:=Aside0.mk hr
      have HR2:=Aside0.mk hwq
      clear hr hwq
      go_wp2_with fail
      go_ret
      exact ⟨ret_i64 (by unfold offV;first|(rw [HNo.out,HR.out,HR2.out];rfl)|(rw [HR.out,HR2.out];rfl)),hBB.out⟩
theorem off_any (k:Nat) (l:List Int) (r2:Int) (hp:pn<ps.length) (i j:Nat) (hi:i<ts.length) (hj:j<(ptones ps pn).length) (hbt : -1000≤rd ts i∧rd ts i≤1000) (hbp : -1000≤rd (ptones ps pn) j∧rd (ptones ps pn) j≤1000) (hgl:gs.length≤1000) (hl:l.length≤100) (w:World) (h:BkC Af fs Ap ps At ts Ag gs w) (hG:GlobIs w) (hcf:fs.length≤cf) (hk:cycle_Struck.f k g fs (rd_T62 ps pn).f0 (j:Int)=some (l,r2)) :
    Calls Tryd.prog 129 #[bkv g Af cf fs Ap cp ps pn At ct ts Ag cg gs lost wrong,.agg #[.int .i64 i,.int .i64 j]] w fun e w'=>e=.returned (.int .i64 (offV (hasI i gs) (hasI 0 l) (rd ts i) (rd (ptones ps pn) j)))∧Below w.heap.size w w':=by
  cases hc:hasI i gs with
  | false=>rw [← hc];exact off_no k l r2 hp i j hi hj hbt hbp hgl hl w h hG hcf hk hc
  | true =>
    rw [← hc]
    cases hg:hasI 0 l with
    | false=>rw [← hg];exact off_gone k l r2 hp i j hi hj hbt hbp hgl hl w h hG hcf hk hc hg
    | true=>rw [← hg];exact off_yes k l r2 hp i j hi hj hbt hbp hgl hl w h hG hcf hk hc hg
end
end Go.Proofs.YthnilelmhpmanaaDoor.PHeardFits
end
section
namespace Go.Proofs.YthnilelmhpmanaaDoor.PHeardFits
open Go.RowKit Go.Proofs.YthnilelmhpmanaaDoorW.PrintWords Go.Proofs.YthnilelmhpmanaaDoorW.PrintLast Go.Proofs.YthnilelmhpmanaaDoorW.PrintMore
open Go.Proofs.YthnilelmhpmanaaDoor.Hm
set_option linter.unusedVariables false
set_option linter.unusedSimpArgs false
/-- Is a note valid? -/
def noteB (k:Nat) (n:S30):Option Bool:=heard_isNote.f k n.f0 n.f1 n.f2 n.f3
/-- Are all notes valid, up to the first that is not? -/
def allNotes (k:Nat):List S30→Option Bool
  | []=>some true
  | n :: r=>(noteB k n).bind fun b=>if b=true then allNotes k r else some false
theorem note_not (k:Nat) (A0:Option Addr) (c0:Nat) (l0:List Int) (A1:Option Addr) (c1:Nat) (l1:List Int) (a2 a3:Int) (b:Bool) (w:World) (hr0:Kd.C (Kd.int .i64) w A0 l0.length l0) (hc0:l0.length≤c0) (hr1:Kd.C (Kd.int .i64) w A1 l1.length l1) (hc1:l1.length≤c1) (h:heard_isNote.f k l0 l1 a2 a3=some b) :
    Calls Tryd.prog 76 #[.agg #[.slice A0 l0.length c0,.slice A1 l1.length c1,.int .i64 a2,.int .i64 a3]] w fun e w'=>e=.returned (.bool (!b))∧Below w.heap.size w w':=by
  have hu30:=Tryd.underlying30
  have HR0:=Aside0.mk hr0
  have HR1:=Aside0.mk hr1
  have HC0:=Aside0.mk hc0
  have HC1:=Aside0.mk hc1
  have HH:=Aside0.mk h
  clear hr0 hr1 hc0 hc1 h
  go_enter Tryd.func76,Tryd.ntmps76
  go_wp2_with (first|(go_at_call 77;refine (heard_isNote.calls k _ _ _ _ _ _ _ _ _ _ (Kd.C_alloc HR0.out _) HC0.out (Kd.C_alloc HR1.out _) HC1.out HH.out).mono ?_;rintro e w2 ⟨rfl,hb2⟩;have HB2:=Aside0.mk ((below_alloc (Below.refl _ w) (Obj.cells #[.slice A0 l0.length c0,.slice A1 l1.length c1,.int .i64 a2,.int .i64 a3] 30)).trans (hb2.mono (by simp)));clear hb2))
  go_ret
  exact ⟨rfl,HB2.out⟩
theorem allNotes_at {k:Nat} {l:List S30} {b:Bool} {i:Nat} (hi:i<l.length) (h:allNotes k (l.drop i)=some b):∃ x,heard_isNote.f k (rd_T30 l i).f0 (rd_T30 l i).f1 (rd_T30 l i).f2 (rd_T30 l i).f3=some x∧((x=true∧allNotes k (l.drop (i+1))=some b)∨(x=false∧b=false)):=by
  rw [List.drop_eq_getElem_cons hi] at h
  have e:rd_T30 l (i:Int)=l[i]:=by simp [rd_T30,List.getD_eq_getElem?_getD,List.getElem?_eq_getElem hi]
  rw [← e] at h
  unfold allNotes noteB at h
  obtain ⟨x,hx,h⟩:=Option.bind_eq_some_iff.1 h
  refine ⟨x,hx,?_⟩
  cases x with
  | true=>exact .inl ⟨rfl,by simpa using h⟩
  | false=>exact .inr ⟨rfl,by simpa using h.symm⟩
set_option maxRecDepth 100000 in
theorem index_notes (k:Nat) (A:Option Addr) (c:Nat) (l:List S30) (b:Bool) (w:World) (hr:Kd.C k30 w A l.length l) (hl:l.length≤1000) (h:allNotes k l=some b) :
    Calls Tryd.prog 110 #[.slice A l.length c,.func (.func 76) #[] #[]] w fun e w'=>(∃ v:Int,e=.returned (.int .i64 v)∧decide (0≤v)=!b)∧Below w.heap.size w w':=by
  have hu30:=Tryd.underlying30
  have HR:=Aside0.mk hr
  have HH:=Aside0.mk h
  clear hr h
  go_enter Tryd.func110,Tryd.ntmps110
  go_wp2_with fail
  go_loopg [8] l.length (fun gk v8 w'=>∃ i:Nat,v8=.int .i64 i∧Aside0 (gk+i=l.length)∧Aside0 (allNotes k (l.drop i)=some b)∧Aside0 (Below w.heap.size w w'))
  case atStart=>exact ⟨0,rfl,⟨rfl⟩,⟨by rw [List.drop_zero];exact HH.out⟩,⟨Below.refl _ _⟩⟩
  case round =>
    clear HH
    obtain ⟨i,rfl,HI,HA,HB⟩:=hrel
    have hi:=HI.out
    by_cases hlt:i<l.length
    · obtain ⟨ad,A0,c0,A1,c1,e1,x0,x1,x2,x3,l0,g0,l1,g1⟩:=at_T30 (Kd.C_below HR.out HB.out) (i:Int) (by omega) (by omega)
      cases e1
      rw [Int.toNat_natCast] at x0 x1 x2 x3
      obtain ⟨x,hx,hx2⟩:=allNotes_at hlt HA.out
      have HX:=Aside0.mk hx
      have HX2:=Aside0.mk hx2
      have L0:=Aside0.mk l0
      have L1:=Aside0.mk l1
      have G0:=Aside0.mk g0
      have G1:=Aside0.mk g1
      clear hx hx2 l0 l1 g0 g1
      cases x with
      | true =>
        go_wp2_with (first|(go_at_call 76;refine (note_not k _ _ _ _ _ _ _ _ _ _ G0.out L0.out G1.out L1.out HX.out).mono ?_;rintro e w2 ⟨rfl,hb2⟩;have HB2:=Aside0.mk (HB.out.trans (hb2.mono HB.out.size));clear hb2))
        go_roundg (gk - 1)
        case measure=>omega
        case rel=>exact ⟨i+1,by go_num,⟨by omega⟩,⟨HX2.out.elim (fun h=>h.2) (fun h=>absurd h.1 (by simp))⟩,HB2⟩
      | false =>
        go_wp2_with (first|(go_at_call 76;refine (note_not k _ _ _ _ _ _ _ _ _ _ G0.out L0.out G1.out L1.out HX.out).mono ?_;rintro e w2 ⟨rfl,hb2⟩;have HB2:=Aside0.mk (HB.out.trans (hb2.mono HB.out.size));clear hb2))
        go_ret
        refine ⟨⟨_,rfl,?_⟩,HB2.out⟩
        rcases HX2.out with h|h
        · exact absurd h.1 (by simp)
        · rw [h.2];simp
    · go_wp2_with fail
      go_ret
      refine ⟨⟨_,rfl,?_⟩,HB.out⟩
      have h9:=HA.out
      rw [List.drop_eq_nil_of_le (by omega)] at h9
      simp only [allNotes,Option.some.injEq] at h9
      subst h9
      decide
theorem contains_notes (k:Nat) (A:Option Addr) (c:Nat) (l:List S30) (b:Bool) (w:World) (hr:Kd.C k30 w A l.length l) (hl:l.length≤1000) (h:allNotes k l=some b) :
    Calls Tryd.prog 75 #[.slice A l.length c,.func (.func 76) #[] #[]] w fun e w'=>e=.returned (.bool (!b))∧Below w.heap.size w w':=by
  have HR:=Aside0.mk hr
  have HH:=Aside0.mk h
  clear hr h
  go_enter Tryd.func75,Tryd.ntmps75
  go_wp2_with fail
  refine (index_notes k A c l b w HR.out hl HH.out).mono ?_
  rintro e w2 ⟨⟨v,rfl,hv⟩,hb2⟩
  have HV:=Aside0.mk hv
  have HB:=Aside0.mk hb2
  clear hv hb2
  go_wp2_with fail
  go_ret
  exact ⟨ret_bool HV.out,HB.out⟩
end Go.Proofs.YthnilelmhpmanaaDoor.PHeardFits
end
section
namespace Go.Proofs.YthnilelmhpmanaaDoor.PHeardFits
open Go.RowKit Go.Proofs.YthnilelmhpmanaaDoorW.PrintWords Go.Proofs.YthnilelmhpmanaaDoorW.PrintLast Go.Proofs.YthnilelmhpmanaaDoorW.PrintMore
set_option linter.unusedVariables false
set_option linter.unusedSimpArgs false
theorem may_all (i j:Nat) (w:World):Calls Tryd.prog 126 #[.agg #[.int .i64 i,.int .i64 j]] w fun e w'=>e=.returned (.bool true)∧Below w.heap.size w w':=by
  go_enter Tryd.func126,Tryd.ntmps126
  go_wp2_with fail
  go_ret
  exact ⟨rfl,below_alloc (Below.refl _ w) _⟩
/-- One note is one stroke. -/
def mayK (which k:Int) (i j:Nat):Bool:=((i:Int) != which) || ((j:Int) == k)
theorem may_one (which k:Int) (pw pk i j:Nat) (w:World) (hw:w.cell? ⟨pw,0,none⟩=some (.int .i64 which)) (hk:w.cell? ⟨pk,0,none⟩=some (.int .i64 k)) :
    Calls Tryd.prog 70 #[.agg #[.int .i64 i,.int .i64 j],.pointer (some ⟨pw,0,none⟩),.pointer (some ⟨pk,0,none⟩)] w fun e w'=>e=.returned (.bool (mayK which k i j))∧Below w.heap.size w w':=by
  have l1:=World.block_lt_of_cell? w _ hw
  have l2:=World.block_lt_of_cell? w _ hk
  simp only at l1 l2
  cases hq:((i:Int) != which) with
  | true =>
    have HQ:=Aside0.mk hq
    go_enter Tryd.func70,Tryd.ntmps70
    go_wp2_with fail
    go_ret
    exact ⟨ret_bool (by unfold mayK;rw [HQ.out];rfl),below_alloc (Below.refl _ w) _⟩
  | false =>
    have HQ:=Aside0.mk hq
    go_enter Tryd.func70,Tryd.ntmps70
    go_wp2_with fail
    go_ret
    exact ⟨ret_bool (by unfold mayK;rw [HQ.out];rfl),below_alloc (Below.refl _ w) _⟩
end Go.Proofs.YthnilelmhpmanaaDoor.PHeardFits
end
section
namespace Go.Proofs.YthnilelmhpmanaaDoor.PHeardFits
open Go.RowKit Go.Proofs.YthnilelmhpmanaaDoorW.PrintWords Go.Proofs.YthnilelmhpmanaaDoorW.PrintLast Go.Proofs.YthnilelmhpmanaaDoorW.PrintMore
open Go.Proofs.YthnilelmhpmanaaDoor.Hm
set_option linter.unusedVariables false
set_option linter.unusedSimpArgs false
section
variable {g:Int} {Af:Option Addr} {cf:Nat} {fs:List S85} {Ap:Option Addr} {cp:Nat} {ps:List S62} {At:Option Addr} {ct:Nat} {ts:List Int} {Ag:Option Addr} {cg:Nat} {gs:List Int} {lost wrong:Int}
set_option maxRecDepth 100000 in
theorem asked_err (k:Nat) (e0:Int) (he:e0≠0) (piece:Int) (w:World) (hbk:BkC Af fs Ap ps At ts Ag gs w) (hcf:fs.length≤cf) (hcp:ps.length≤cp) (hct:ts.length≤ct) (hcg:gs.length≤cg) (hk:heard_Check.f k g fs ps=some e0) :
    Calls Tryd.prog 58 #[.agg #[.int .i64 g,.slice Af fs.length cf,.slice Ap ps.length cp],.int .i64 piece,.agg #[.slice At ts.length ct,.slice Ag gs.length cg,.int .i64 lost,.int .i64 wrong]] w fun e w'=>e=.returned (.tuple #[.agg #[.int .i64 0,.slice none 0 0,.slice none 0 0,.int .i64 0,.slice none 0 0,.slice none 0 0,.int .i64 0,.int .i64 0],.int .i64 e0])∧Below w.heap.size w w':=by
  have hu94:=Tryd.underlying94
  have hu27:=Tryd.underlying27
  have hu24:=Tryd.underlying24
  have hu30:=Tryd.underlying30
  have HBK:=Aside0.mk hbk
  have HK:=Aside0.mk hk
  have HCF:=Aside0.mk hcf
  have HCP:=Aside0.mk hcp
  have HCT:=Aside0.mk hct
  have HCG:=Aside0.mk hcg
  have heb:(e0 != 0)=true:=by simpa using he
  clear hbk hk hcf hcp hct hcg he
  go_enter Tryd.func58,Tryd.ntmps58
  go_wp2_with fail
  have b1:=blk_alloc (blk_alloc (blk_new w (Obj.cells #[.int .i64 g,.slice Af fs.length cf,.slice Ap ps.length cp] 27)) (Obj.cells #[.slice At ts.length ct,.slice Ag gs.length cg,.int .i64 lost,.int .i64 wrong] 30)) (Obj.cells #[.int .i64 0,.slice none 0 0,.slice none 0 0,.int .i64 0,.slice none 0 0,.slice none 0 0,.int .i64 0,.int .i64 0] 94)
  have b2:(((w.alloc (Obj.cells #[.int .i64 g,.slice Af fs.length cf,.slice Ap ps.length cp] 27)).alloc (Obj.cells #[.slice At ts.length ct,.slice Ag gs.length cg,.int .i64 lost,.int .i64 wrong] 30)).alloc (Obj.cells #[.int .i64 0,.slice none 0 0,.slice none 0 0,.int .i64 0,.slice none 0 0,.slice none 0 0,.int .i64 0,.int .i64 0] 94)).heap[w.heap.size+1]?=some (.cells #[.slice At ts.length ct,.slice Ag gs.length cg,.int .i64 lost,.int .i64 wrong] 30 (0,0)):=by
    have:=blk_alloc (blk_new (w.alloc (Obj.cells #[.int .i64 g,.slice Af fs.length cf,.slice Ap ps.length cp] 27)) (Obj.cells #[.slice At ts.length ct,.slice Ag gs.length cg,.int .i64 lost,.int .i64 wrong] 30)) (Obj.cells #[.int .i64 0,.slice none 0 0,.slice none 0 0,.int .i64 0,.slice none 0 0,.slice none 0 0,.int .i64 0,.int .i64 0] 94)
    rwa [World.size_alloc] at this
  have b3:(((w.alloc (Obj.cells #[.int .i64 g,.slice Af fs.length cf,.slice Ap ps.length cp] 27)).alloc (Obj.cells #[.slice At ts.length ct,.slice Ag gs.length cg,.int .i64 lost,.int .i64 wrong] 30)).alloc (Obj.cells #[.int .i64 0,.slice none 0 0,.slice none 0 0,.int .i64 0,.slice none 0 0,.slice none 0 0,.int .i64 0,.int .i64 0] 94)).heap[w.heap.size+1+1]?=some (.cells #[.int .i64 0,.slice none 0 0,.slice none 0 0,.int .i64 0,.slice none 0 0,.slice none 0 0,.int .i64 0,.int .i64 0] 94 (0,0)):=by
    have:=blk_new ((w.alloc (Obj.cells #[.int .i64 g,.slice Af fs.length cf,.slice Ap ps.length cp] 27)).alloc (Obj.cells #[.slice At ts.length ct,.slice Ag gs.length cg,.int .i64 lost,.int .i64 wrong] 30)) (Obj.cells #[.int .i64 0,.slice none 0 0,.slice none 0 0,.int .i64 0,.slice none 0 0,.slice none 0 0,.int .i64 0,.int .i64 0] 94)
    rwa [World.size_alloc,World.size_alloc] at this
  have hB1:=((below_alloc (Below.refl _ w) (Obj.cells #[.int .i64 g,.slice Af fs.length cf,.slice Ap ps.length cp] 27)).alloc (by simp) (Obj.cells #[.slice At ts.length ct,.slice Ag gs.length cg,.int .i64 lost,.int .i64 wrong] 30)).alloc (by simp;omega) (Obj.cells #[.int .i64 0,.slice none 0 0,.slice none 0 0,.int .i64 0,.slice none 0 0,.slice none 0 0,.int .i64 0,.int .i64 0] 94)
  have z1:(((w.alloc (Obj.cells #[.int .i64 g,.slice Af fs.length cf,.slice Ap ps.length cp] 27)).alloc (Obj.cells #[.slice At ts.length ct,.slice Ag gs.length cg,.int .i64 lost,.int .i64 wrong] 30)).alloc (Obj.cells #[.int .i64 0,.slice none 0 0,.slice none 0 0,.int .i64 0,.slice none 0 0,.slice none 0 0,.int .i64 0,.int .i64 0] 94)).heap.size=w.heap.size+1+1+1:=by simp
  obtain ⟨w1,hw1⟩:∃ w1,(((w.alloc (Obj.cells #[.int .i64 g,.slice Af fs.length cf,.slice Ap ps.length cp] 27)).alloc (Obj.cells #[.slice At ts.length ct,.slice Ag gs.length cg,.int .i64 lost,.int .i64 wrong] 30)).alloc (Obj.cells #[.int .i64 0,.slice none 0 0,.slice none 0 0,.int .i64 0,.slice none 0 0,.slice none 0 0,.int .i64 0,.int .i64 0] 94))=w1:=⟨_,rfl⟩
  rw [hw1] at b1 b2 b3 hB1 z1 ⊢
  clear hw1
  have HB1:=Aside0.mk hB1
  refine (heard_Check.calls k g Af cf fs Ap cp ps _ _ (Kd.C_below HBK.out.f HB1.out) HCF.out (Kd.C_below HBK.out.p HB1.out) HCP.out HK.out).mono ?_
  rintro e w2 ⟨rfl,hb2⟩
  replace b1:=(hb2.block (w.heap.size) (by omega)).trans b1
  replace b2:=(hb2.block (w.heap.size+1) (by omega)).trans b2
  replace b3:=(hb2.block (w.heap.size+1+1) (by omega)).trans b3
  have HB2:=Aside0.mk (HB1.out.trans (hb2.mono HB1.out.size))
  clear hb2 hB1 z1
  have s0:=(blk_cell b1 0).trans rfl
  have s1:=(blk_cell b1 1).trans rfl
  have s2:=(blk_cell b1 2).trans rfl
  have t0:=(blk_cell b2 0).trans rfl
  have t1:=(blk_cell b2 1).trans rfl
  have t2:=(blk_cell b2 2).trans rfl
  have t3:=(blk_cell b2 3).trans rfl
  have r0:=(blk_cell b3 0).trans rfl
  have f0:=blk_frozen b3 0
  have r1:=(blk_cell b3 1).trans rfl
  have f1:=blk_frozen b3 1
  have r2:=(blk_cell b3 2).trans rfl
  have f2:=blk_frozen b3 2
  have r3:=(blk_cell b3 3).trans rfl
  have f3:=blk_frozen b3 3
  have r4:=(blk_cell b3 4).trans rfl
  have f4:=blk_frozen b3 4
  have r5:=(blk_cell b3 5).trans rfl
  have f5:=blk_frozen b3 5
  have r6:=(blk_cell b3 6).trans rfl
  have f6:=blk_frozen b3 6
  have r7:=(blk_cell b3 7).trans rfl
  have f7:=blk_frozen b3 7
  have HC1:=Aside0.mk b1
  have HC2:=Aside0.mk b2
  have HC3:=Aside0.mk b3
  clear b1 b2 b3
  have hBel:=fun (v0 v1 v2 v3 v4 v5 v6 v7:Value)=>Aside0.mk ((((((((HB2.out.setCell (p:=⟨w.heap.size+1+1,0,none⟩) (by show w.heap.size≤w.heap.size+1+1;omega) v0).setCell (p:=⟨w.heap.size+1+1,1,none⟩) (by show w.heap.size≤w.heap.size+1+1;omega) v1).setCell (p:=⟨w.heap.size+1+1,2,none⟩) (by show w.heap.size≤w.heap.size+1+1;omega) v2).setCell (p:=⟨w.heap.size+1+1,3,none⟩) (by show w.heap.size≤w.heap.size+1+1;omega) v3).setCell (p:=⟨w.heap.size+1+1,4,none⟩) (by show w.heap.size≤w.heap.size+1+1;omega) v4).setCell (p:=⟨w.heap.size+1+1,5,none⟩) (by show w.heap.size≤w.heap.size+1+1;omega) v5).setCell (p:=⟨w.heap.size+1+1,6,none⟩) (by show w.heap.size≤w.heap.size+1+1;omega) v6).setCell (p:=⟨w.heap.size+1+1,7,none⟩) (by show w.heap.size≤w.heap.size+1+1;omega) v7)
  go_wp2_with fail
  refine bodyPost_ret (v:=.tuple #[.agg #[.int .i64 0,.slice none 0 0,.slice none 0 0,.int .i64 0,.slice none 0 0,.slice none 0 0,.int .i64 0,.int .i64 0],.int .i64 e0]) (by simp [results,Tryd.results58,go_sem,r0,r1,r2,r3,r4,r5,r6,r7]) rfl ⟨rfl,(hBel _ _ _ _ _ _ _ _).out⟩
set_option maxRecDepth 100000 in
theorem asked_bad (k:Nat) (nb:Bool) (piece:Int) (hbad:(liesB piece 0 (ps.length - 1) && nb)=false) (w:World) (hbk:BkC Af fs Ap ps At ts Ag gs w) (hcf:fs.length≤cf) (hcp:ps.length≤cp) (hct:ts.length≤ct) (hcg:gs.length≤cg) (hk:heard_Check.f k g fs ps=some 0) (hn:heard_isNote.f k ts gs lost wrong=some nb) (hpl:ps.length≤1000) :
    Calls Tryd.prog 58 #[.agg #[.int .i64 g,.slice Af fs.length cf,.slice Ap ps.length cp],.int .i64 piece,.agg #[.slice At ts.length ct,.slice Ag gs.length cg,.int .i64 lost,.int .i64 wrong]] w fun e w'=>e=.returned (.tuple #[.agg #[.int .i64 0,.slice none 0 0,.slice none 0 0,.int .i64 0,.slice none 0 0,.slice none 0 0,.int .i64 0,.int .i64 0],.int .i64 91])∧Below w.heap.size w w':=by
  have hu94:=Tryd.underlying94
  have hu27:=Tryd.underlying27
  have hu24:=Tryd.underlying24
  have hu30:=Tryd.underlying30
  have HBK:=Aside0.mk hbk
  have HK:=Aside0.mk hk
  have HCF:=Aside0.mk hcf
  have HCP:=Aside0.mk hcp
  have HCT:=Aside0.mk hct
  have HCG:=Aside0.mk hcg
  have hw1:IntKind.i64.wrap ((ps.length:Int) - 1)=(ps.length:Int) - 1:=IntWalk.i64_in _ (by omega)
  have HNN:=Aside0.mk hn
  clear hbk hk hcf hcp hct hcg hn
  cases hb:liesB piece 0 (ps.length - 1) with
  | false =>
    clear hbad
    go_enter Tryd.func58,Tryd.ntmps58
    go_wp2_with fail
    have b1:=blk_alloc (blk_alloc (blk_new w (Obj.cells #[.int .i64 g,.slice Af fs.length cf,.slice Ap ps.length cp] 27)) (Obj.cells #[.slice At ts.length ct,.slice Ag gs.length cg,.int .i64 lost,.int .i64 wrong] 30)) (Obj.cells #[.int .i64 0,.slice none 0 0,.slice none 0 0,.int .i64 0,.slice none 0 0,.slice none 0 0,.int .i64 0,.int .i64 0] 94)
    have b2:(((w.alloc (Obj.cells #[.int .i64 g,.slice Af fs.length cf,.slice Ap ps.length cp] 27)).alloc (Obj.cells #[.slice At ts.length ct,.slice Ag gs.length cg,.int .i64 lost,.int .i64 wrong] 30)).alloc (Obj.cells #[.int .i64 0,.slice none 0 0,.slice none 0 0,.int .i64 0,.slice none 0 0,.slice none 0 0,.int .i64 0,.int .i64 0] 94)).heap[w.heap.size+1]?=some (.cells #[.slice At ts.length ct,.slice Ag gs.length cg,.int .i64 lost,.int .i64 wrong] 30 (0,0)):=by
      have:=blk_alloc (blk_new (w.alloc (Obj.cells #[.int .i64 g,.slice Af fs.length cf,.slice Ap ps.length cp] 27)) (Obj.cells #[.slice At ts.length ct,.slice Ag gs.length cg,.int .i64 lost,.int .i64 wrong] 30)) (Obj.cells #[.int .i64 0,.slice none 0 0,.slice none 0 0,.int .i64 0,.slice none 0 0,.slice none 0 0,.int .i64 0,.int .i64 0] 94)
      rwa [World.size_alloc] at this
    have b3:(((w.alloc (Obj.cells #[.int .i64 g,.slice Af fs.length cf,.slice Ap ps.length cp] 27)).alloc (Obj.cells #[.slice At ts.length ct,.slice Ag gs.length cg,.int .i64 lost,.int .i64 wrong] 30)).alloc (Obj.cells #[.int .i64 0,.slice none 0 0,.slice none 0 0,.int .i64 0,.slice none 0 0,.slice none 0 0,.int .i64 0,.int .i64 0] 94)).heap[w.heap.size+1+1]?=some (.cells #[.int .i64 0,.slice none 0 0,.slice none 0 0,.int .i64 0,.slice none 0 0,.slice none 0 0,.int .i64 0,.int .i64 0] 94 (0,0)):=by
      have:=blk_new ((w.alloc (Obj.cells #[.int .i64 g,.slice Af fs.length cf,.slice Ap ps.length cp] 27)).alloc (Obj.cells #[.slice At ts.length ct,.slice Ag gs.length cg,.int .i64 lost,.int .i64 wrong] 30)) (Obj.cells #[.int .i64 0,.slice none 0 0,.slice none 0 0,.int .i64 0,.slice none 0 0,.slice none 0 0,.int .i64 0,.int .i64 0] 94)
      rwa [World.size_alloc,World.size_alloc] at this
    have hB1:=((below_alloc (Below.refl _ w) (Obj.cells #[.int .i64 g,.slice Af fs.length cf,.slice Ap ps.length cp] 27)).alloc (by simp) (Obj.cells #[.slice At ts.length ct,.slice Ag gs.length cg,.int .i64 lost,.int .i64 wrong] 30)).alloc (by simp;omega) (Obj.cells #[.int .i64 0,.slice none 0 0,.slice none 0 0,.int .i64 0,.slice none 0 0,.slice none 0 0,.int .i64 0,.int .i64 0] 94)
    have z1:(((w.alloc (Obj.cells #[.int .i64 g,.slice Af fs.length cf,.slice Ap ps.length cp] 27)).alloc (Obj.cells #[.slice At ts.length ct,.slice Ag gs.length cg,.int .i64 lost,.int .i64 wrong] 30)).alloc (Obj.cells #[.int .i64 0,.slice none 0 0,.slice none 0 0,.int .i64 0,.slice none 0 0,.slice none 0 0,.int .i64 0,.int .i64 0] 94)).heap.size=w.heap.size+1+1+1:=by simp
    obtain ⟨w1,hw1⟩:∃ w1,(((w.alloc (Obj.cells #[.int .i64 g,.slice Af fs.length cf,.slice Ap ps.length cp] 27)).alloc (Obj.cells #[.slice At ts.length ct,.slice Ag gs.length cg,.int .i64 lost,.int .i64 wrong] 30)).alloc (Obj.cells #[.int .i64 0,.slice none 0 0,.slice none 0 0,.int .i64 0,.slice none 0 0,.slice none 0 0,.int .i64 0,.int .i64 0] 94))=w1:=⟨_,rfl⟩
    rw [hw1] at b1 b2 b3 hB1 z1 ⊢
    clear hw1
    have HB1:=Aside0.mk hB1
    refine (heard_Check.calls k g Af cf fs Ap cp ps _ _ (Kd.C_below HBK.out.f HB1.out) HCF.out (Kd.C_below HBK.out.p HB1.out) HCP.out HK.out).mono ?_
    rintro e w2 ⟨rfl,hb2⟩
    replace b1:=(hb2.block (w.heap.size) (by omega)).trans b1
    replace b2:=(hb2.block (w.heap.size+1) (by omega)).trans b2
    replace b3:=(hb2.block (w.heap.size+1+1) (by omega)).trans b3
    have HB2:=Aside0.mk (HB1.out.trans (hb2.mono HB1.out.size))
    clear hb2 hB1 z1
    have s0:=(blk_cell b1 0).trans rfl
    have s1:=(blk_cell b1 1).trans rfl
    have s2:=(blk_cell b1 2).trans rfl
    have t0:=(blk_cell b2 0).trans rfl
    have t1:=(blk_cell b2 1).trans rfl
    have t2:=(blk_cell b2 2).trans rfl
    have t3:=(blk_cell b2 3).trans rfl
    have r0:=(blk_cell b3 0).trans rfl
    have f0:=blk_frozen b3 0
    have r1:=(blk_cell b3 1).trans rfl
    have f1:=blk_frozen b3 1
    have r2:=(blk_cell b3 2).trans rfl
    have f2:=blk_frozen b3 2
    have r3:=(blk_cell b3 3).trans rfl
    have f3:=blk_frozen b3 3
    have r4:=(blk_cell b3 4).trans rfl
    have f4:=blk_frozen b3 4
    have r5:=(blk_cell b3 5).trans rfl
    have f5:=blk_frozen b3 5
    have r6:=(blk_cell b3 6).trans rfl
    have f6:=blk_frozen b3 6
    have r7:=(blk_cell b3 7).trans rfl
    have f7:=blk_frozen b3 7
    have HC1:=Aside0.mk b1
    have HC2:=Aside0.mk b2
    have HC3:=Aside0.mk b3
    clear b1 b2 b3
    have hBel:=fun (v0 v1 v2 v3 v4 v5 v6 v7:Value)=>Aside0.mk ((((((((HB2.out.setCell (p:=⟨w.heap.size+1+1,0,none⟩) (by show w.heap.size≤w.heap.size+1+1;omega) v0).setCell (p:=⟨w.heap.size+1+1,1,none⟩) (by show w.heap.size≤w.heap.size+1+1;omega) v1).setCell (p:=⟨w.heap.size+1+1,2,none⟩) (by show w.heap.size≤w.heap.size+1+1;omega) v2).setCell (p:=⟨w.heap.size+1+1,3,none⟩) (by show w.heap.size≤w.heap.size+1+1;omega) v3).setCell (p:=⟨w.heap.size+1+1,4,none⟩) (by show w.heap.size≤w.heap.size+1+1;omega) v4).setCell (p:=⟨w.heap.size+1+1,5,none⟩) (by show w.heap.size≤w.heap.size+1+1;omega) v5).setCell (p:=⟨w.heap.size+1+1,6,none⟩) (by show w.heap.size≤w.heap.size+1+1;omega) v6).setCell (p:=⟨w.heap.size+1+1,7,none⟩) (by show w.heap.size≤w.heap.size+1+1;omega) v7)
    clear hBel
    go_wp2_with (first|(go_at_call 65;refine (lies_any _ _ _ _).mono ?_;rintro e w3 ⟨rfl,⟨nd,rfl⟩⟩;rw [hb];have HB3:Aside0 (Below w.heap.size w (w2.drewN nd)):=⟨pw_below_drewN HB2.out nd⟩))
    refine bodyPost_ret (v:=.tuple #[.agg #[.int .i64 0,.slice none 0 0,.slice none 0 0,.int .i64 0,.slice none 0 0,.slice none 0 0,.int .i64 0,.int .i64 0],.int .i64 91]) (by simp [results,Tryd.results58,go_sem,r0,r1,r2,r3,r4,r5,r6,r7]) rfl ⟨rfl,((((((((HB3.out.setCell (p:=⟨w.heap.size+1+1,0,none⟩) (by show w.heap.size≤w.heap.size+1+1;omega) _).setCell (p:=⟨w.heap.size+1+1,1,none⟩) (by show w.heap.size≤w.heap.size+1+1;omega) _).setCell (p:=⟨w.heap.size+1+1,2,none⟩) (by show w.heap.size≤w.heap.size+1+1;omega) _).setCell (p:=⟨w.heap.size+1+1,3,none⟩) (by show w.heap.size≤w.heap.size+1+1;omega) _).setCell (p:=⟨w.heap.size+1+1,4,none⟩) (by show w.heap.size≤w.heap.size+1+1;omega) _).setCell (p:=⟨w.heap.size+1+1,5,none⟩) (by show w.heap.size≤w.heap.size+1+1;omega) _).setCell (p:=⟨w.heap.size+1+1,6,none⟩) (by show w.heap.size≤w.heap.size+1+1;omega) _).setCell (p:=⟨w.heap.size+1+1,7,none⟩) (by show w.heap.size≤w.heap.size+1+1;omega) _)⟩
  | true =>
    rw [hb,Bool.true_and] at hbad
    subst hbad
    go_enter Tryd.func58,Tryd.ntmps58
    go_wp2_with fail
    have b1:=blk_alloc (blk_alloc (blk_new w (Obj.cells #[.int .i64 g,.slice Af fs.length cf,.slice Ap ps.length cp] 27)) (Obj.cells #[.slice At ts.length ct,.slice Ag gs.length cg,.int .i64 lost,.int .i64 wrong] 30)) (Obj.cells #[.int .i64 0,.slice none 0 0,.slice none 0 0,.int .i64 0,.slice none 0 0,.slice none 0 0,.int .i64 0,.int .i64 0] 94)
    have b2:(((w.alloc (Obj.cells #[.int .i64 g,.slice Af fs.length cf,.slice Ap ps.length cp] 27)).alloc (Obj.cells #[.slice At ts.length ct,.slice Ag gs.length cg,.int .i64 lost,.int .i64 wrong] 30)).alloc (Obj.cells #[.int .i64 0,.slice none 0 0,.slice none 0 0,.int .i64 0,.slice none 0 0,.slice none 0 0,.int .i64 0,.int .i64 0] 94)).heap[w.heap.size+1]?=some (.cells #[.slice At ts.length ct,.slice Ag gs.length cg,.int .i64 lost,.int .i64 wrong] 30 (0,0)):=by
      have:=blk_alloc (blk_new (w.alloc (Obj.cells #[.int .i64 g,.slice Af fs.length cf,.slice Ap ps.length cp] 27)) (Obj.cells #[.slice At ts.length ct,.slice Ag gs.length cg,.int .i64 lost,.int .i64 wrong] 30)) (Obj.cells #[.int .i64 0,.slice none 0 0,.slice none 0 0,.int .i64 0,.slice none 0 0,.slice none 0 0,.int .i64 0,.int .i64 0] 94)
      rwa [World.size_alloc] at this
    have b3:(((w.alloc (Obj.cells #[.int .i64 g,.slice Af fs.length cf,.slice Ap ps.length cp] 27)).alloc (Obj.cells #[.slice At ts.length ct,.slice Ag gs.length cg,.int .i64 lost,.int .i64 wrong] 30)).alloc (Obj.cells #[.int .i64 0,.slice none 0 0,.slice none 0 0,.int .i64 0,.slice none 0 0,.slice none 0 0,.int .i64 0,.int .i64 0] 94)).heap[w.heap.size+1+1]?=some (.cells #[.int .i64 0,.slice none 0 0,.slice none 0 0,.int .i64 0,.slice none 0 0,.slice none 0 0,.int .i64 0,.int .i64 0] 94 (0,0)):=by
      have:=blk_new ((w.alloc (Obj.cells #[.int .i64 g,.slice Af fs.length cf,.slice Ap ps.length cp] 27)).alloc (Obj.cells #[.slice At ts.length ct,.slice Ag gs.length cg,.int .i64 lost,.int .i64 wrong] 30)) (Obj.cells #[.int .i64 0,.slice none 0 0,.slice none 0 0,.int .i64 0,.slice none 0 0,.slice none 0 0,.int .i64 0,.int .i64 0] 94)
      rwa [World.size_alloc,World.size_alloc] at this
    have hB1:=((below_alloc (Below.refl _ w) (Obj.cells #[.int .i64 g,.slice Af fs.length cf,.slice Ap ps.length cp] 27)).alloc (by simp) (Obj.cells #[.slice At ts.length ct,.slice Ag gs.length cg,.int .i64 lost,.int .i64 wrong] 30)).alloc (by simp;omega) (Obj.cells #[.int .i64 0,.slice none 0 0,.slice none 0 0,.int .i64 0,.slice none 0 0,.slice none 0 0,.int .i64 0,.int .i64 0] 94)
    have z1:(((w.alloc (Obj.cells #[.int .i64 g,.slice Af fs.length cf,.slice Ap ps.length cp] 27)).alloc (Obj.cells #[.slice At ts.length ct,.slice Ag gs.length cg,.int .i64 lost,.int .i64 wrong] 30)).alloc (Obj.cells #[.int .i64 0,.slice none 0 0,.slice none 0 0,.int .i64 0,.slice none 0 0,.slice none 0 0,.int .i64 0,.int .i64 0] 94)).heap.size=w.heap.size+1+1+1:=by simp
    obtain ⟨w1,hw1⟩:∃ w1,(((w.alloc (Obj.cells #[.int .i64 g,.slice Af fs.length cf,.slice Ap ps.length cp] 27)).alloc (Obj.cells #[.slice At ts.length ct,.slice Ag gs.length cg,.int .i64 lost,.int .i64 wrong] 30)).alloc (Obj.cells #[.int .i64 0,.slice none 0 0,.slice none 0 0,.int .i64 0,.slice none 0 0,.slice none 0 0,.int .i64 0,.int .i64 0] 94))=w1:=⟨_,rfl⟩
    rw [hw1] at b1 b2 b3 hB1 z1 ⊢
    clear hw1
    have HB1:=Aside0.mk hB1
    refine (heard_Check.calls k g Af cf fs Ap cp ps _ _ (Kd.C_below HBK.out.f HB1.out) HCF.out (Kd.C_below HBK.out.p HB1.out) HCP.out HK.out).mono ?_
    rintro e w2 ⟨rfl,hb2⟩
    replace b1:=(hb2.block (w.heap.size) (by omega)).trans b1
    replace b2:=(hb2.block (w.heap.size+1) (by omega)).trans b2
    replace b3:=(hb2.block (w.heap.size+1+1) (by omega)).trans b3
    have HB2:=Aside0.mk (HB1.out.trans (hb2.mono HB1.out.size))
    clear hb2 hB1 z1
    have s0:=(blk_cell b1 0).trans rfl
    have s1:=(blk_cell b1 1).trans rfl
    have s2:=(blk_cell b1 2).trans rfl
    have t0:=(blk_cell b2 0).trans rfl
    have t1:=(blk_cell b2 1).trans rfl
    have t2:=(blk_cell b2 2).trans rfl
    have t3:=(blk_cell b2 3).trans rfl
    have r0:=(blk_cell b3 0).trans rfl
    have f0:=blk_frozen b3 0
    have r1:=(blk_cell b3 1).trans rfl
    have f1:=blk_frozen b3 1
    have r2:=(blk_cell b3 2).trans rfl
    have f2:=blk_frozen b3 2
    have r3:=(blk_cell b3 3).trans rfl
    have f3:=blk_frozen b3 3
    have r4:=(blk_cell b3 4).trans rfl
    have f4:=blk_frozen b3 4
    have r5:=(blk_cell b3 5).trans rfl
    have f5:=blk_frozen b3 5
    have r6:=(blk_cell b3 6).trans rfl
    have f6:=blk_frozen b3 6
    have r7:=(blk_cell b3 7).trans rfl
    have f7:=blk_frozen b3 7
    have HC1:=Aside0.mk b1
    have HC2:=Aside0.mk b2
    have HC3:=Aside0.mk b3
    clear b1 b2 b3
    have hBel:=fun (v0 v1 v2 v3 v4 v5 v6 v7:Value)=>Aside0.mk ((((((((HB2.out.setCell (p:=⟨w.heap.size+1+1,0,none⟩) (by show w.heap.size≤w.heap.size+1+1;omega) v0).setCell (p:=⟨w.heap.size+1+1,1,none⟩) (by show w.heap.size≤w.heap.size+1+1;omega) v1).setCell (p:=⟨w.heap.size+1+1,2,none⟩) (by show w.heap.size≤w.heap.size+1+1;omega) v2).setCell (p:=⟨w.heap.size+1+1,3,none⟩) (by show w.heap.size≤w.heap.size+1+1;omega) v3).setCell (p:=⟨w.heap.size+1+1,4,none⟩) (by show w.heap.size≤w.heap.size+1+1;omega) v4).setCell (p:=⟨w.heap.size+1+1,5,none⟩) (by show w.heap.size≤w.heap.size+1+1;omega) v5).setCell (p:=⟨w.heap.size+1+1,6,none⟩) (by show w.heap.size≤w.heap.size+1+1;omega) v6).setCell (p:=⟨w.heap.size+1+1,7,none⟩) (by show w.heap.size≤w.heap.size+1+1;omega) v7)
    clear hBel
    go_wp2_with (first|(go_at_call 65;refine (lies_any _ _ _ _).mono ?_;rintro e w3 ⟨rfl,⟨nd,rfl⟩⟩;rw [hb];have HB3:Aside0 (Below w.heap.size w (w2.drewN nd)):=⟨pw_below_drewN HB2.out nd⟩)|(go_at_call 77;refine (heard_isNote.calls k At ct ts Ag cg gs lost wrong _ _ (Kd.C_below HBK.out.t HB3.out) HCT.out (Kd.C_below HBK.out.g HB3.out) HCG.out HNN.out).mono ?_;rintro e w4 ⟨rfl,hb4⟩;have d1:=(hb4.block (w.heap.size) (Array.getElem?_eq_some_iff.1 HC1.out).1).trans HC1.out;have d2:=(hb4.block (w.heap.size+1) (Array.getElem?_eq_some_iff.1 HC2.out).1).trans HC2.out;have d3:=(hb4.block (w.heap.size+1+1) (Array.getElem?_eq_some_iff.1 HC3.out).1).trans HC3.out;clear s0 s1 s2 t0 t1 t2 t3 r0 f0 r1 f1 r2 f2 r3 f3 r4 f4 r5 f5 r6 f6 r7 f7;have s0:=(blk_cell d1 0).trans rfl;have s1:=(blk_cell d1 1).trans rfl;have s2:=(blk_cell d1 2).trans rfl;have t0:=(blk_cell d2 0).trans rfl;have t1:=(blk_cell d2 1).trans rfl;have t2:=(blk_cell d2 2).trans rfl;have t3:=(blk_cell d2 3).trans rfl;have r0:=(blk_cell d3 0).trans rfl;have f0:=blk_frozen d3 0;have r1:=(blk_cell d3 1).trans rfl;have f1:=blk_frozen d3 1;have r2:=(blk_cell d3 2).trans rfl;have f2:=blk_frozen d3 2;have r3:=(blk_cell d3 3).trans rfl;have f3:=blk_frozen d3 3;have r4:=(blk_cell d3 4).trans rfl;have f4:=blk_frozen d3 4;have r5:=(blk_cell d3 5).trans rfl;have f5:=blk_frozen d3 5;have r6:=(blk_cell d3 6).trans rfl;have f6:=blk_frozen d3 6;have r7:=(blk_cell d3 7).trans rfl;have f7:=blk_frozen d3 7;have HB4:=Aside0.mk (HB3.out.trans (hb4.mono HB3.out.size));clear d1 d2 d3 hb4))
    refine bodyPost_ret (v:=.tuple #[.agg #[.int .i64 0,.slice none 0 0,.slice none 0 0,.int .i64 0,.slice none 0 0,.slice none 0 0,.int .i64 0,.int .i64 0],.int .i64 91]) (by simp [results,Tryd.results58,go_sem,r0,r1,r2,r3,r4,r5,r6,r7]) rfl ⟨rfl,((((((((HB4.out.setCell (p:=⟨w.heap.size+1+1,0,none⟩) (by show w.heap.size≤w.heap.size+1+1;omega) _).setCell (p:=⟨w.heap.size+1+1,1,none⟩) (by show w.heap.size≤w.heap.size+1+1;omega) _).setCell (p:=⟨w.heap.size+1+1,2,none⟩) (by show w.heap.size≤w.heap.size+1+1;omega) _).setCell (p:=⟨w.heap.size+1+1,3,none⟩) (by show w.heap.size≤w.heap.size+1+1;omega) _).setCell (p:=⟨w.heap.size+1+1,4,none⟩) (by show w.heap.size≤w.heap.size+1+1;omega) _).setCell (p:=⟨w.heap.size+1+1,5,none⟩) (by show w.heap.size≤w.heap.size+1+1;omega) _).setCell (p:=⟨w.heap.size+1+1,6,none⟩) (by show w.heap.size≤w.heap.size+1+1;omega) _).setCell (p:=⟨w.heap.size+1+1,7,none⟩) (by show w.heap.size≤w.heap.size+1+1;omega) _)⟩
set_option maxRecDepth 100000 in
theorem asked_ok (k:Nat) (piece:Int) (hb:liesB piece 0 (ps.length - 1)=true) (w:World) (hbk:BkC Af fs Ap ps At ts Ag gs w) (hcf:fs.length≤cf) (hcp:ps.length≤cp) (hct:ts.length≤ct) (hcg:gs.length≤cg) (hk:heard_Check.f k g fs ps=some 0) (hn:heard_isNote.f k ts gs lost wrong=some true) (hpl:ps.length≤1000) :
    Calls Tryd.prog 58 #[.agg #[.int .i64 g,.slice Af fs.length cf,.slice Ap ps.length cp],.int .i64 piece,.agg #[.slice At ts.length ct,.slice Ag gs.length cg,.int .i64 lost,.int .i64 wrong]] w fun e w'=>e=.returned (.tuple #[.agg #[.int .i64 g,.slice Af fs.length cf,.slice Ap ps.length cp,.int .i64 piece,.slice At ts.length ct,.slice Ag gs.length cg,.int .i64 lost,.int .i64 wrong],.int .i64 0])∧Below w.heap.size w w':=by
  have hu94:=Tryd.underlying94
  have hu27:=Tryd.underlying27
  have hu24:=Tryd.underlying24
  have hu30:=Tryd.underlying30
  have HBK:=Aside0.mk hbk
  have HK:=Aside0.mk hk
  have HCF:=Aside0.mk hcf
  have HCP:=Aside0.mk hcp
  have HCT:=Aside0.mk hct
  have HCG:=Aside0.mk hcg
  have hw1:IntKind.i64.wrap ((ps.length:Int) - 1)=(ps.length:Int) - 1:=IntWalk.i64_in _ (by omega)
  have HNN:=Aside0.mk hn
  clear hbk hk hcf hcp hct hcg hn
  go_enter Tryd.func58,Tryd.ntmps58
  go_wp2_with fail
  have b1:=blk_alloc (blk_alloc (blk_new w (Obj.cells #[.int .i64 g,.slice Af fs.length cf,.slice Ap ps.length cp] 27)) (Obj.cells #[.slice At ts.length ct,.slice Ag gs.length cg,.int .i64 lost,.int .i64 wrong] 30)) (Obj.cells #[.int .i64 0,.slice none 0 0,.slice none 0 0,.int .i64 0,.slice none 0 0,.slice none 0 0,.int .i64 0,.int .i64 0] 94)
  have b2:(((w.alloc (Obj.cells #[.int .i64 g,.slice Af fs.length cf,.slice Ap ps.length cp] 27)).alloc (Obj.cells #[.slice At ts.length ct,.slice Ag gs.length cg,.int .i64 lost,.int .i64 wrong] 30)).alloc (Obj.cells #[.int .i64 0,.slice none 0 0,.slice none 0 0,.int .i64 0,.slice none 0 0,.slice none 0 0,.int .i64 0,.int .i64 0] 94)).heap[w.heap.size+1]?=some (.cells #[.slice At ts.length ct,.slice Ag gs.length cg,.int .i64 lost,.int .i64 wrong] 30 (0,0)):=by
    have:=blk_alloc (blk_new (w.alloc (Obj.cells #[.int .i64 g,.slice Af fs.length cf,.slice Ap ps.length cp] 27)) (Obj.cells #[.slice At ts.length ct,.slice Ag gs.length cg,.int .i64 lost,.int .i64 wrong] 30)) (Obj.cells #[.int .i64 0,.slice none 0 0,.slice none 0 0,.int .i64 0,.slice none 0 0,.slice none 0 0,.int .i64 0,.int .i64 0] 94)
    rwa [World.size_alloc] at this
  have b3:(((w.alloc (Obj.cells #[.int .i64 g,.slice Af fs.length cf,.slice Ap ps.length cp] 27)).alloc (Obj.cells #[.slice At ts.length ct,.slice Ag gs.length cg,.int .i64 lost,.int .i64 wrong] 30)).alloc (Obj.cells #[.int .i64 0,.slice none 0 0,.slice none 0 0,.int .i64 0,.slice none 0 0,.slice none 0 0,.int .i64 0,.int .i64 0] 94)).heap[w.heap.size+1+1]?=some (.cells #[.int .i64 0,.slice none 0 0,.slice none 0 0,.int .i64 0,.slice none 0 0,.slice none 0 0,.int .i64 0,.int .i64 0] 94 (0,0)):=by
    have:=blk_new ((w.alloc (Obj.cells #[.int .i64 g,.slice Af fs.length cf,.slice Ap ps.length cp] 27)).alloc (Obj.cells #[.slice At ts.length ct,.slice Ag gs.length cg,.int .i64 lost,.int .i64 wrong] 30)) (Obj.cells #[.int .i64 0,.slice none 0 0,.slice none 0 0,.int .i64 0,.slice none 0 0,.slice none 0 0,.int .i64 0,.int .i64 0] 94)
    rwa [World.size_alloc,World.size_alloc] at this
  have hB1:=((below_alloc (Below.refl _ w) (Obj.cells #[.int .i64 g,.slice Af fs.length cf,.slice Ap ps.length cp] 27)).alloc (by simp) (Obj.cells #[.slice At ts.length ct,.slice Ag gs.length cg,.int .i64 lost,.int .i64 wrong] 30)).alloc (by simp;omega) (Obj.cells #[.int .i64 0,.slice none 0 0,.slice none 0 0,.int .i64 0,.slice none 0 0,.slice none 0 0,.int .i64 0,.int .i64 0] 94)
  have z1:(((w.alloc (Obj.cells #[.int .i64 g,.slice Af fs.length cf,.slice Ap ps.length cp] 27)).alloc (Obj.cells #[.slice At ts.length ct,.slice Ag gs.length cg,.int .i64 lost,.int .i64 wrong] 30)).alloc (Obj.cells #[.int .i64 0,.slice none 0 0,.slice none 0 0,.int .i64 0,.slice none 0 0,.slice none 0 0,.int .i64 0,.int .i64 0] 94)).heap.size=w.heap.size+1+1+1:=by simp
  obtain ⟨w1,hw1⟩:∃ w1,(((w.alloc (Obj.cells #[.int .i64 g,.slice Af fs.length cf,.slice Ap ps.length cp] 27)).alloc (Obj.cells #[.slice At ts.length ct,.slice Ag gs.length cg,.int .i64 lost,.int .i64 wrong] 30)).alloc (Obj.cells #[.int .i64 0,.slice none 0 0,.slice none 0 0,.int .i64 0,.slice none 0 0,.slice none 0 0,.int .i64 0,.int .i64 0] 94))=w1:=⟨_,rfl⟩
  rw [hw1] at b1 b2 b3 hB1 z1 ⊢
  clear hw1
  have HB1:=Aside0.mk hB1
  refine (heard_Check.calls k g Af cf fs Ap cp ps _ _ (Kd.C_below HBK.out.f HB1.out) HCF.out (Kd.C_below HBK.out.p HB1.out) HCP.out HK.out).mono ?_
  rintro e w2 ⟨rfl,hb2⟩
  replace b1:=(hb2.block (w.heap.size) (by omega)).trans b1
  replace b2:=(hb2.block (w.heap.size+1) (by omega)).trans b2
  replace b3:=(hb2.block (w.heap.size+1+1) (by omega)).trans b3
  have HB2:=Aside0.mk (HB1.out.trans (hb2.mono HB1.out.size))
  clear hb2 hB1 z1
  have s0:=(blk_cell b1 0).trans rfl
  have s1:=(blk_cell b1 1).trans rfl
  have s2:=(blk_cell b1 2).trans rfl
  have t0:=(blk_cell b2 0).trans rfl
  have t1:=(blk_cell b2 1).trans rfl
  have t2:=(blk_cell b2 2).trans rfl
  have t3:=(blk_cell b2 3).trans rfl
  have r0:=(blk_cell b3 0).trans rfl
  have f0:=blk_frozen b3 0
  have r1:=(blk_cell b3 1).trans rfl
  have f1:=blk_frozen b3 1
  have r2:=(blk_cell b3 2).trans rfl
  have f2:=blk_frozen b3 2
  have r3:=(blk_cell b3 3).trans rfl
  have f3:=blk_frozen b3 3
  have r4:=(blk_cell b3 4).trans rfl
  have f4:=blk_frozen b3 4
  have r5:=(blk_cell b3 5).trans rfl
  have f5:=blk_frozen b3 5
  have r6:=(blk_cell b3 6).trans rfl
  have f6:=blk_frozen b3 6
  have r7:=(blk_cell b3 7).trans rfl
  have f7:=blk_frozen b3 7
  have HC1:=Aside0.mk b1
  have HC2:=Aside0.mk b2
  have HC3:=Aside0.mk b3
  clear b1 b2 b3
  have hBel:=fun (v0 v1 v2 v3 v4 v5 v6 v7:Value)=>Aside0.mk ((((((((HB2.out.setCell (p:=⟨w.heap.size+1+1,0,none⟩) (by show w.heap.size≤w.heap.size+1+1;omega) v0).setCell (p:=⟨w.heap.size+1+1,1,none⟩) (by show w.heap.size≤w.heap.size+1+1;omega) v1).setCell (p:=⟨w.heap.size+1+1,2,none⟩) (by show w.heap.size≤w.heap.size+1+1;omega) v2).setCell (p:=⟨w.heap.size+1+1,3,none⟩) (by show w.heap.size≤w.heap.size+1+1;omega) v3).setCell (p:=⟨w.heap.size+1+1,4,none⟩) (by show w.heap.size≤w.heap.size+1+1;omega) v4).setCell (p:=⟨w.heap.size+1+1,5,none⟩) (by show w.heap.size≤w.heap.size+1+1;omega) v5).setCell (p:=⟨w.heap.size+1+1,6,none⟩) (by show w.heap.size≤w.heap.size+1+1;omega) v6).setCell (p:=⟨w.heap.size+1+1,7,none⟩) (by show w.heap.size≤w.heap.size+1+1;omega) v7)
  clear hBel
  go_wp2_with (first|(go_at_call 65;refine (lies_any _ _ _ _).mono ?_;rintro e w3 ⟨rfl,⟨nd,rfl⟩⟩;rw [hb];have HB3:Aside0 (Below w.heap.size w (w2.drewN nd)):=⟨pw_below_drewN HB2.out nd⟩)|(go_at_call 77;refine (heard_isNote.calls k At ct ts Ag cg gs lost wrong _ _ (Kd.C_below HBK.out.t HB3.out) HCT.out (Kd.C_below HBK.out.g HB3.out) HCG.out HNN.out).mono ?_;rintro e w4 ⟨rfl,hb4⟩;have d1:=(hb4.block (w.heap.size) (Array.getElem?_eq_some_iff.1 HC1.out).1).trans HC1.out;have d2:=(hb4.block (w.heap.size+1) (Array.getElem?_eq_some_iff.1 HC2.out).1).trans HC2.out;have d3:=(hb4.block (w.heap.size+1+1) (Array.getElem?_eq_some_iff.1 HC3.out).1).trans HC3.out;clear s0 s1 s2 t0 t1 t2 t3 r0 f0 r1 f1 r2 f2 r3 f3 r4 f4 r5 f5 r6 f6 r7 f7;have s0:=(blk_cell d1 0).trans rfl;have s1:=(blk_cell d1 1).trans rfl;have s2:=(blk_cell d1 2).trans rfl;have t0:=(blk_cell d2 0).trans rfl;have t1:=(blk_cell d2 1).trans rfl;have t2:=(blk_cell d2 2).trans rfl;have t3:=(blk_cell d2 3).trans rfl;have r0:=(blk_cell d3 0).trans rfl;have f0:=blk_frozen d3 0;have r1:=(blk_cell d3 1).trans rfl;have f1:=blk_frozen d3 1;have r2:=(blk_cell d3 2).trans rfl;have f2:=blk_frozen d3 2;have r3:=(blk_cell d3 3).trans rfl;have f3:=blk_frozen d3 3;have r4:=(blk_cell d3 4).trans rfl;have f4:=blk_frozen d3 4;have r5:=(blk_cell d3 5).trans rfl;have f5:=blk_frozen d3 5;have r6:=(blk_cell d3 6).trans rfl;have f6:=blk_frozen d3 6;have r7:=(blk_cell d3 7).trans rfl;have f7:=blk_frozen d3 7;have HB4:=Aside0.mk (HB3.out.trans (hb4.mono HB3.out.size));clear d1 d2 d3 hb4))
  refine bodyPost_ret (v:=.tuple #[.agg #[.int .i64 g,.slice Af fs.length cf,.slice Ap ps.length cp,.int .i64 piece,.slice At ts.length ct,.slice Ag gs.length cg,.int .i64 lost,.int .i64 wrong],.int .i64 0]) (by simp [results,Tryd.results58,go_sem,r0,r1,r2,r3,r4,r5,r6,r7]) rfl ⟨rfl,((((((((HB4.out.setCell (p:=⟨w.heap.size+1+1,0,none⟩) (by show w.heap.size≤w.heap.size+1+1;omega) _).setCell (p:=⟨w.heap.size+1+1,1,none⟩) (by show w.heap.size≤w.heap.size+1+1;omega) _).setCell (p:=⟨w.heap.size+1+1,2,none⟩) (by show w.heap.size≤w.heap.size+1+1;omega) _).setCell (p:=⟨w.heap.size+1+1,3,none⟩) (by show w.heap.size≤w.heap.size+1+1;omega) _).setCell (p:=⟨w.heap.size+1+1,4,none⟩) (by show w.heap.size≤w.heap.size+1+1;omega) _).setCell (p:=⟨w.heap.size+1+1,5,none⟩) (by show w.heap.size≤w.heap.size+1+1;omega) _).setCell (p:=⟨w.heap.size+1+1,6,none⟩) (by show w.heap.size≤w.heap.size+1+1;omega) _).setCell (p:=⟨w.heap.size+1+1,7,none⟩) (by show w.heap.size≤w.heap.size+1+1;omega) _)⟩
end
end Go.Proofs.YthnilelmhpmanaaDoor.PHeardFits
end
section
namespace Go.Proofs.YthnilelmhpmanaaDoor.PHeardFits
open Go.RowKit Go.Proofs.YthnilelmhpmanaaDoorW.PrintWords Go.Proofs.YthnilelmhpmanaaDoorW.PrintLast Go.Proofs.YthnilelmhpmanaaDoorW.PrintMore
open Go.Proofs.YthnilelmhpmanaaDoor.Hm
set_option linter.unusedVariables false
set_option linter.unusedSimpArgs false
theorem eql104 (a b:List Bool) (ha:a.length=24) (hb:b.length=24) (w:World):(binOp .eql 104 (.agg (bvs a)) (.agg (bvs b))).run Tryd.prog w=.ok (.bool (a == b)) w:=by
  obtain ⟨i,hi⟩:=info_of_underlying Tryd.underlying4
  exact run_eql_bools Tryd.underlying104 hi (by kernel_rfl) (by kernel_rfl) Tryd.underlying4 w a b ha (by omega)
theorem index104 (a:List Bool) (ha:a.length=24) (w:World) (j:Nat) (h:j<24):(Instr.index 104 (.agg (bvs a)) (.int .i64 j)).run Tryd.prog w=.ok (.bool (bat a j)) w:=by
  obtain ⟨i,hi⟩:=info_of_underlying Tryd.underlying4
  exact run_index_bools Tryd.underlying104 hi (by kernel_rfl) (by kernel_rfl) w a ha j h
theorem row104:(Tryd.prog.info? 104).map (·.size)=some 24:=by kernel_rfl
set_option maxRecDepth 100000 in
set_option maxHeartbeats 1000000 in
theorem list72 (l:List Bool) (hl:l.length=24) (w:World) :
    Calls Tryd.prog 72 #[.agg (bvs l)] w fun e w'=>∃ v:Value,e=.returned v∧Kd.V (Kd.int .i64) 3 w' w.heap.size (fun k_=>(w.heap.size≤k_)) v (truesB l 0)∧Below w.heap.size w w':=by
  have heq:=eql104 l [false,false,false,false,false,false,false,false,false,false,false,false,false,false,false,false,false,false,false,false,false,false,false,false] hl rfl
  have hix:=index104 l hl
  rw [show bvs [false,false,false,false,false,false,false,false,false,false,false,false,false,false,false,false,false,false,false,false,false,false,false,false]=#[.bool false,.bool false,.bool false,.bool false,.bool false,.bool false,.bool false,.bool false,.bool false,.bool false,.bool false,.bool false,.bool false,.bool false,.bool false,.bool false,.bool false,.bool false,.bool false,.bool false,.bool false,.bool false,.bool false,.bool false] from rfl] at heq
  have hsz:(bvs l).size=24:=by simp [bvs,hl]
  generalize hxs:bvs l=xs at heq hix hsz ⊢
  have HSZ:=Aside0.mk hsz
  have HL:=Aside0.mk hl
  clear hsz hxs hl
  cases hb:(l == [false,false,false,false,false,false,false,false,false,false,false,false,false,false,false,false,false,false,false,false,false,false,false,false]) with
  | true =>
    have HN:=Aside0.mk hb
    go_enter Tryd.func72,Tryd.ntmps72
    go_wp2_with (refine wpList_load_row rfl 104 (.tmp 1) rfl w.heap.size rfl 104 xs (0,0) _ (blk_new w _) Tryd.underlying104 rfl (by rw [HSZ.out];exact row104) ?_)
    go_ret
    exact ⟨_,rfl,by rw [truesB_none l 0 (by rw [HL.out];exact HN.out)];exact Kd.V_nil _ _ _ _ _,(Below.refl _ _).alloc (Nat.le_refl _) _⟩
  | false =>
    go_enter Tryd.func72,Tryd.ntmps72
    go_wp2_with (first|(refine wpList_load_row rfl 104 (.tmp 1) rfl w.heap.size rfl 104 xs (0,0) _ (blk_new w _) Tryd.underlying104 rfl (by rw [HSZ.out];exact row104) ?_))
    have HB0:=Aside0.mk ((Below.refl w.heap.size w).alloc (Nat.le_refl _) (.cells xs 104))
    go_loopg [3,10] 24 (fun gk v3 v10 w'=>∃ (j:Nat),v10=.int .i64 j∧Aside0 (gk+j=24)∧Aside0 (Kd.R (Kd.int .i64) 3 w' w.heap.size (fun _=>True) v3 (truesB (l.take j) 0))∧Aside0 (Below w.heap.size w w'))
    case atStart=>exact ⟨0,rfl,⟨rfl⟩,⟨Kd.R_nil _ _ _ _ _⟩,HB0⟩
    case round =>
      obtain ⟨j,rfl,HJ,HO,HB⟩:=hrel
      have hj:=HJ.out
      by_cases hlt:j<24
      · have hix1:=fun w=>hix w j hlt
        cases hbj:bat l j with
        | true =>
          have HT:=truesB_take l j (by have:=HL.out;omega)
          rw [hbj,if_pos rfl] at HT
          have hT:=Aside0.mk HT
          have HLen:=truesB_len (l.take j) 0
          rw [List.length_take] at HLen
          have hLen:=Aside0.mk HLen
          clear HT HLen hix
          go_wp2_with (first|(at_builtin;refine Kd.R_append (Kd.int .i64) (w0:=w) w.heap.size rfl (.tmp 15) (.tmp 17) 28 3 (.int .i64 0) 8 rfl Tryd.underlying28 info3 rfl (by decide) (by omega) u3 (truesB (l.take j) 0) (j:Int) [.int .i64 (j:Int)] (fun _=>True) (fun _=>False) rfl rfl ?aP (fun _ hk=>hk.elim) ?aF ?aO ?aB ?aS ?aL ?_;(case aP=>exact rfl);(case aB=>exact HB.out);(case aF=>exact (fun _ _=>trivial));(case aO=>exact HO.out);(case aS=>exact HB.out.size);(case aL=>have:=hLen.out;omega);intro v4 w6 ho hb hg hat;rw [← hT.out] at ho;have HO2:=Aside0.mk ho;have HB2:=Aside0.mk hb;clear ho hb hg hat))
          go_roundg (gk - 1)
          case measure=>omega
          case rel=>exact ⟨j+1,by go_num,⟨by omega⟩,HO2,HB2⟩
        | false =>
          have HT:=truesB_take l j (by have:=HL.out;omega)
          rw [hbj,if_neg (by simp),List.append_nil] at HT
          have hT:=Aside0.mk HT
          clear HT hix
          go_wp2_with fail
          go_roundg (gk - 1)
          case measure=>omega
          case rel=>exact ⟨j+1,by go_num,⟨by omega⟩,by rw [hT.out];exact HO,HB⟩
      · have HO':=HO.out
        rw [List.take_of_length_le (by have:=HL.out;omega)] at HO'
        obtain ⟨A,c,hv⟩:=Kd.R_slice HO'
        rename_i v3 _ _ _ _
        subst hv
        obtain ⟨-,hlc,hF⟩:=F_of_R HO'
        have HF:=Aside0.mk hF
        clear HO' HO hF hix
        go_wp2_with fail
        go_ret
        exact ⟨_,rfl,Kd.V_mk (Nat.le_refl _) HF.out,HB.out⟩
end Go.Proofs.YthnilelmhpmanaaDoor.PHeardFits
end
