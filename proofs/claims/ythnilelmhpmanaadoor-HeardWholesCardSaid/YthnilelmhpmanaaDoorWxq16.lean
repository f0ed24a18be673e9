/- A part of the proof: contracts and laws. -/
import Derived.Maps.OwnIn
import Derived.Test.YthnilelmhpmanaaDoorWxq14
import Derived.Test.YthnilelmhpmanaaDoorWxq15
section
namespace Go.Proofs.YthnilelmhpmanaaDoor.PHeardFits
open Go.RowKit Go.Shelf Go.Proofs.YthnilelmhpmanaaDoorW.PrintWords Go.Proofs.YthnilelmhpmanaaDoorW.PrintLast Go.Proofs.YthnilelmhpmanaaDoorW.PrintMore
open Go.Proofs.YthnilelmhpmanaaDoor.Hm Go.Proofs.YthnilelmhpmanaaDoor.Rr
attribute [local go_sem] Oper.semAt_some max2_int min2_int max_two min_two max_three min_three max_four min_four
set_option linter.unusedVariables false
set_option linter.unusedSimpArgs false
/-- The fewest wrong notes from a note and stroke on; r: how many notes are left. -/
def fromR (offT:Nat→Nat→Int) (may:Nat→Nat→Bool) (pl last:Nat):Nat→Nat→Nat→Int
  | 0,_,_=>1000
  | r+1,i,j =>
    if (if may i j then offT i j else 1000)<1000∧0<r then mn 1000 ((if may i j then offT i j else 1000)+(behL pl (j+1) (last - j)).foldl (fun a k=>mn a (fromR offT may pl last r (i+1) k.val)) 1000)
    else (if may i j then offT i j else 1000)
theorem mn_le {a b:Int}:mn a b≤a:=by unfold mn;split <;> omega
theorem mn_ge {a b c:Int} (h:c≤a) (h':c≤b):c≤mn a b:=by unfold mn;split <;> omega
theorem foldl_mn {α:Type} (f:α→Int) (hf:∀ x,0≤f x):∀ (l:List α) (a:Int),0≤a→a≤1000→0≤l.foldl (fun a k=>mn a (f k)) a∧l.foldl (fun a k=>mn a (f k)) a≤1000
  | [],a,h,h'=>⟨h,h'⟩
  | x :: l,a,h,h'=>foldl_mn f hf l (mn a (f x)) (mn_ge h (hf x)) (Int.le_trans mn_le h')
theorem fromR_bd {offT:Nat→Nat→Int} {may:Nat→Nat→Bool} {pl last:Nat} (ho:∀ i j,0≤offT i j∧offT i j≤1000):∀ r i j,0≤fromR offT may pl last r i j∧fromR offT may pl last r i j≤1000
  | 0,_,_=>by simp [fromR]
  | r+1,i,j=>by
    have hb:=foldl_mn (fun k:Fin pl=>fromR offT may pl last r (i+1) k.val) (fun k=>(fromR_bd ho r (i+1) k.val).1) (behL pl (j+1) (last - j)) 1000 (by omega) (by omega)
    have h1:=ho i j
    have h2:0≤(if may i j then offT i j else 1000)∧(if may i j then offT i j else 1000)≤1000:=by split <;> omega
    unfold fromR
    generalize (if may i j then offT i j else 1000)=n at h2 ⊢
    split
    · exact ⟨mn_ge (by omega) (by omega),mn_le⟩
    · exact h2
/-- What the memory holds. -/
def GoodR (offT:Nat→Nat→Int) (may:Nat→Nat→Bool) (m pl last:Nat) (M:SM):Prop:=∀ c d v,mget M c d=some v→∃ i j:Nat,c=i∧d=j∧v=.int .i64 (fromR offT may pl last (m - i) i j)
theorem GoodR.put {offT:Nat→Nat→Int} {may:Nat→Nat→Bool} {m pl last:Nat} {M:SM} (h:GoodR offT may m pl last M) (i j:Nat) {v:Value} (hv:v=.int .i64 (fromR offT may pl last (m - i) i j)):GoodR offT may m pl last (mput M i j v):=by
  intro c d u hu
  rw [mget_put] at hu
  split at hu
  · rename_i hc
    simp only [Option.some.injEq] at hu
    exact ⟨i,j,hc.1,hc.2,by rw [← hu,hv]⟩
  · exact h c d u hu
section
variable (g:Int) (Af:Option Addr) (cf:Nat) (fs:List S85) (ad:Addr) (cp:Nat) (ps:List S62) (pn:Nat) (At:Option Addr) (ct:Nat) (ts:List Int) (Ag:Option Addr) (cg:Nat) (gs:List Int) (lost wrong:Int) (offT:Nat→Nat→Int) (may:Nat→Nat→Bool) (last:Nat) (p1 p2 p3 p4 p5 B:Nat) (wB:World)
structure RdSt_all (w:World):Prop where
  h1:w.cell? ⟨p1,0,none⟩=some (.map (some B))
  h2:w.cell? ⟨p2,0,none⟩=some (.int .i64 g)∧w.cell? ⟨p2,1,none⟩=some (.slice Af fs.length cf)∧w.cell? ⟨p2,2,none⟩=some (.slice (some ad) ps.length cp)∧w.cell? ⟨p2,3,none⟩=some (.int .i64 pn)∧w.cell? ⟨p2,4,none⟩=some (.slice At ts.length ct)∧w.cell? ⟨p2,5,none⟩=some (.slice Ag gs.length cg)∧w.cell? ⟨p2,6,none⟩=some (.int .i64 lost)∧w.cell? ⟨p2,7,none⟩=some (.int .i64 wrong)
  h3:w.cell? ⟨p3,0,none⟩=some (.func (.func 126) #[] #[])
  h4:w.cell? ⟨p4,0,none⟩=some (.int .i64 (last:Nat))
  h5:w.cell? ⟨p5,0,none⟩=some (.func (.func 128) #[] #[.pointer (some ⟨p1,0,none⟩),.pointer (some ⟨p2,0,none⟩),.pointer (some ⟨p3,0,none⟩),.pointer (some ⟨p4,0,none⟩),.pointer (some ⟨p5,0,none⟩)])
  hb:Below wB.heap.size wB w
  hB:wB.heap.size≤B
  hm:∃ M,MapIs w B M∧GoodR offT may ts.length (ptones ps pn).length last M
variable {g Af cf fs ad cp ps pn At ct ts Ag cg gs lost wrong offT may last p1 p2 p3 p4 p5 B wB}
theorem RdSt_all.below {w w':World} (h:RdSt_all g Af cf fs ad cp ps pn At ct ts Ag cg gs lost wrong offT may last p1 p2 p3 p4 p5 B wB w) (hb:Below w.heap.size w w'):RdSt_all g Af cf fs ad cp ps pn At ct ts Ag cg gs lost wrong offT may last p1 p2 p3 p4 p5 B wB w' :=
  ⟨kc hb h.h1,by obtain ⟨s0,s1,s2,s3,s4,s5,s6,s7⟩:=h.h2;exact ⟨kc hb s0,kc hb s1,kc hb s2,kc hb s3,kc hb s4,kc hb s5,kc hb s6,kc hb s7⟩,kc hb h.h3,kc hb h.h4,kc hb h.h5,h.hb.trans (hb.mono h.hb.size),h.hB,by obtain ⟨M,hM,hG⟩:=h.hm;exact ⟨M,hM.below hb,hG⟩⟩
theorem RdSt_all.grown {w w':World} (h:RdSt_all g Af cf fs ad cp ps pn At ct ts Ag cg gs lost wrong offT may last p1 p2 p3 p4 p5 B wB w) (hg:w.grownBy w' (some B)) (hm:∃ M,MapIs w' B M∧GoodR offT may ts.length (ptones ps pn).length last M):RdSt_all g Af cf fs ad cp ps pn At ct ts Ag cg gs lost wrong offT may last p1 p2 p3 p4 p5 B wB w':=by
  obtain ⟨M,hM,hG⟩:=h.hm
  have k:∀ {a:Addr} {v:Value},w.cell? a=some v→w'.cell? a=some v:=fun e=>hg.cell e (by simpa using cell_ne_map e hM)
  obtain ⟨s0,s1,s2,s3,s4,s5,s6,s7⟩:=h.h2
  exact ⟨k h.h1,⟨k s0,k s1,k s2,k s3,k s4,k s5,k s6,k s7⟩,k h.h3,k h.h4,k h.h5,h.hb.grown hg h.hb.size (by rintro q hq;cases hq;exact h.hB),h.hB,hm⟩
set_option maxRecDepth 100000 in
set_option maxHeartbeats 1000000 in
theorem reads1_all_known (hp:pn<ps.length) (hm:ts.length≤1000) (hpl:(ptones ps pn).length≤1000) (hla:last≤1000) (ho:∀ i j,0≤offT i j∧offT i j≤1000)
    (hoff:∀ w,Below wB.heap.size wB w→∀ i j:Nat,i<ts.length→j<(ptones ps pn).length→Calls Tryd.prog 129 #[bkv g Af cf fs (some ad) cp ps pn At ct ts Ag cg gs lost wrong,.agg #[.int .i64 i,.int .i64 j]] w fun e w'=>e=.returned (.int .i64 (offT i j))∧Below w.heap.size w w')
    (hmay:∀ w,Below wB.heap.size wB w→∀ i j:Nat,i<ts.length→j<(ptones ps pn).length→Calls Tryd.prog 126 #[.agg #[.int .i64 i,.int .i64 j]] w fun e w'=>e=.returned (.bool (may i j))∧Below w.heap.size w w')
    (r i j:Nat) (x y:Int) (M:SM) (v:Value) (w:World) (hx:x=i) (hy:y=j) (hr:i+r+1=ts.length) (hj:j<(ptones ps pn).length) (hS:RdSt_all g Af cf fs ad cp ps pn At ct ts Ag cg gs lost wrong offT may last p1 p2 p3 p4 p5 B wB w) (hM:MapIs w B M) (hG:GoodR offT may ts.length (ptones ps pn).length last M) (hg:mget M i j=some v) :
    Calls Tryd.prog 128 #[.agg #[.int .i64 x,.int .i64 y],.pointer (some ⟨p1,0,none⟩),.pointer (some ⟨p2,0,none⟩),.pointer (some ⟨p3,0,none⟩),.pointer (some ⟨p4,0,none⟩),.pointer (some ⟨p5,0,none⟩)] w fun e w' =>
      e=.returned (.int .i64 (fromR offT may (ptones ps pn).length last (r+1) i j))∧w.grownBy w' (some B)∧RdSt_all g Af cf fs ad cp ps pn At ct ts Ag cg gs lost wrong offT may last p1 p2 p3 p4 p5 B wB w':=by
  subst hx
  subst hy
  have e1:=hS.h1
  have l1:=World.block_lt_of_cell? w _ e1
  simp only at l1
  obtain ⟨i',j',hi',hj',rfl⟩:=hG _ _ _ hg
  obtain rfl:i'=i:=by omega
  obtain rfl:j'=j:=by omega
  obtain ⟨N,hN⟩:∃ N,fromR offT may (ptones ps pn).length last (ts.length - i') i' j'=N:=⟨_,rfl⟩
  rw [hN] at hg
  have HN:=Aside0.mk hN
  have HG:=Aside0.mk hg
  have HM:=Aside0.mk hM
  have HS:=Aside0.mk hS
  clear hg hM hG hS hN hoff hmay ho
  go_enter Tryd.func128,Tryd.ntmps128
  go_wp2_with (first|(at_lookup;refine wp_lookup_spot2 key107 Tryd.underlying157 rfl _ _ rfl B rfl _ _ rfl (HM.out.alloc _) _ (zero3 _) (.int .i64 N) (by rw [HG.out];rfl) true (by rw [HG.out];rfl) ?_))
  go_ret
  exact ⟨ret_i64 (by rw [← HN.out,show ts.length - i'=r+1 from by omega]),World.grownBy_alloc _ _ _,HS.out.below (below_alloc (Below.refl _ w) _)⟩
set_option maxRecDepth 100000 in
set_option maxHeartbeats 1000000 in
theorem reads1_all_no (hp:pn<ps.length) (hm:ts.length≤1000) (hpl:(ptones ps pn).length≤1000) (hla:last≤1000) (ho:∀ i j,0≤offT i j∧offT i j≤1000)
    (hoff:∀ w,Below wB.heap.size wB w→∀ i j:Nat,i<ts.length→j<(ptones ps pn).length→Calls Tryd.prog 129 #[bkv g Af cf fs (some ad) cp ps pn At ct ts Ag cg gs lost wrong,.agg #[.int .i64 i,.int .i64 j]] w fun e w'=>e=.returned (.int .i64 (offT i j))∧Below w.heap.size w w')
    (hmay:∀ w,Below wB.heap.size wB w→∀ i j:Nat,i<ts.length→j<(ptones ps pn).length→Calls Tryd.prog 126 #[.agg #[.int .i64 i,.int .i64 j]] w fun e w'=>e=.returned (.bool (may i j))∧Below w.heap.size w w')
    (r i j:Nat) (x y:Int) (M:SM) (w:World) (hx:x=i) (hy:y=j) (hr:i+r+1=ts.length) (hj:j<(ptones ps pn).length) (hS:RdSt_all g Af cf fs ad cp ps pn At ct ts Ag cg gs lost wrong offT may last p1 p2 p3 p4 p5 B wB w) (hM:MapIs w B M) (hG:GoodR offT may ts.length (ptones ps pn).length last M) (hg:mget M i j=none) (hn:may i j=false) :
    Calls Tryd.prog 128 #[.agg #[.int .i64 x,.int .i64 y],.pointer (some ⟨p1,0,none⟩),.pointer (some ⟨p2,0,none⟩),.pointer (some ⟨p3,0,none⟩),.pointer (some ⟨p4,0,none⟩),.pointer (some ⟨p5,0,none⟩)] w fun e w' =>
      e=.returned (.int .i64 (fromR offT may (ptones ps pn).length last (r+1) i j))∧w.grownBy w' (some B)∧RdSt_all g Af cf fs ad cp ps pn At ct ts Ag cg gs lost wrong offT may last p1 p2 p3 p4 p5 B wB w':=by
  have HV:Aside0 (fromR offT may (ptones ps pn).length last (r+1) i j=1000):=⟨by unfold fromR;rw [hn];simp⟩
  subst hx
  subst hy
  have hi:i<ts.length:=by omega
  have e1:=hS.h1
  have e2:=hS.h2
  have e3:=hS.h3
  have e4:=hS.h4
  have e5:=hS.h5
  have l1:=World.block_lt_of_cell? w _ e1
  have l2:=World.block_lt_of_cell? w _ e2.1
  have l3:=World.block_lt_of_cell? w _ e3
  have l4:=World.block_lt_of_cell? w _ e4
  have l5:=World.block_lt_of_cell? w _ e5
  simp only at l1 l2 l3 l4 l5
  obtain ⟨s0,s1,s2,s3,s4,s5,s6,s7⟩:=e2
  have HG:=Aside0.mk hg
  have HM:=Aside0.mk hM
  have HS:=Aside0.mk hS
  have HGG:=Aside0.mk hG
  have HOFF:=Aside0.mk hoff
  have HMAY:=Aside0.mk hmay
  have HO:=Aside0.mk ho
  have hbd:=ho i j
  have HR:=Aside0.mk (show ts.length - i=r+1 by omega)
  have hwi:IntKind.i64.wrap ((i:Int)+1)=(i:Int)+1:=IntWalk.i64_in _ (by omega)
  clear hg hM hG hS hoff hmay ho
  go_enter Tryd.func128,Tryd.ntmps128
  go_wp2_with (first|(at_lookup;refine wp_lookup_spot2 key107 Tryd.underlying157 rfl _ _ rfl B rfl _ _ rfl (HM.out.alloc _) _ (zero3 _) (.int .i64 0) (by rw [HG.out];rfl) false (by rw [HG.out];rfl) ?_)|(go_at_call 129;refine (HOFF.out _ (HS.out.hb.trans ((below_alloc (Below.refl _ w) _).mono HS.out.hb.size)) i j hi hj).mono ?_;rintro e w2 ⟨rfl,hb2⟩;have hB2:=(below_alloc (Below.refl _ w) (Obj.cells #[Value.int IntKind.i64 ↑i,Value.int IntKind.i64 ↑j] 107)).trans (hb2.mono (by simp));have x0:w2.cell? ⟨w.heap.size,0,none⟩=some (.int .i64 i):=kc hb2 (by go_simp);have x1:w2.cell? ⟨w.heap.size,1,none⟩=some (.int .i64 j):=kc hb2 (by go_simp);replace e1:=kc hB2 e1;replace s0:=kc hB2 s0;replace s1:=kc hB2 s1;replace s2:=kc hB2 s2;replace s3:=kc hB2 s3;replace s4:=kc hB2 s4;replace s5:=kc hB2 s5;replace s6:=kc hB2 s6;replace s7:=kc hB2 s7;replace e3:=kc hB2 e3;replace e4:=kc hB2 e4;replace e5:=kc hB2 e5;have HB2:=Aside0.mk hB2;clear hb2 hB2 l1 l2 l3 l4 l5)|(go_at_call 126;refine (HMAY.out _ (HS.out.hb.trans (HB2.out.mono HS.out.hb.size)) i j hi hj).mono ?_;rintro e w3 ⟨rfl,hb3⟩;replace x0:=kc hb3 x0;replace x1:=kc hb3 x1;replace e1:=kc hb3 e1;replace s0:=kc hb3 s0;replace s1:=kc hb3 s1;replace s2:=kc hb3 s2;replace s3:=kc hb3 s3;replace s4:=kc hb3 s4;replace s5:=kc hb3 s5;replace s6:=kc hb3 s6;replace s7:=kc hb3 s7;replace e3:=kc hb3 e3;replace e4:=kc hb3 e4;replace e5:=kc hb3 e5;have HB3:=Aside0.mk (HB2.out.trans (hb3.mono HB2.out.size));clear hb3 HB2;have l1:=World.block_lt_of_cell? w3 _ e1;have l2:=World.block_lt_of_cell? w3 _ s0;have l3:=World.block_lt_of_cell? w3 _ e3;have l4:=World.block_lt_of_cell? w3 _ e4;have l5:=World.block_lt_of_cell? w3 _ e5;have l6:=World.block_lt_of_cell? w3 _ x0;simp only at l1 l2 l3 l4 l5 l6)|(at_mapUpdate;refine wp_update_spot key107 Tryd.underlying157 rfl _ _ _ rfl B rfl _ _ rfl _ rfl (HM.out.below HB3.out) ?_;intro w9 hM9 hG9 hS9))
  go_ret
  exact ⟨ret_i64 HV.out.symm,(grown_of_below HB3.out (some B)).trans hG9,(HS.out.below HB3.out).grown hG9 ⟨_,hM9,HGG.out.put i j (congrArg (Value.int IntKind.i64) (by rw [HR.out];exact HV.out.symm))⟩⟩
set_option maxRecDepth 100000 in
set_option maxHeartbeats 1000000 in
theorem reads1_all_leaf (hp:pn<ps.length) (hm:ts.length≤1000) (hpl:(ptones ps pn).length≤1000) (hla:last≤1000) (ho:∀ i j,0≤offT i j∧offT i j≤1000)
    (hoff:∀ w,Below wB.heap.size wB w→∀ i j:Nat,i<ts.length→j<(ptones ps pn).length→Calls Tryd.prog 129 #[bkv g Af cf fs (some ad) cp ps pn At ct ts Ag cg gs lost wrong,.agg #[.int .i64 i,.int .i64 j]] w fun e w'=>e=.returned (.int .i64 (offT i j))∧Below w.heap.size w w')
    (hmay:∀ w,Below wB.heap.size wB w→∀ i j:Nat,i<ts.length→j<(ptones ps pn).length→Calls Tryd.prog 126 #[.agg #[.int .i64 i,.int .i64 j]] w fun e w'=>e=.returned (.bool (may i j))∧Below w.heap.size w w')
    (r i j:Nat) (x y:Int) (M:SM) (w:World) (hx:x=i) (hy:y=j) (hr:i+r+1=ts.length) (hj:j<(ptones ps pn).length) (hS:RdSt_all g Af cf fs ad cp ps pn At ct ts Ag cg gs lost wrong offT may last p1 p2 p3 p4 p5 B wB w) (hM:MapIs w B M) (hG:GoodR offT may ts.length (ptones ps pn).length last M) (hg:mget M i j=none) (hn:may i j=true) (hn2:offT i j=1000∨offT i j<1000∧r=0) :
    Calls Tryd.prog 128 #[.agg #[.int .i64 x,.int .i64 y],.pointer (some ⟨p1,0,none⟩),.pointer (some ⟨p2,0,none⟩),.pointer (some ⟨p3,0,none⟩),.pointer (some ⟨p4,0,none⟩),.pointer (some ⟨p5,0,none⟩)] w fun e w' =>
      e=.returned (.int .i64 (fromR offT may (ptones ps pn).length last (r+1) i j))∧w.grownBy w' (some B)∧RdSt_all g Af cf fs ad cp ps pn At ct ts Ag cg gs lost wrong offT may last p1 p2 p3 p4 p5 B wB w':=by
  have HV:Aside0 (fromR offT may (ptones ps pn).length last (r+1) i j=offT i j):=⟨by
    unfold fromR;rw [hn,if_pos rfl,if_neg];rintro ⟨h1,h2⟩;omega⟩
  obtain ⟨N,hN⟩:∃ N,offT i j=N:=⟨_,rfl⟩
  subst hx
  subst hy
  have hi:i<ts.length:=by omega
  have e1:=hS.h1
  have e2:=hS.h2
  have e3:=hS.h3
  have e4:=hS.h4
  have e5:=hS.h5
  have l1:=World.block_lt_of_cell? w _ e1
  have l2:=World.block_lt_of_cell? w _ e2.1
  have l3:=World.block_lt_of_cell? w _ e3
  have l4:=World.block_lt_of_cell? w _ e4
  have l5:=World.block_lt_of_cell? w _ e5
  simp only at l1 l2 l3 l4 l5
  obtain ⟨s0,s1,s2,s3,s4,s5,s6,s7⟩:=e2
  have HG:=Aside0.mk hg
  have HM:=Aside0.mk hM
  have HS:=Aside0.mk hS
  have HGG:=Aside0.mk hG
  have HOFF:=Aside0.mk hoff
  have HMAY:=Aside0.mk hmay
  have HO:=Aside0.mk ho
  have hbd:=ho i j
  have HR:=Aside0.mk (show ts.length - i=r+1 by omega)
  have hwi:IntKind.i64.wrap ((i:Int)+1)=(i:Int)+1:=IntWalk.i64_in _ (by omega)
  clear hg hM hG hS hoff hmay ho
  rw [hN] at HV hbd hn2
  rcases hn2 with rfl | ⟨hlt,rfl⟩
  · go_enter Tryd.func128,Tryd.ntmps128
    go_wp2_with (first|(at_lookup;refine wp_lookup_spot2 key107 Tryd.underlying157 rfl _ _ rfl B rfl _ _ rfl (HM.out.alloc _) _ (zero3 _) (.int .i64 0) (by rw [HG.out];rfl) false (by rw [HG.out];rfl) ?_)|(go_at_call 129;refine (HOFF.out _ (HS.out.hb.trans ((below_alloc (Below.refl _ w) _).mono HS.out.hb.size)) i j hi hj).mono ?_;rintro e w2 ⟨rfl,hb2⟩;have hB2:=(below_alloc (Below.refl _ w) (Obj.cells #[Value.int IntKind.i64 ↑i,Value.int IntKind.i64 ↑j] 107)).trans (hb2.mono (by simp));have x0:w2.cell? ⟨w.heap.size,0,none⟩=some (.int .i64 i):=kc hb2 (by go_simp);have x1:w2.cell? ⟨w.heap.size,1,none⟩=some (.int .i64 j):=kc hb2 (by go_simp);replace e1:=kc hB2 e1;replace s0:=kc hB2 s0;replace s1:=kc hB2 s1;replace s2:=kc hB2 s2;replace s3:=kc hB2 s3;replace s4:=kc hB2 s4;replace s5:=kc hB2 s5;replace s6:=kc hB2 s6;replace s7:=kc hB2 s7;replace e3:=kc hB2 e3;replace e4:=kc hB2 e4;replace e5:=kc hB2 e5;have HB2:=Aside0.mk hB2;clear hb2 hB2 l1 l2 l3 l4 l5)|(go_at_call 126;refine (HMAY.out _ (HS.out.hb.trans (HB2.out.mono HS.out.hb.size)) i j hi hj).mono ?_;rintro e w3 ⟨rfl,hb3⟩;replace x0:=kc hb3 x0;replace x1:=kc hb3 x1;replace e1:=kc hb3 e1;replace s0:=kc hb3 s0;replace s1:=kc hb3 s1;replace s2:=kc hb3 s2;replace s3:=kc hb3 s3;replace s4:=kc hb3 s4;replace s5:=kc hb3 s5;replace s6:=kc hb3 s6;replace s7:=kc hb3 s7;replace e3:=kc hb3 e3;replace e4:=kc hb3 e4;replace e5:=kc hb3 e5;have HB3:=Aside0.mk (HB2.out.trans (hb3.mono HB2.out.size));clear hb3 HB2;have l1:=World.block_lt_of_cell? w3 _ e1;have l2:=World.block_lt_of_cell? w3 _ s0;have l3:=World.block_lt_of_cell? w3 _ e3;have l4:=World.block_lt_of_cell? w3 _ e4;have l5:=World.block_lt_of_cell? w3 _ e5;have l6:=World.block_lt_of_cell? w3 _ x0;simp only at l1 l2 l3 l4 l5 l6)|(at_mapUpdate;refine wp_update_spot key107 Tryd.underlying157 rfl _ _ _ rfl B rfl _ _ rfl _ rfl (HM.out.below HB3.out) ?_;intro w9 hM9 hG9 hS9))
    go_ret
    exact ⟨ret_i64 HV.out.symm,(grown_of_below HB3.out (some B)).trans hG9,(HS.out.below HB3.out).grown hG9 ⟨_,hM9,HGG.out.put i j (congrArg (Value.int IntKind.i64) (by rw [HR.out];exact HV.out.symm))⟩⟩
  · have hd1:=decide_eq_true hlt
    go_enter Tryd.func128,Tryd.ntmps128
    go_wp2_with (first|(at_lookup;refine wp_lookup_spot2 key107 Tryd.underlying157 rfl _ _ rfl B rfl _ _ rfl (HM.out.alloc _) _ (zero3 _) (.int .i64 0) (by rw [HG.out];rfl) false (by rw [HG.out];rfl) ?_)|(go_at_call 129;refine (HOFF.out _ (HS.out.hb.trans ((below_alloc (Below.refl _ w) _).mono HS.out.hb.size)) i j hi hj).mono ?_;rintro e w2 ⟨rfl,hb2⟩;have hB2:=(below_alloc (Below.refl _ w) (Obj.cells #[Value.int IntKind.i64 ↑i,Value.int IntKind.i64 ↑j] 107)).trans (hb2.mono (by simp));have x0:w2.cell? ⟨w.heap.size,0,none⟩=some (.int .i64 i):=kc hb2 (by go_simp);have x1:w2.cell? ⟨w.heap.size,1,none⟩=some (.int .i64 j):=kc hb2 (by go_simp);replace e1:=kc hB2 e1;replace s0:=kc hB2 s0;replace s1:=kc hB2 s1;replace s2:=kc hB2 s2;replace s3:=kc hB2 s3;replace s4:=kc hB2 s4;replace s5:=kc hB2 s5;replace s6:=kc hB2 s6;replace s7:=kc hB2 s7;replace e3:=kc hB2 e3;replace e4:=kc hB2 e4;replace e5:=kc hB2 e5;have HB2:=Aside0.mk hB2;clear hb2 hB2 l1 l2 l3 l4 l5)|(go_at_call 126;refine (HMAY.out _ (HS.out.hb.trans (HB2.out.mono HS.out.hb.size)) i j hi hj).mono ?_;rintro e w3 ⟨rfl,hb3⟩;replace x0:=kc hb3 x0;replace x1:=kc hb3 x1;replace e1:=kc hb3 e1;replace s0:=kc hb3 s0;replace s1:=kc hb3 s1;replace s2:=kc hb3 s2;replace s3:=kc hb3 s3;replace s4:=kc hb3 s4;replace s5:=kc hb3 s5;replace s6:=kc hb3 s6;replace s7:=kc hb3 s7;replace e3:=kc hb3 e3;replace e4:=kc hb3 e4;replace e5:=kc hb3 e5;have HB3:=Aside0.mk (HB2.out.trans (hb3.mono HB2.out.size));clear hb3 HB2;have l1:=World.block_lt_of_cell? w3 _ e1;have l2:=World.block_lt_of_cell? w3 _ s0;have l3:=World.block_lt_of_cell? w3 _ e3;have l4:=World.block_lt_of_cell? w3 _ e4;have l5:=World.block_lt_of_cell? w3 _ e5;have l6:=World.block_lt_of_cell? w3 _ x0;simp only at l1 l2 l3 l4 l5 l6)|(at_mapUpdate;refine wp_update_spot key107 Tryd.underlying157 rfl _ _ _ rfl B rfl _ _ rfl _ rfl (HM.out.below HB3.out) ?_;intro w9 hM9 hG9 hS9))
    go_ret
    exact ⟨ret_i64 HV.out.symm,(grown_of_below HB3.out (some B)).trans hG9,(HS.out.below HB3.out).grown hG9 ⟨_,hM9,HGG.out.put i j (congrArg (Value.int IntKind.i64) (by rw [HR.out];exact HV.out.symm))⟩⟩
set_option maxRecDepth 100000 in
set_option maxHeartbeats 1000000 in
theorem reads1_all_loop (hp:pn<ps.length) (hm:ts.length≤1000) (hpl:(ptones ps pn).length≤1000) (hla:last≤1000) (ho:∀ i j,0≤offT i j∧offT i j≤1000)
    (hoff:∀ w,Below wB.heap.size wB w→∀ i j:Nat,i<ts.length→j<(ptones ps pn).length→Calls Tryd.prog 129 #[bkv g Af cf fs (some ad) cp ps pn At ct ts Ag cg gs lost wrong,.agg #[.int .i64 i,.int .i64 j]] w fun e w'=>e=.returned (.int .i64 (offT i j))∧Below w.heap.size w w')
    (hmay:∀ w,Below wB.heap.size wB w→∀ i j:Nat,i<ts.length→j<(ptones ps pn).length→Calls Tryd.prog 126 #[.agg #[.int .i64 i,.int .i64 j]] w fun e w'=>e=.returned (.bool (may i j))∧Below w.heap.size w w')
    (r i j:Nat) (x y:Int) (M:SM) (w:World) (hx:x=i) (hy:y=j) (hr:i+(r+1)+1=ts.length) (hj:j<(ptones ps pn).length) (hS:RdSt_all g Af cf fs ad cp ps pn At ct ts Ag cg gs lost wrong offT may last p1 p2 p3 p4 p5 B wB w) (hM:MapIs w B M) (hG:GoodR offT may ts.length (ptones ps pn).length last M) (hg:mget M i j=none) (hn:may i j=true) (hn2:offT i j<1000)
    (A1:Option Addr) (c1:Nat) (hx1:wB.cell? ⟨(ad.add (pn * 2)).block,(ad.add (pn * 2)).off+1,none⟩=some (.slice A1 (ptones ps pn).length c1))
    (ih:∀ (j:Nat) (x y:Int) (w:World),x=(i+1:Nat)→y=j→j<(ptones ps pn).length→RdSt_all g Af cf fs ad cp ps pn At ct ts Ag cg gs lost wrong offT may last p1 p2 p3 p4 p5 B wB w →
      Calls Tryd.prog 128 #[.agg #[.int .i64 x,.int .i64 y],.pointer (some ⟨p1,0,none⟩),.pointer (some ⟨p2,0,none⟩),.pointer (some ⟨p3,0,none⟩),.pointer (some ⟨p4,0,none⟩),.pointer (some ⟨p5,0,none⟩)] w fun e w'=>e=.returned (.int .i64 (fromR offT may (ptones ps pn).length last (r+1) (i+1) j))∧w.grownBy w' (some B)∧RdSt_all g Af cf fs ad cp ps pn At ct ts Ag cg gs lost wrong offT may last p1 p2 p3 p4 p5 B wB w') :
    Calls Tryd.prog 128 #[.agg #[.int .i64 x,.int .i64 y],.pointer (some ⟨p1,0,none⟩),.pointer (some ⟨p2,0,none⟩),.pointer (some ⟨p3,0,none⟩),.pointer (some ⟨p4,0,none⟩),.pointer (some ⟨p5,0,none⟩)] w fun e w' =>
      e=.returned (.int .i64 (fromR offT may (ptones ps pn).length last (r+1+1) i j))∧w.grownBy w' (some B)∧RdSt_all g Af cf fs ad cp ps pn At ct ts Ag cg gs lost wrong offT may last p1 p2 p3 p4 p5 B wB w':=by
  have IH:=Aside0.mk ih
  have HX1:=Aside0.mk hx1
  clear ih hx1
  subst hx
  subst hy
  have hi:i<ts.length:=by omega
  have e1:=hS.h1
  have e2:=hS.h2
  have e3:=hS.h3
  have e4:=hS.h4
  have e5:=hS.h5
  have l1:=World.block_lt_of_cell? w _ e1
  have l2:=World.block_lt_of_cell? w _ e2.1
  have l3:=World.block_lt_of_cell? w _ e3
  have l4:=World.block_lt_of_cell? w _ e4
  have l5:=World.block_lt_of_cell? w _ e5
  simp only at l1 l2 l3 l4 l5
  obtain ⟨s0,s1,s2,s3,s4,s5,s6,s7⟩:=e2
  have HG:=Aside0.mk hg
  have HM:=Aside0.mk hM
  have HS:=Aside0.mk hS
  have HGG:=Aside0.mk hG
  have HOFF:=Aside0.mk hoff
  have HMAY:=Aside0.mk hmay
  have HO:=Aside0.mk ho
  have hbd:=ho i j
  have HR:=Aside0.mk (show ts.length - i=r+1+1 by omega)
  have hwi:IntKind.i64.wrap ((i:Int)+1)=(i:Int)+1:=IntWalk.i64_in _ (by omega)
  clear hg hM hG hS hoff hmay ho
  have hd1:decide (offT i j<1000)=true:=decide_eq_true hn2
  have hd2:decide ((i:Int)+1<(ts.length:Int))=true:=decide_eq_true (by omega)
  have HV:Aside0 (fromR offT may (ptones ps pn).length last (r+1+1) i j=mn 1000 (offT i j+(behL (ptones ps pn).length (j+1) (last - j)).foldl (fun a k=>mn a (fromR offT may (ptones ps pn).length last (r+1) (i+1) k.val)) 1000)):=⟨by
    rw [fromR.eq_2,hn,if_pos rfl,if_pos ⟨hn2,by omega⟩]⟩
  obtain ⟨N,hN⟩:∃ N,offT i j=N:=⟨_,rfl⟩
  rw [hN] at HV hbd hn2 hd1
  refine (callsIn_wide (n:=9)).1 (callsIn_of_wp_marks Tryd.func128 rfl trivial ?_ rfl)
  simp only [Tryd.ntmps128,List.size_toArray,List.length_cons,List.length_nil,Nat.reduceAdd,Nat.reduceSub,Array.replicate_succ,Array.replicate_zero,List.push_toArray,List.append_toArray,List.nil_append,List.cons_append]
  refine wpIn_wide.2 ?_
  go_wp2_with (first|(at_lookup;refine wp_lookup_spot2 key107 Tryd.underlying157 rfl _ _ rfl B rfl _ _ rfl (HM.out.alloc _) _ (zero3 _) (.int .i64 0) (by rw [HG.out];rfl) false (by rw [HG.out];rfl) ?_)|(go_at_call 129;refine (HOFF.out _ (HS.out.hb.trans ((below_alloc (Below.refl _ w) _).mono HS.out.hb.size)) i j hi hj).mono ?_;rintro e w2 ⟨rfl,hb2⟩;have hB2:=(below_alloc (Below.refl _ w) (Obj.cells #[Value.int IntKind.i64 ↑i,Value.int IntKind.i64 ↑j] 107)).trans (hb2.mono (by simp));have x0:w2.cell? ⟨w.heap.size,0,none⟩=some (.int .i64 i):=kc hb2 (by go_simp);have x1:w2.cell? ⟨w.heap.size,1,none⟩=some (.int .i64 j):=kc hb2 (by go_simp);replace e1:=kc hB2 e1;replace s0:=kc hB2 s0;replace s1:=kc hB2 s1;replace s2:=kc hB2 s2;replace s3:=kc hB2 s3;replace s4:=kc hB2 s4;replace s5:=kc hB2 s5;replace s6:=kc hB2 s6;replace s7:=kc hB2 s7;replace e3:=kc hB2 e3;replace e4:=kc hB2 e4;replace e5:=kc hB2 e5;have HB2:=Aside0.mk hB2;clear hb2 hB2 l1 l2 l3 l4 l5)|(go_at_call 126;refine (HMAY.out _ (HS.out.hb.trans (HB2.out.mono HS.out.hb.size)) i j hi hj).mono ?_;rintro e w3 ⟨rfl,hb3⟩;replace x0:=kc hb3 x0;replace x1:=kc hb3 x1;replace e1:=kc hb3 e1;replace s0:=kc hb3 s0;replace s1:=kc hb3 s1;replace s2:=kc hb3 s2;replace s3:=kc hb3 s3;replace s4:=kc hb3 s4;replace s5:=kc hb3 s5;replace s6:=kc hb3 s6;replace s7:=kc hb3 s7;replace e3:=kc hb3 e3;replace e4:=kc hb3 e4;replace e5:=kc hb3 e5;have HB3:=Aside0.mk (HB2.out.trans (hb3.mono HB2.out.size));clear hb3 HB2;have l1:=World.block_lt_of_cell? w3 _ e1;have l2:=World.block_lt_of_cell? w3 _ s0;have l3:=World.block_lt_of_cell? w3 _ e3;have l4:=World.block_lt_of_cell? w3 _ e4;have l5:=World.block_lt_of_cell? w3 _ e5;have l6:=World.block_lt_of_cell? w3 _ x0;simp only at l1 l2 l3 l4 l5 l6)|(go_at_call 130;refine (behind_in (Ap:=some ad) (g:=g) (cf:=cf) (cp:=cp) (ct:=ct) (cg:=cg) (lost:=lost) (wrong:=wrong) (At:=At) (ts:=ts) (Ag:=Ag) (gs:=gs) (Af:=Af) (fs:=fs) (ps:=ps) (pn:=pn) j last _).mono ?_;rintro e w4 ⟨rfl,rfl⟩))
  have cX:Boxed (w3.alloc (Obj.cells #[Value.int IntKind.i64 1000] 3)) w3.heap.size 3 (.int .i64 1000):=Boxed.new _ _ _
  have hbW:=(((below_alloc (Below.refl _ w3) (Obj.cells #[Value.int IntKind.i64 1000] 3)).alloc (by simp) (Obj.cells #[Value.int IntKind.i64 g,Value.slice Af fs.length cf,Value.slice (some ad) ps.length cp,Value.int IntKind.i64 ↑pn,Value.slice At ts.length ct,Value.slice Ag gs.length cg,Value.int IntKind.i64 lost,Value.int IntKind.i64 wrong] 94)).alloc (by simp;omega) (Obj.cells #[Value.int IntKind.i64 ↑j] 3)).alloc (by simp;omega) (Obj.cells #[Value.int IntKind.i64 ↑last] 3)
  replace cX:=((cX.alloc (Obj.cells #[Value.int IntKind.i64 g,Value.slice Af fs.length cf,Value.slice (some ad) ps.length cp,Value.int IntKind.i64 ↑pn,Value.slice At ts.length ct,Value.slice Ag gs.length cg,Value.int IntKind.i64 lost,Value.int IntKind.i64 wrong] 94)).alloc (Obj.cells #[Value.int IntKind.i64 ↑j] 3)).alloc (Obj.cells #[Value.int IntKind.i64 ↑last] 3)
  have z0:((((w3.alloc (Obj.cells #[Value.int IntKind.i64 1000] 3)).alloc (Obj.cells #[Value.int IntKind.i64 g,Value.slice Af fs.length cf,Value.slice (some ad) ps.length cp,Value.int IntKind.i64 ↑pn,Value.slice At ts.length ct,Value.slice Ag gs.length cg,Value.int IntKind.i64 lost,Value.int IntKind.i64 wrong] 94)).alloc (Obj.cells #[Value.int IntKind.i64 ↑j] 3)).alloc (Obj.cells #[Value.int IntKind.i64 ↑last] 3)).heap.size=w3.heap.size+4:=by simp
  have S3:=Aside0.mk (HS.out.below HB3.out)
  have HI:Aside0 (ItF g Af cf fs ad cp ps pn At ct ts Ag cg gs lost wrong A1 c1 wB.heap.size (w3.heap.size+1+1) (w3.heap.size+1+1+1) (w3.heap.size+1) j last ((((w3.alloc (Obj.cells #[Value.int IntKind.i64 1000] 3)).alloc (Obj.cells #[Value.int IntKind.i64 g,Value.slice Af fs.length cf,Value.slice (some ad) ps.length cp,Value.int IntKind.i64 ↑pn,Value.slice At ts.length ct,Value.slice Ag gs.length cg,Value.int IntKind.i64 lost,Value.int IntKind.i64 wrong] 94)).alloc (Obj.cells #[Value.int IntKind.i64 ↑j] 3)).alloc (Obj.cells #[Value.int IntKind.i64 ↑last] 3))) :=
    ⟨by go_simp,by go_simp,by refine ⟨?_,?_,?_,?_,?_,?_,?_,?_⟩ <;> go_simp,kc hbW ((S3.out.hb.cell (p:=⟨(ad.add (pn * 2)).block,(ad.add (pn * 2)).off+1,none⟩) (World.block_lt_of_cell? wB ⟨(ad.add (pn * 2)).block,(ad.add (pn * 2)).off+1,none⟩ HX1.out)).trans HX1.out),World.block_lt_of_cell? wB ⟨(ad.add (pn * 2)).block,(ad.add (pn * 2)).off+1,none⟩ HX1.out⟩
  have HZ:=S3.out.hb.size
  have HBl:Aside0 (B<w.heap.size):=⟨HM.out.lt⟩
  have HzB:=HB3.out.size
  have HBB:=Aside0.mk HS.out.hB
  have HM3:=HM.out.below HB3.out
  have HM0:=Aside0.mk (HM3.below hbW)
  have HG0:=Aside0.mk (grown_of_below hbW (some B))
  obtain ⟨W0,hW0⟩:∃ W0,((((w3.alloc (Obj.cells #[Value.int IntKind.i64 1000] 3)).alloc (Obj.cells #[Value.int IntKind.i64 g,Value.slice Af fs.length cf,Value.slice (some ad) ps.length cp,Value.int IntKind.i64 ↑pn,Value.slice At ts.length ct,Value.slice Ag gs.length cg,Value.int IntKind.i64 lost,Value.int IntKind.i64 wrong] 94)).alloc (Obj.cells #[Value.int IntKind.i64 ↑j] 3)).alloc (Obj.cells #[Value.int IntKind.i64 ↑last] 3))=W0:=⟨_,rfl⟩
  rw [hW0] at cX hbW z0 HI HM0 HG0 ⊢
  clear hW0
  obtain ⟨z,hz⟩:∃ z,w3.heap.size=z:=⟨_,rfl⟩
  obtain ⟨b0,hb0⟩:∃ b0,w.heap.size=b0:=⟨_,rfl⟩
  have Z:=Aside0.mk hz
  have Zb:=Aside0.mk hb0
  rw [hz] at cX hbW z0 HI l1 l2 l3 l4 l5 l6 HZ HzB ⊢
  rw [hb0] at x0 x1 l6 HBl HzB ⊢
  clear hz hb0
  obtain ⟨fv,hfv⟩:∃ fv:Nat→Int,(fun k=>fromR offT may (ptones ps pn).length last (r+1) (i+1) k)=fv:=⟨_,rfl⟩
  have hfvb:∀ k,0≤fv k∧fv k≤1000:=fun k=>by rw [← hfv];exact fromR_bd HO.out _ _ _
  have HF:=Aside0.mk hfv
  have HFB:=Aside0.mk hfvb
  have HVV:Aside0 (fromR offT may (ptones ps pn).length last (r+1+1) i j=mn 1000 (N+(behL (ptones ps pn).length (j+1) (last - j)).foldl (fun a k=>mn a (fv k.val)) 1000)):=⟨by rw [HV.out,← hfv]⟩
  have IH2:Aside0 (∀ (j:Nat) (x y:Int) (w:World),x=(i+1:Nat)→y=j→j<(ptones ps pn).length→RdSt_all g Af cf fs ad cp ps pn At ct ts Ag cg gs lost wrong offT may last p1 p2 p3 p4 p5 B wB w →
      Calls Tryd.prog 128 #[.agg #[.int .i64 x,.int .i64 y],.pointer (some ⟨p1,0,none⟩),.pointer (some ⟨p2,0,none⟩),.pointer (some ⟨p3,0,none⟩),.pointer (some ⟨p4,0,none⟩),.pointer (some ⟨p5,0,none⟩)] w fun e w'=>e=.returned (.int .i64 (fv j))∧w.grownBy w' (some B)∧RdSt_all g Af cf fs ad cp ps pn At ct ts Ag cg gs lost wrong offT may last p1 p2 p3 p4 p5 B wB w'):=⟨by rw [← hfv];exact IH.out⟩
  clear hfv hfvb HV IH
  have hlt0:w3.heap.size≤W0.heap.size:=by have:=Z.out;omega
  refine (wpIn_wide (n:=9)).1 ?_
  refine wpIn_rangeFunc_ownG (α:=Fin (ptones ps pn).length) rfl (by decide) (gf:=138) (lb:=#[.pointer (some ⟨z+1+1,0,none⟩),.pointer (some ⟨z+1+1+1,0,none⟩),.pointer (some ⟨z+1,0,none⟩)]) rfl trivial (enters_of Tryd.func138 (by kernel_rfl) rfl)
    (behind1_stops (n:=8) hp A1 c1 wB.heap.size (z+1+1) (z+1+1+1) (z+1) j last hj hpl hla (by decide) W0 HI.out) KpB.t (KpB.b (by omega) (by omega) (by omega) (by omega)) (Below.refl _ _) (fun _=>rfl)
    (fun pre W=>(Boxed W z 3 (.int .i64 (pre.foldl (fun a k=>mn a (fv k.val)) 1000))∧w3.grownBy W (some B))∧∃ M,MapIs W B M∧GoodR offT may ts.length (ptones ps pn).length last M)
    (fun _ _ _=>False)
    (by
      rintro s X Y row ⟨⟨h1,h2⟩,M',h3,h4⟩ hg hr
      refine ⟨⟨h1.kept hg (fun e=>?_),h2.andThen hg (fun q e=>.inl ?_)⟩,M',h3.block (hg.block B h3.lt (fun e=>?_)),h4⟩
      · have:=(hr _ e.symm).1;omega
      · have:=(hr _ e).1;omega
      · have:=(hr _ e.symm).1;have:=HBl.out;omega)
    (fun _ _ _ _ _ hs _ _=>hs)
    ⟨⟨cX,HG0.out⟩,M,HM0.out,HGG.out⟩
    (fun x=>{ tmps:=#[Value.agg #[Value.int IntKind.i64 ↑i,Value.int IntKind.i64 ↑j],Value.pointer (some { block:=p1,off:=0 }),Value.pointer (some { block:=p2,off:=0 }),Value.pointer (some { block:=p3,off:=0 }),Value.pointer (some { block:=p4,off:=0 }),Value.pointer (some { block:=p5,off:=0 }),Value.pointer (some { block:=b0,off:=0 }),Value.int IntKind.i64 0,Value.int IntKind.i64 0,Value.bool false,Value.int IntKind.i64 N,Value.pointer (some { block:=z,off:=0 }),Value.int IntKind.i64 (x.val:Nat),Value.tuple #[Value.int IntKind.i64 0,Value.bool false],Value.map (some B),Value.agg #[Value.int IntKind.i64 ↑i,Value.int IntKind.i64 ↑j],Value.tuple #[Value.int IntKind.i64 0,Value.bool false],Value.int IntKind.i64 0,Value.bool false,Value.bool false,undef,Value.agg #[Value.int IntKind.i64 g,Value.slice Af fs.length cf,Value.slice (some ad) ps.length cp,Value.int IntKind.i64 ↑pn,Value.slice At ts.length ct,Value.slice Ag gs.length cg,Value.int IntKind.i64 lost,Value.int IntKind.i64 wrong],Value.agg #[Value.int IntKind.i64 ↑i,Value.int IntKind.i64 ↑j],Value.int IntKind.i64 N,Value.pointer (some { block:=p3,off:=0 }),Value.func (.func 126) #[] #[],Value.agg #[Value.int IntKind.i64 ↑i,Value.int IntKind.i64 ↑j],Value.bool true,Value.bool false,Value.int IntKind.i64 N,Value.bool true,Value.bool true,Value.pointer (some { block:=b0,off:=0 }),Value.int IntKind.i64 ↑i,Value.int IntKind.i64 (↑i+1),Value.pointer (some { block:=p2,off:=4 }),Value.pointer (some { block:=p2,off:=4 }),Value.slice At ts.length ct,Value.int IntKind.i64 ↑ts.length,Value.bool true,Value.bool true,Value.agg #[Value.int IntKind.i64 g,Value.slice Af fs.length cf,Value.slice (some ad) ps.length cp,Value.int IntKind.i64 ↑pn,Value.slice At ts.length ct,Value.slice Ag gs.length cg,Value.int IntKind.i64 lost,Value.int IntKind.i64 wrong],Value.pointer (some { block:=b0,off:=1 }),Value.int IntKind.i64 ↑j,Value.int IntKind.i64 ↑last,Value.func (Fn.func 138) #[] #[Value.pointer (some { block:=z+1+1,off:=0 }),Value.pointer (some { block:=z+1+1+1,off:=0 }),Value.pointer (some { block:=z+1,off:=0 })],Value.int IntKind.i64 (x.val:Nat),undef,undef,undef,undef,undef,undef,undef,undef,undef,undef,undef,undef,undef,undef,undef,undef,undef,undef,undef],defers:=[] }) ?assign ?body ?done ?stop
  case assign =>
    intro l x W K hK
    gi_wp2
    exact hK
  case body =>
    rintro l pre x W ⟨⟨hbx,hgw⟩,M',hM',hG'⟩ hlt
    rename_i Q0 K1 a1 K2 a2
    clear a1 a2 K1 K2 Q0
    have hFOb:=foldl_mn (fun k:Fin (ptones ps pn).length=>fv k.val) (fun k=>(HFB.out k.val).1) pre 1000 (by omega) (by omega)
    have hFx:=HFB.out x.val
    have HFS:=Aside0.mk (show (pre ++ [x]).foldl (fun a k=>mn a (fv k.val)) 1000=mn (pre.foldl (fun a k=>mn a (fv k.val)) 1000) (fv x.val) by simp)
    obtain ⟨FO,hFO⟩:∃ FO,pre.foldl (fun a k=>mn a (fv k.val)) 1000=FO:=⟨_,rfl⟩
    obtain ⟨FX,hFX⟩:∃ FX,fv x.val=FX:=⟨_,rfl⟩
    have HCALL:=Aside0.mk (fun w hS=>IH2.out x.val _ _ w rfl rfl x.2 hS)
    rw [hFO] at hFOb hbx HFS
    rw [hFX] at hFx HFS HCALL
    clear hFO hFX
    have cb:=hbx.cell
    have hBb:=HBl.out
    have SW:=Aside0.mk (S3.out.grown hgw ⟨M',hM',hG'⟩)
    have y0:=hgw.cell x0 (by simp;omega)
    have y5:=hgw.cell e5 (by simpa using cell_ne_map e5 HM3)
    have HGW:=Aside0.mk hgw
    have HBX:=Aside0.mk hbx
    clear hgw hM' hG' hbx x0 x1 e1 s0 s1 s2 s3 s4 s5 s6 s7 e3 e4 e5 HM3
    refine wpIn_mono (Q:=fun e _ w'=>e=.normal∧∃ w2 w5,(W.drew.grownBy w2 (some B)∧RdSt_all g Af cf fs ad cp ps pn At ct ts Ag cg gs lost wrong offT may last p1 p2 p3 p4 p5 B wB w2)∧Below (w2.alloc (.cells #[.int .i64 FX] 3)).heap.size (w2.alloc (.cells #[.int .i64 FX] 3)) w5∧w'=w5.setCell ⟨z,0,none⟩ (.int .i64 (mn FO FX))) ?_ ?_
    · have nB:some z≠some B:=by simp;omega
      have nB0:some b0≠some B:=by simp;omega
      have n5z:some p5≠some z:=by simp;omega
      have n0z:some b0≠some z:=by simp;omega
      have hcf:=HBX.out.frozen
      have HC2:=Aside0.mk (HCALL.out _ (SW.out.below (below_drew1 (Below.refl _ W))))
      clear HG HM HS HGG HOFF HMAY HO HR HI HX1 HVV S3 HM0 HG0 HF HFB IH2 HFS HCALL HGW hm hpl hla hr hj hn hi hd1 hd2 hn2 hbd hN HZ HzB l1 l2 l3 l4 l5 l6 z0 hbW cX hlt0 hlt HB3 HBB Z Zb hBb HBl
      obtain ⟨bk,hbk⟩:∃ bk,Value.agg #[Value.int IntKind.i64 g,Value.slice Af fs.length cf,Value.slice (some ad) ps.length cp,Value.int IntKind.i64 ↑pn,Value.slice At ts.length ct,Value.slice Ag gs.length cg,Value.int IntKind.i64 lost,Value.int IntKind.i64 wrong]=bk:=⟨_,rfl⟩
      obtain ⟨fq,hfq⟩:∃ fq,Value.func (Fn.func 138) #[] #[Value.pointer (some { block:=z+1+1,off:=0 }),Value.pointer (some { block:=z+1+1+1,off:=0 }),Value.pointer (some { block:=z+1,off:=0 })]=fq:=⟨_,rfl⟩
      obtain ⟨tq,htq⟩:∃ tq,Value.tuple #[Value.int IntKind.i64 0,Value.bool false]=tq:=⟨_,rfl⟩
      obtain ⟨iq,hiq⟩:∃ iq,Value.agg #[Value.int IntKind.i64 ↑i,Value.int IntKind.i64 ↑j]=iq:=⟨_,rfl⟩
      obtain ⟨sq,hsq⟩:∃ sq,Value.slice At ts.length ct=sq:=⟨_,rfl⟩
      obtain ⟨p34,hp34⟩:∃ sq,Value.pointer (some { block:=p2,off:=4 })=sq:=⟨_,rfl⟩
      obtain ⟨p61,hp61⟩:∃ sq,Value.pointer (some { block:=b0,off:=1 })=sq:=⟨_,rfl⟩
      rw [hbk,hfq,htq,hiq,hsq,hp34,hp61]
      clear hbk hfq htq hiq hsq hp34 hp61
      refine wpIn_block ?_
      refine region_round l _ (fun w'=>w'.cell? ⟨p5,0,none⟩=some (.func (.func 128) #[] #[.pointer (some ⟨p1,0,none⟩),.pointer (some ⟨p2,0,none⟩),.pointer (some ⟨p3,0,none⟩),.pointer (some ⟨p4,0,none⟩),.pointer (some ⟨p5,0,none⟩)])∧w'.cell? ⟨b0,0,none⟩=some (.int .i64 i)) (by kernel_rfl) (by kernel_rfl) (by rintro ⟨a,w,h⟩;cases h.1) ⟨y5,y0⟩ (fun hH=>?_)
      refine wpAnyH_take (i:=1) (v:=.func (.func 128) #[] #[.pointer (some ⟨p1,0,none⟩),.pointer (some ⟨p2,0,none⟩),.pointer (some ⟨p3,0,none⟩),.pointer (some ⟨p4,0,none⟩),.pointer (some ⟨p5,0,none⟩)]) rfl (by kernel_rfl) (by kernel_rfl) (by kernel_rfl) (fun _ _ _ h=>h) (Or.inl ⟨by rfl,?_⟩) (by assumption) ?_
      · intro w hSw
        obtain ⟨g3,g4⟩:=hSw
        go_simp
      simp only [Act.put,List.setIfInBounds_toArray,List.set_cons_zero,List.set_cons_succ]
      refine wpAnyH_take (i:=2) (v:=.pointer (some ⟨b0,0,none⟩)) rfl (by kernel_rfl) (by kernel_rfl) (by kernel_rfl) (fun _ _ _ h=>h) (Or.inl ⟨by rfl,?_⟩) (by assumption) ?_
      · intro w hSw
        obtain ⟨g3,g4⟩:=hSw
        go_simp
      simp only [Act.put,List.setIfInBounds_toArray,List.set_cons_zero,List.set_cons_succ]
      refine wpAnyH_take (i:=3) (v:=.int .i64 i) rfl (by kernel_rfl) (by kernel_rfl) (by kernel_rfl) (fun _ _ _ h=>h) (Or.inl ⟨by rfl,?_⟩) (by assumption) ?_
      · intro w hSw
        obtain ⟨g3,g4⟩:=hSw
        go_simp
      simp only [Act.put,List.setIfInBounds_toArray,List.set_cons_zero,List.set_cons_succ]
      refine wpAnyH_take (i:=4) (v:=.int .i64 ((i:Int)+1)) rfl (by kernel_rfl) (by kernel_rfl) (by kernel_rfl) (fun _ _ _ h=>h) (Or.inl ⟨by rfl,?_⟩) (by assumption) ?_
      · intro w hSw
        obtain ⟨g3,g4⟩:=hSw
        go_simp
      simp only [Act.put,List.setIfInBounds_toArray,List.set_cons_zero,List.set_cons_succ]
      refine wpAnyH_take (i:=5) (v:=.int .i64 (x.val:Nat)) rfl (by kernel_rfl) (by kernel_rfl) (by kernel_rfl) (fun _ _ _ h=>h) (Or.inl ⟨by rfl,?_⟩) (by assumption) ?_
      · intro w hSw
        obtain ⟨g3,g4⟩:=hSw
        go_simp
      simp only [Act.put,List.setIfInBounds_toArray,List.set_cons_zero,List.set_cons_succ]
      refine wpAnyH_take (i:=6) (v:=.agg #[.int .i64 ((i:Int)+1),.int .i64 (x.val:Nat)]) rfl (by kernel_rfl) (by kernel_rfl) (by kernel_rfl) (fun _ _ _ h=>h) (Or.inl ⟨by rfl,?_⟩) (by assumption) ?_
      · intro w hSw
        obtain ⟨g3,g4⟩:=hSw
        go_simp
      simp only [Act.put,List.setIfInBounds_toArray,List.set_cons_zero,List.set_cons_succ]
      refine wpAnyH_ready (rs:=[0,7]) (by kernel_rfl) (by simp) ?_
      refine AllReadyH.cons rfl (fun K hK=>?_) (AllReadyH.cons rfl (fun K hK=>?_) (AllReadyH.nil))
      · go_simp
        refine hK _ _ ⟨y5,y0⟩ (fun hH=>?_)
        clear hK
        refine wpAnyH_ready (rs:=[7]) (by kernel_rfl) (by simp) ?_
        refine AllReadyH.cons rfl (fun K hK=>?_) (AllReadyH.nil)
        go_simp
        refine HC2.out.mono ?_
        rintro e w2 ⟨rfl,hg2,hS2⟩
        have BX2:=Boxed.kept (W:=W.drew) HBX.out hg2 nB
        have lz2:=BX2.lt
        have q0:=hg2.cell (a:=⟨b0,0,none⟩) y0 nB0
        have q5:=hS2.h5
        have cb2:=BX2.cell
        refine hK _ _ ⟨q5,q0⟩ (fun hH=>?_)
        clear hK
        refine wpAnyH_ready (rs:=[8]) (by kernel_rfl) (by simp) ?_
        refine AllReadyH.cons rfl (fun K hK=>?_) (AllReadyH.nil)
        go_simp
        have BX3:=BX2.alloc (.cells #[.int .i64 FX] 3)
        have hg3:=World.grownBy_alloc w2 (.cells #[.int .i64 FX] 3) none
        have q03:=hg3.cell q0 (by simp)
        have q53:=hg3.cell q5 (by simp)
        have cb3:=BX3.cell
        refine hK _ _ ⟨q53,q03⟩ (fun hH=>?_)
        clear hK
        refine wpAnyH_ready (rs:=[9]) (by kernel_rfl) (by simp) ?_
        refine AllReadyH.cons rfl (fun K hK=>?_) (AllReadyH.nil)
        go_simp
        refine (least_one FO FX w2.heap.size _ ⟨by omega,by omega⟩ ⟨by omega,by omega⟩ (by go_simp)).mono ?_
        rintro e w5 ⟨rfl,hb5⟩
        have BX5:Boxed w5 z 3 _:=(hb5.block z BX3.lt).trans BX3
        have cb5:=BX5.cell
        have cf5:=BX5.frozen
        refine hK _ _ ⟨kc hb5 q53,kc hb5 q03⟩ (fun hH=>?_)
        clear hK
        refine wpAnyH_ready (rs:=[10]) (by kernel_rfl) (by simp) ?_
        refine AllReadyH.cons rfl (fun K hK=>?_) (AllReadyH.nil)
        go_simp
        have hg6:=grownBy_setCell' w5 z (.int .i64 (mn FO FX))
        refine hK _ _ ⟨hg6.cell (kc hb5 q53) n5z,hg6.cell (kc hb5 q03) n0z⟩ (fun hH=>?_)
        clear hK
        exact wpAnyH_done (by kernel_rfl) ⟨rfl,w2,w5,⟨hg2,hS2⟩,hb5,rfl⟩ _
      · go_simp
        refine HC2.out.mono ?_
        rintro e w2 ⟨rfl,hg2,hS2⟩
        have BX2:=Boxed.kept (W:=W.drew) HBX.out hg2 nB
        have lz2:=BX2.lt
        have q0:=hg2.cell (a:=⟨b0,0,none⟩) y0 nB0
        have q5:=hS2.h5
        have cb2:=BX2.cell
        refine hK _ _ ⟨q5,q0⟩ (fun hH=>?_)
        clear hK
        refine wpAnyH_ready (rs:=[0,8]) (by kernel_rfl) (by simp) ?_
        refine AllReadyH.cons rfl (fun K hK=>?_) (AllReadyH.cons rfl (fun K hK=>?_) (AllReadyH.nil))
        · go_simp
          refine hK _ _ ⟨q5,q0⟩ (fun hH=>?_)
          clear hK
          refine wpAnyH_ready (rs:=[8]) (by kernel_rfl) (by simp) ?_
          refine AllReadyH.cons rfl (fun K hK=>?_) (AllReadyH.nil)
          go_simp
          have BX3:=BX2.alloc (.cells #[.int .i64 FX] 3)
          have hg3:=World.grownBy_alloc w2 (.cells #[.int .i64 FX] 3) none
          have q03:=hg3.cell q0 (by simp)
          have q53:=hg3.cell q5 (by simp)
          have cb3:=BX3.cell
          refine hK _ _ ⟨q53,q03⟩ (fun hH=>?_)
          clear hK
          refine wpAnyH_ready (rs:=[9]) (by kernel_rfl) (by simp) ?_
          refine AllReadyH.cons rfl (fun K hK=>?_) (AllReadyH.nil)
          go_simp
          refine (least_one FO FX w2.heap.size _ ⟨by omega,by omega⟩ ⟨by omega,by omega⟩ (by go_simp)).mono ?_
          rintro e w5 ⟨rfl,hb5⟩
          have BX5:Boxed w5 z 3 _:=(hb5.block z BX3.lt).trans BX3
          have cb5:=BX5.cell
          have cf5:=BX5.frozen
          refine hK _ _ ⟨kc hb5 q53,kc hb5 q03⟩ (fun hH=>?_)
          clear hK
          refine wpAnyH_ready (rs:=[10]) (by kernel_rfl) (by simp) ?_
          refine AllReadyH.cons rfl (fun K hK=>?_) (AllReadyH.nil)
          go_simp
          have hg6:=grownBy_setCell' w5 z (.int .i64 (mn FO FX))
          refine hK _ _ ⟨hg6.cell (kc hb5 q53) n5z,hg6.cell (kc hb5 q03) n0z⟩ (fun hH=>?_)
          clear hK
          exact wpAnyH_done (by kernel_rfl) ⟨rfl,w2,w5,⟨hg2,hS2⟩,hb5,rfl⟩ _
        · go_simp
          have BX3:=BX2.alloc (.cells #[.int .i64 FX] 3)
          have hg3:=World.grownBy_alloc w2 (.cells #[.int .i64 FX] 3) none
          have q03:=hg3.cell q0 (by simp)
          have q53:=hg3.cell q5 (by simp)
          have cb3:=BX3.cell
          refine hK _ _ ⟨q53,q03⟩ (fun hH=>?_)
          clear hK
          refine wpAnyH_ready (rs:=[0]) (by kernel_rfl) (by simp) ?_
          refine AllReadyH.cons rfl (fun K hK=>?_) (AllReadyH.nil)
          go_simp
          refine hK _ _ ⟨q53,q03⟩ (fun hH=>?_)
          clear hK
          refine wpAnyH_ready (rs:=[9]) (by kernel_rfl) (by simp) ?_
          refine AllReadyH.cons rfl (fun K hK=>?_) (AllReadyH.nil)
          go_simp
          refine (least_one FO FX w2.heap.size _ ⟨by omega,by omega⟩ ⟨by omega,by omega⟩ (by go_simp)).mono ?_
          rintro e w5 ⟨rfl,hb5⟩
          have BX5:Boxed w5 z 3 _:=(hb5.block z BX3.lt).trans BX3
          have cb5:=BX5.cell
          have cf5:=BX5.frozen
          refine hK _ _ ⟨kc hb5 q53,kc hb5 q03⟩ (fun hH=>?_)
          clear hK
          refine wpAnyH_ready (rs:=[10]) (by kernel_rfl) (by simp) ?_
          refine AllReadyH.cons rfl (fun K hK=>?_) (AllReadyH.nil)
          go_simp
          have hg6:=grownBy_setCell' w5 z (.int .i64 (mn FO FX))
          refine hK _ _ ⟨hg6.cell (kc hb5 q53) n5z,hg6.cell (kc hb5 q03) n0z⟩ (fun hH=>?_)
          clear hK
          exact wpAnyH_done (by kernel_rfl) ⟨rfl,w2,w5,⟨hg2,hS2⟩,hb5,rfl⟩ _
    · rintro e a9 w9 ⟨rfl,w2,w5,⟨hg2,hS2⟩,hb5,rfl⟩
      have hB25:Below w2.heap.size w2 w5:=(below_alloc (Below.refl _ w2) _).trans (hb5.mono (by simp))
      have hz:=Z.out
      have hBW:B<W0.heap.size:=by omega
      have hd:W.grownBy W.drew (some B):=grown_of_below (below_drew1 (Below.refl _ W)) (some B)
      have nB:some z≠some B:=by simp;omega
      have hs2:wB.heap.size≤w2.heap.size:=Nat.le_trans SW.out.hb.size hg2.size
      obtain ⟨M2,hM2,hG2⟩:=hS2.hm
      refine ⟨(((KeepsFrom.of_grownBy hd (fun q e=>by cases e;exact hBW)).trans (KeepsFrom.of_grownBy hg2 (fun q e=>by cases e;exact hBW))).trans (KeepsFrom.of_grownBy (grown_of_below hB25 none) (fun q e=>by cases e))).trans ((KeepsOthers.setCell w5 _ _).from _),⟨?_,?_⟩,⟨?_,?_⟩,M2,(hM2.below hB25).setCell _ _,hG2⟩
      · exact (((Below.refl wB.heap.size W).grown (hd.trans hg2) SW.out.hb.size (fun q e=>by cases e;exact HBB.out)).trans (hB25.mono hs2)).setCell (p:=⟨z,0,none⟩) (show wB.heap.size≤z by omega) _
      · intro a v ha hv
        exact (grownBy_setCell' w5 z _).cell (kc hB25 ((hd.trans hg2).cell hv (by simp;omega))) (by simp;omega)
      · rw [HFS.out]
        exact Boxed.set _ (((hB25.block z (Boxed.kept (W:=W.drew) HBX.out hg2 nB).lt).trans (Boxed.kept (W:=W.drew) HBX.out hg2 nB)))
      · exact (((HGW.out.trans hd).trans hg2).trans (grown_of_below hB25 (some B))).andThen (grownBy_setCell' w5 z _) (fun q e=>.inl (by cases e;omega))
  case done =>
    rintro D ys W hD rfl ⟨⟨hbx,hgw⟩,M',hM',hG'⟩ hK
    have hFOb:=foldl_mn (fun k:Fin (ptones ps pn).length=>fv k.val) (fun k=>(HFB.out k.val).1) (behL (ptones ps pn).length (j+1) (last - j)) 1000 (by omega) (by omega)
    have HV3:=HVV.out
    obtain ⟨FO,hFO⟩:∃ FO,(behL (ptones ps pn).length (j+1) (last - j)).foldl (fun a k=>mn a (fv k.val)) 1000=FO:=⟨_,rfl⟩
    rw [hFO] at hFOb hbx HV3
    clear hFO
    have HV4:=Aside0.mk HV3
    have hwr:IntKind.i64.wrap (N+FO)=N+FO:=IntWalk.i64_in _ (by omega)
    have cb:=hbx.cell
    have hBb:=HBl.out
    replace x0:=hgw.cell x0 (by simp;omega)
    replace x1:=hgw.cell x1 (by simp;omega)
    replace e1:=hgw.cell e1 (by simpa using cell_ne_map e1 HM3)
    have HK:=Aside0.mk hK
    have HD:=Aside0.mk hD
    have HM5:=Aside0.mk hM'
    have HG5:=Aside0.mk hG'
    have HGW:=Aside0.mk hgw
    clear HV3 hK hD hM' hG' hgw s0 s1 s2 s3 s4 s5 s6 s7 e3 e4 e5 HM3 hbx
    go_wp2_with (first|(go_at_call 80;refine (least_one 1000 (N+FO) W.heap.size _ ⟨by decide,by decide⟩ ⟨by omega,by omega⟩ (by go_simp)).mono ?_;rintro e w5 ⟨rfl,hb5⟩;have hB5:=(below_alloc (Below.refl _ W) (Obj.cells #[Value.int IntKind.i64 (N+FO)] 3)).trans (hb5.mono (by simp));replace x0:=kc hB5 x0;replace x1:=kc hB5 x1;replace e1:=kc hB5 e1;have HB5:=Aside0.mk hB5;clear hb5 hB5 cb)|(at_mapUpdate;refine wp_update_spot key107 Tryd.underlying157 rfl _ _ _ rfl B rfl _ _ rfl _ rfl (HM5.out.below HB5.out) ?_;intro w9 hM9 hG9 hS9))
    have hDl:D<W.heap.size:=(Array.getElem?_eq_some_iff.1 HK.out).1
    have hDB:D≠B:=by have:=HD.out;omega
    have hK9:w9.heap[D]?=some (.deferred (some [])):=(hG9.block D (by have:=HB5.out.size;omega) (by simpa using hDB)).trans ((HB5.out.block D hDl).trans HK.out)
    have hGe:=((((grown_of_below HB3.out (some B)).trans HGW.out).trans (grown_of_below HB5.out (some B))).trans hG9).andThen (grownBy_putObj' w9 D (.deferred none)) (fun q e=>.inl (by cases e;have:=HD.out;have:=Zb.out;omega))
    refine ⟨by simp,.inl ⟨_,_,rfl,run_takeDeferred hK9,?_⟩⟩
    refine ⟨.int .i64 (mn 1000 (N+FO)),results_tmp (show Tryd.f128.results=#[ResultVar.tmp 7] from rfl) _ _ _,ret_i64 HV4.out.symm,hGe,?_⟩
    exact HS.out.grown hGe ⟨_,hM9.block (World.putObj_heap_other (Ne.symm hDB)),HG5.out.put i j (congrArg (Value.int IntKind.i64) (by rw [HR.out];exact HV4.out.symm))⟩
  case stop =>
    rintro D c pre W _ _ h _
    exact h.elim
theorem reads1_all (hp:pn<ps.length) (hm:ts.length≤1000) (hpl:(ptones ps pn).length≤1000) (hla:last≤1000) (ho:∀ i j,0≤offT i j∧offT i j≤1000)
    (hoff:∀ w,Below wB.heap.size wB w→∀ i j:Nat,i<ts.length→j<(ptones ps pn).length→Calls Tryd.prog 129 #[bkv g Af cf fs (some ad) cp ps pn At ct ts Ag cg gs lost wrong,.agg #[.int .i64 i,.int .i64 j]] w fun e w'=>e=.returned (.int .i64 (offT i j))∧Below w.heap.size w w')
    (hmay:∀ w,Below wB.heap.size wB w→∀ i j:Nat,i<ts.length→j<(ptones ps pn).length→Calls Tryd.prog 126 #[.agg #[.int .i64 i,.int .i64 j]] w fun e w'=>e=.returned (.bool (may i j))∧Below w.heap.size w w')
    (A1:Option Addr) (c1:Nat) (hx1:wB.cell? ⟨(ad.add (pn * 2)).block,(ad.add (pn * 2)).off+1,none⟩=some (.slice A1 (ptones ps pn).length c1)) :
    ∀ (r i j:Nat) (x y:Int) (w:World),x=i→y=j→i+r+1=ts.length→j<(ptones ps pn).length→RdSt_all g Af cf fs ad cp ps pn At ct ts Ag cg gs lost wrong offT may last p1 p2 p3 p4 p5 B wB w →
    Calls Tryd.prog 128 #[.agg #[.int .i64 x,.int .i64 y],.pointer (some ⟨p1,0,none⟩),.pointer (some ⟨p2,0,none⟩),.pointer (some ⟨p3,0,none⟩),.pointer (some ⟨p4,0,none⟩),.pointer (some ⟨p5,0,none⟩)] w fun e w' =>
      e=.returned (.int .i64 (fromR offT may (ptones ps pn).length last (r+1) i j))∧w.grownBy w' (some B)∧RdSt_all g Af cf fs ad cp ps pn At ct ts Ag cg gs lost wrong offT may last p1 p2 p3 p4 p5 B wB w':=by
  intro r
  induction r with
  | zero =>
    intro i j x y w hx hy hr hj hS
    obtain ⟨M,hM,hG⟩:=hS.hm
    have h1:=ho i j
    cases hg:mget M i j with
    | some v=>exact reads1_all_known hp hm hpl hla ho hoff hmay 0 i j x y M v w hx hy hr hj hS hM hG hg
    | none =>
      cases hn:may i j with
      | false=>exact reads1_all_no hp hm hpl hla ho hoff hmay 0 i j x y M w hx hy hr hj hS hM hG hg hn
      | true=>exact reads1_all_leaf hp hm hpl hla ho hoff hmay 0 i j x y M w hx hy hr hj hS hM hG hg hn (by omega)
  | succ r ih =>
    intro i j x y w hx hy hr hj hS
    obtain ⟨M,hM,hG⟩:=hS.hm
    have h1:=ho i j
    cases hg:mget M i j with
    | some v=>exact reads1_all_known hp hm hpl hla ho hoff hmay (r+1) i j x y M v w hx hy hr hj hS hM hG hg
    | none =>
      cases hn:may i j with
      | false=>exact reads1_all_no hp hm hpl hla ho hoff hmay (r+1) i j x y M w hx hy hr hj hS hM hG hg hn
      | true =>
        by_cases hq:offT i j=1000
        · exact reads1_all_leaf hp hm hpl hla ho hoff hmay (r+1) i j x y M w hx hy hr hj hS hM hG hg hn (.inl hq)
        · exact reads1_all_loop hp hm hpl hla ho hoff hmay r i j x y M w hx hy hr hj hS hM hG hg hn (by omega) A1 c1 hx1 (fun j' x' y' w' hx' hy' hj' hS'=>ih (i+1) j' x' y' w' hx' hy' (by omega) hj' hS')
end
end Go.Proofs.YthnilelmhpmanaaDoor.PHeardFits
end
section
namespace Go.Proofs.YthnilelmhpmanaaDoor.PHeardFits
open Go.RowKit Go.Shelf Go.Proofs.YthnilelmhpmanaaDoorW.PrintWords Go.Proofs.YthnilelmhpmanaaDoorW.PrintLast Go.Proofs.YthnilelmhpmanaaDoorW.PrintMore
open Go.Proofs.YthnilelmhpmanaaDoor.Hm Go.Proofs.YthnilelmhpmanaaDoor.Rr
attribute [local go_sem] Oper.semAt_some max2_int min2_int max_two min_two max_three min_three max_four min_four
set_option linter.unusedVariables false
set_option linter.unusedSimpArgs false
section
variable (g:Int) (Af:Option Addr) (cf:Nat) (fs:List S85) (ad:Addr) (cp:Nat) (ps:List S62) (pn:Nat) (At:Option Addr) (ct:Nat) (ts:List Int) (Ag:Option Addr) (cg:Nat) (gs:List Int) (lost wrong:Int) (offT:Nat→Nat→Int) (may:Nat→Nat→Bool) (last:Nat) (pw pk:Nat) (p1 p2 p3 p4 p5 B:Nat) (wB:World)
structure RdSt_one (w:World):Prop where
  h1:w.cell? ⟨p1,0,none⟩=some (.map (some B))
  h2:w.cell? ⟨p2,0,none⟩=some (.int .i64 g)∧w.cell? ⟨p2,1,none⟩=some (.slice Af fs.length cf)∧w.cell? ⟨p2,2,none⟩=some (.slice (some ad) ps.length cp)∧w.cell? ⟨p2,3,none⟩=some (.int .i64 pn)∧w.cell? ⟨p2,4,none⟩=some (.slice At ts.length ct)∧w.cell? ⟨p2,5,none⟩=some (.slice Ag gs.length cg)∧w.cell? ⟨p2,6,none⟩=some (.int .i64 lost)∧w.cell? ⟨p2,7,none⟩=some (.int .i64 wrong)
  h3:w.cell? ⟨p3,0,none⟩=some (.func (.func 70) #[] #[.pointer (some ⟨pw,0,none⟩),.pointer (some ⟨pk,0,none⟩)])
  h4:w.cell? ⟨p4,0,none⟩=some (.int .i64 (last:Nat))
  h5:w.cell? ⟨p5,0,none⟩=some (.func (.func 128) #[] #[.pointer (some ⟨p1,0,none⟩),.pointer (some ⟨p2,0,none⟩),.pointer (some ⟨p3,0,none⟩),.pointer (some ⟨p4,0,none⟩),.pointer (some ⟨p5,0,none⟩)])
  hb:Below wB.heap.size wB w
  hB:wB.heap.size≤B
  hm:∃ M,MapIs w B M∧GoodR offT may ts.length (ptones ps pn).length last M
variable {g Af cf fs ad cp ps pn At ct ts Ag cg gs lost wrong offT may last pw pk p1 p2 p3 p4 p5 B wB}
theorem RdSt_one.below {w w':World} (h:RdSt_one g Af cf fs ad cp ps pn At ct ts Ag cg gs lost wrong offT may last pw pk p1 p2 p3 p4 p5 B wB w) (hb:Below w.heap.size w w'):RdSt_one g Af cf fs ad cp ps pn At ct ts Ag cg gs lost wrong offT may last pw pk p1 p2 p3 p4 p5 B wB w' :=
  ⟨kc hb h.h1,by obtain ⟨s0,s1,s2,s3,s4,s5,s6,s7⟩:=h.h2;exact ⟨kc hb s0,kc hb s1,kc hb s2,kc hb s3,kc hb s4,kc hb s5,kc hb s6,kc hb s7⟩,kc hb h.h3,kc hb h.h4,kc hb h.h5,h.hb.trans (hb.mono h.hb.size),h.hB,by obtain ⟨M,hM,hG⟩:=h.hm;exact ⟨M,hM.below hb,hG⟩⟩
theorem RdSt_one.grown {w w':World} (h:RdSt_one g Af cf fs ad cp ps pn At ct ts Ag cg gs lost wrong offT may last pw pk p1 p2 p3 p4 p5 B wB w) (hg:w.grownBy w' (some B)) (hm:∃ M,MapIs w' B M∧GoodR offT may ts.length (ptones ps pn).length last M):RdSt_one g Af cf fs ad cp ps pn At ct ts Ag cg gs lost wrong offT may last pw pk p1 p2 p3 p4 p5 B wB w':=by
  obtain ⟨M,hM,hG⟩:=h.hm
  have k:∀ {a:Addr} {v:Value},w.cell? a=some v→w'.cell? a=some v:=fun e=>hg.cell e (by simpa using cell_ne_map e hM)
  obtain ⟨s0,s1,s2,s3,s4,s5,s6,s7⟩:=h.h2
  exact ⟨k h.h1,⟨k s0,k s1,k s2,k s3,k s4,k s5,k s6,k s7⟩,k h.h3,k h.h4,k h.h5,h.hb.grown hg h.hb.size (by rintro q hq;cases hq;exact h.hB),h.hB,hm⟩
set_option maxRecDepth 100000 in
set_option maxHeartbeats 1000000 in
theorem reads1_one_known (hp:pn<ps.length) (hm:ts.length≤1000) (hpl:(ptones ps pn).length≤1000) (hla:last≤1000) (ho:∀ i j,0≤offT i j∧offT i j≤1000)
    (hoff:∀ w,Below wB.heap.size wB w→∀ i j:Nat,i<ts.length→j<(ptones ps pn).length→Calls Tryd.prog 129 #[bkv g Af cf fs (some ad) cp ps pn At ct ts Ag cg gs lost wrong,.agg #[.int .i64 i,.int .i64 j]] w fun e w'=>e=.returned (.int .i64 (offT i j))∧Below w.heap.size w w')
    (hmay:∀ w,Below wB.heap.size wB w→∀ i j:Nat,i<ts.length→j<(ptones ps pn).length→Calls Tryd.prog 70 #[.agg #[.int .i64 i,.int .i64 j],.pointer (some ⟨pw,0,none⟩),.pointer (some ⟨pk,0,none⟩)] w fun e w'=>e=.returned (.bool (may i j))∧Below w.heap.size w w')
    (r i j:Nat) (x y:Int) (M:SM) (v:Value) (w:World) (hx:x=i) (hy:y=j) (hr:i+r+1=ts.length) (hj:j<(ptones ps pn).length) (hS:RdSt_one g Af cf fs ad cp ps pn At ct ts Ag cg gs lost wrong offT may last pw pk p1 p2 p3 p4 p5 B wB w) (hM:MapIs w B M) (hG:GoodR offT may ts.length (ptones ps pn).length last M) (hg:mget M i j=some v) :
    Calls Tryd.prog 128 #[.agg #[.int .i64 x,.int .i64 y],.pointer (some ⟨p1,0,none⟩),.pointer (some ⟨p2,0,none⟩),.pointer (some ⟨p3,0,none⟩),.pointer (some ⟨p4,0,none⟩),.pointer (some ⟨p5,0,none⟩)] w fun e w' =>
      e=.returned (.int .i64 (fromR offT may (ptones ps pn).length last (r+1) i j))∧w.grownBy w' (some B)∧RdSt_one g Af cf fs ad cp ps pn At ct ts Ag cg gs lost wrong offT may last pw pk p1 p2 p3 p4 p5 B wB w':=by
  subst hx
  subst hy
  have e1:=hS.h1
  have l1:=World.block_lt_of_cell? w _ e1
  simp only at l1
  obtain ⟨i',j',hi',hj',rfl⟩:=hG _ _ _ hg
  obtain rfl:i'=i:=by omega
  obtain rfl:j'=j:=by omega
  obtain ⟨N,hN⟩:∃ N,fromR offT may (ptones ps pn).length last (ts.length - i') i' j'=N:=⟨_,rfl⟩
  rw [hN] at hg
  have HN:=Aside0.mk hN
  have HG:=Aside0.mk hg
  have HM:=Aside0.mk hM
  have HS:=Aside0.mk hS
  clear hg hM hG hS hN hoff hmay ho
  go_enter Tryd.func128,Tryd.ntmps128
  go_wp2_with (first|(at_lookup;refine wp_lookup_spot2 key107 Tryd.underlying157 rfl _ _ rfl B rfl _ _ rfl (HM.out.alloc _) _ (zero3 _) (.int .i64 N) (by rw [HG.out];rfl) true (by rw [HG.out];rfl) ?_))
  go_ret
  exact ⟨ret_i64 (by rw [← HN.out,show ts.length - i'=r+1 from by omega]),World.grownBy_alloc _ _ _,HS.out.below (below_alloc (Below.refl _ w) _)⟩
set_option maxRecDepth 100000 in
set_option maxHeartbeats 1000000 in
theorem reads1_one_no (hp:pn<ps.length) (hm:ts.length≤1000) (hpl:(ptones ps pn).length≤1000) (hla:last≤1000) (ho:∀ i j,0≤offT i j∧offT i j≤1000)
    (hoff:∀ w,Below wB.heap.size wB w→∀ i j:Nat,i<ts.length→j<(ptones ps pn).length→Calls Tryd.prog 129 #[bkv g Af cf fs (some ad) cp ps pn At ct ts Ag cg gs lost wrong,.agg #[.int .i64 i,.int .i64 j]] w fun e w'=>e=.returned (.int .i64 (offT i j))∧Below w.heap.size w w')
    (hmay:∀ w,Below wB.heap.size wB w→∀ i j:Nat,i<ts.length→j<(ptones ps pn).length→Calls Tryd.prog 70 #[.agg #[.int .i64 i,.int .i64 j],.pointer (some ⟨pw,0,none⟩),.pointer (some ⟨pk,0,none⟩)] w fun e w'=>e=.returned (.bool (may i j))∧Below w.heap.size w w')
    (r i j:Nat) (x y:Int) (M:SM) (w:World) (hx:x=i) (hy:y=j) (hr:i+r+1=ts.length) (hj:j<(ptones ps pn).length) (hS:RdSt_one g Af cf fs ad cp ps pn At ct ts Ag cg gs lost wrong offT may last pw pk p1 p2 p3 p4 p5 B wB w) (hM:MapIs w B M) (hG:GoodR offT may ts.length (ptones ps pn).length last M) (hg:mget M i j=none) (hn:may i j=false) :
    Calls Tryd.prog 128 #[.agg #[.int .i64 x,.int .i64 y],.pointer (some ⟨p1,0,none⟩),.pointer (some ⟨p2,0,none⟩),.pointer (some ⟨p3,0,none⟩),.pointer (some ⟨p4,0,none⟩),.pointer (some ⟨p5,0,none⟩)] w fun e w' =>
      e=.returned (.int .i64 (fromR offT may (ptones ps pn).length last (r+1) i j))∧w.grownBy w' (some B)∧RdSt_one g Af cf fs ad cp ps pn At ct ts Ag cg gs lost wrong offT may last pw pk p1 p2 p3 p4 p5 B wB w':=by
  have HV:Aside0 (fromR offT may (ptones ps pn).length last (r+1) i j=1000):=⟨by unfold fromR;rw [hn];simp⟩
  subst hx
  subst hy
  have hi:i<ts.length:=by omega
  have e1:=hS.h1
  have e2:=hS.h2
  have e3:=hS.h3
  have e4:=hS.h4
  have e5:=hS.h5
  have l1:=World.block_lt_of_cell? w _ e1
  have l2:=World.block_lt_of_cell? w _ e2.1
  have l3:=World.block_lt_of_cell? w _ e3
  have l4:=World.block_lt_of_cell? w _ e4
  have l5:=World.block_lt_of_cell? w _ e5
  simp only at l1 l2 l3 l4 l5
  obtain ⟨s0,s1,s2,s3,s4,s5,s6,s7⟩:=e2
  have HG:=Aside0.mk hg
  have HM:=Aside0.mk hM
  have HS:=Aside0.mk hS
  have HGG:=Aside0.mk hG
  have HOFF:=Aside0.mk hoff
  have HMAY:=Aside0.mk hmay
  have HO:=Aside0.mk ho
  have hbd:=ho i j
  have HR:=Aside0.mk (show ts.length - i=r+1 by omega)
  have hwi:IntKind.i64.wrap ((i:Int)+1)=(i:Int)+1:=IntWalk.i64_in _ (by omega)
  clear hg hM hG hS hoff hmay ho
  go_enter Tryd.func128,Tryd.ntmps128
  go_wp2_with (first|(at_lookup;refine wp_lookup_spot2 key107 Tryd.underlying157 rfl _ _ rfl B rfl _ _ rfl (HM.out.alloc _) _ (zero3 _) (.int .i64 0) (by rw [HG.out];rfl) false (by rw [HG.out];rfl) ?_)|(go_at_call 129;refine (HOFF.out _ (HS.out.hb.trans ((below_alloc (Below.refl _ w) _).mono HS.out.hb.size)) i j hi hj).mono ?_;rintro e w2 ⟨rfl,hb2⟩;have hB2:=(below_alloc (Below.refl _ w) (Obj.cells #[Value.int IntKind.i64 ↑i,Value.int IntKind.i64 ↑j] 107)).trans (hb2.mono (by simp));have x0:w2.cell? ⟨w.heap.size,0,none⟩=some (.int .i64 i):=kc hb2 (by go_simp);have x1:w2.cell? ⟨w.heap.size,1,none⟩=some (.int .i64 j):=kc hb2 (by go_simp);replace e1:=kc hB2 e1;replace s0:=kc hB2 s0;replace s1:=kc hB2 s1;replace s2:=kc hB2 s2;replace s3:=kc hB2 s3;replace s4:=kc hB2 s4;replace s5:=kc hB2 s5;replace s6:=kc hB2 s6;replace s7:=kc hB2 s7;replace e3:=kc hB2 e3;replace e4:=kc hB2 e4;replace e5:=kc hB2 e5;have HB2:=Aside0.mk hB2;clear hb2 hB2 l1 l2 l3 l4 l5)|(go_at_call 70;refine (HMAY.out _ (HS.out.hb.trans (HB2.out.mono HS.out.hb.size)) i j hi hj).mono ?_;rintro e w3 ⟨rfl,hb3⟩;replace x0:=kc hb3 x0;replace x1:=kc hb3 x1;replace e1:=kc hb3 e1;replace s0:=kc hb3 s0;replace s1:=kc hb3 s1;replace s2:=kc hb3 s2;replace s3:=kc hb3 s3;replace s4:=kc hb3 s4;replace s5:=kc hb3 s5;replace s6:=kc hb3 s6;replace s7:=kc hb3 s7;replace e3:=kc hb3 e3;replace e4:=kc hb3 e4;replace e5:=kc hb3 e5;have HB3:=Aside0.mk (HB2.out.trans (hb3.mono HB2.out.size));clear hb3 HB2;have l1:=World.block_lt_of_cell? w3 _ e1;have l2:=World.block_lt_of_cell? w3 _ s0;have l3:=World.block_lt_of_cell? w3 _ e3;have l4:=World.block_lt_of_cell? w3 _ e4;have l5:=World.block_lt_of_cell? w3 _ e5;have l6:=World.block_lt_of_cell? w3 _ x0;simp only at l1 l2 l3 l4 l5 l6)|(at_mapUpdate;refine wp_update_spot key107 Tryd.underlying157 rfl _ _ _ rfl B rfl _ _ rfl _ rfl (HM.out.below HB3.out) ?_;intro w9 hM9 hG9 hS9))
  go_ret
  exact ⟨ret_i64 HV.out.symm,(grown_of_below HB3.out (some B)).trans hG9,(HS.out.below HB3.out).grown hG9 ⟨_,hM9,HGG.out.put i j (congrArg (Value.int IntKind.i64) (by rw [HR.out];exact HV.out.symm))⟩⟩
set_option maxRecDepth 100000 in
set_option maxHeartbeats 1000000 in
theorem reads1_one_leaf (hp:pn<ps.length) (hm:ts.length≤1000) (hpl:(ptones ps pn).length≤1000) (hla:last≤1000) (ho:∀ i j,0≤offT i j∧offT i j≤1000)
    (hoff:∀ w,Below wB.heap.size wB w→∀ i j:Nat,i<ts.length→j<(ptones ps pn).length→Calls Tryd.prog 129 #[bkv g Af cf fs (some ad) cp ps pn At ct ts Ag cg gs lost wrong,.agg #[.int .i64 i,.int .i64 j]] w fun e w'=>e=.returned (.int .i64 (offT i j))∧Below w.heap.size w w')
    (hmay:∀ w,Below wB.heap.size wB w→∀ i j:Nat,i<ts.length→j<(ptones ps pn).length→Calls Tryd.prog 70 #[.agg #[.int .i64 i,.int .i64 j],.pointer (some ⟨pw,0,none⟩),.pointer (some ⟨pk,0,none⟩)] w fun e w'=>e=.returned (.bool (may i j))∧Below w.heap.size w w')
    (r i j:Nat) (x y:Int) (M:SM) (w:World) (hx:x=i) (hy:y=j) (hr:i+r+1=ts.length) (hj:j<(ptones ps pn).length) (hS:RdSt_one g Af cf fs ad cp ps pn At ct ts Ag cg gs lost wrong offT may last pw pk p1 p2 p3 p4 p5 B wB w) (hM:MapIs w B M) (hG:GoodR offT may ts.length (ptones ps pn).length last M) (hg:mget M i j=none) (hn:may i j=true) (hn2:offT i j=1000∨offT i j<1000∧r=0) :
    Calls Tryd.prog 128 #[.agg #[.int .i64 x,.int .i64 y],.pointer (some ⟨p1,0,none⟩),.pointer (some ⟨p2,0,none⟩),.pointer (some ⟨p3,0,none⟩),.pointer (some ⟨p4,0,none⟩),.pointer (some ⟨p5,0,none⟩)] w fun e w' =>
      e=.returned (.int .i64 (fromR offT may (ptones ps pn).length last (r+1) i j))∧w.grownBy w' (some B)∧RdSt_one g Af cf fs ad cp ps pn At ct ts Ag cg gs lost wrong offT may last pw pk p1 p2 p3 p4 p5 B wB w':=by
  have HV:Aside0 (fromR offT may (ptones ps pn).length last (r+1) i j=offT i j):=⟨by
    unfold fromR;rw [hn,if_pos rfl,if_neg];rintro ⟨h1,h2⟩;omega⟩
  obtain ⟨N,hN⟩:∃ N,offT i j=N:=⟨_,rfl⟩
  subst hx
  subst hy
  have hi:i<ts.length:=by omega
  have e1:=hS.h1
  have e2:=hS.h2
  have e3:=hS.h3
  have e4:=hS.h4
  have e5:=hS.h5
  have l1:=World.block_lt_of_cell? w _ e1
  have l2:=World.block_lt_of_cell? w _ e2.1
  have l3:=World.block_lt_of_cell? w _ e3
  have l4:=World.block_lt_of_cell? w _ e4
  have l5:=World.block_lt_of_cell? w _ e5
  simp only at l1 l2 l3 l4 l5
  obtain ⟨s0,s1,s2,s3,s4,s5,s6,s7⟩:=e2
  have HG:=Aside0.mk hg
  have HM:=Aside0.mk hM
  have HS:=Aside0.mk hS
  have HGG:=Aside0.mk hG
  have HOFF:=Aside0.mk hoff
  have HMAY:=Aside0.mk hmay
  have HO:=Aside0.mk ho
  have hbd:=ho i j
  have HR:=Aside0.mk (show ts.length - i=r+1 by omega)
  have hwi:IntKind.i64.wrap ((i:Int)+1)=(i:Int)+1:=IntWalk.i64_in _ (by omega)
  clear hg hM hG hS hoff hmay ho
  rw [hN] at HV hbd hn2
  rcases hn2 with rfl | ⟨hlt,rfl⟩
  · go_enter Tryd.func128,Tryd.ntmps128
    go_wp2_with (first|(at_lookup;refine wp_lookup_spot2 key107 Tryd.underlying157 rfl _ _ rfl B rfl _ _ rfl (HM.out.alloc _) _ (zero3 _) (.int .i64 0) (by rw [HG.out];rfl) false (by rw [HG.out];rfl) ?_)|(go_at_call 129;refine (HOFF.out _ (HS.out.hb.trans ((below_alloc (Below.refl _ w) _).mono HS.out.hb.size)) i j hi hj).mono ?_;rintro e w2 ⟨rfl,hb2⟩;have hB2:=(below_alloc (Below.refl _ w) (Obj.cells #[Value.int IntKind.i64 ↑i,Value.int IntKind.i64 ↑j] 107)).trans (hb2.mono (by simp));have x0:w2.cell? ⟨w.heap.size,0,none⟩=some (.int .i64 i):=kc hb2 (by go_simp);have x1:w2.cell? ⟨w.heap.size,1,none⟩=some (.int .i64 j):=kc hb2 (by go_simp);replace e1:=kc hB2 e1;replace s0:=kc hB2 s0;replace s1:=kc hB2 s1;replace s2:=kc hB2 s2;replace s3:=kc hB2 s3;replace s4:=kc hB2 s4;replace s5:=kc hB2 s5;replace s6:=kc hB2 s6;replace s7:=kc hB2 s7;replace e3:=kc hB2 e3;replace e4:=kc hB2 e4;replace e5:=kc hB2 e5;have HB2:=Aside0.mk hB2;clear hb2 hB2 l1 l2 l3 l4 l5)|(go_at_call 70;refine (HMAY.out _ (HS.out.hb.trans (HB2.out.mono HS.out.hb.size)) i j hi hj).mono ?_;rintro e w3 ⟨rfl,hb3⟩;replace x0:=kc hb3 x0;replace x1:=kc hb3 x1;replace e1:=kc hb3 e1;replace s0:=kc hb3 s0;replace s1:=kc hb3 s1;replace s2:=kc hb3 s2;replace s3:=kc hb3 s3;replace s4:=kc hb3 s4;replace s5:=kc hb3 s5;replace s6:=kc hb3 s6;replace s7:=kc hb3 s7;replace e3:=kc hb3 e3;replace e4:=kc hb3 e4;replace e5:=kc hb3 e5;have HB3:=Aside0.mk (HB2.out.trans (hb3.mono HB2.out.size));clear hb3 HB2;have l1:=World.block_lt_of_cell? w3 _ e1;have l2:=World.block_lt_of_cell? w3 _ s0;have l3:=World.block_lt_of_cell? w3 _ e3;have l4:=World.block_lt_of_cell? w3 _ e4;have l5:=World.block_lt_of_cell? w3 _ e5;have l6:=World.block_lt_of_cell? w3 _ x0;simp only at l1 l2 l3 l4 l5 l6)|(at_mapUpdate;refine wp_update_spot key107 Tryd.underlying157 rfl _ _ _ rfl B rfl _ _ rfl _ rfl (HM.out.below HB3.out) ?_;intro w9 hM9 hG9 hS9))
    go_ret
    exact ⟨ret_i64 HV.out.symm,(grown_of_below HB3.out (some B)).trans hG9,(HS.out.below HB3.out).grown hG9 ⟨_,hM9,HGG.out.put i j (congrArg (Value.int IntKind.i64) (by rw [HR.out];exact HV.out.symm))⟩⟩
  · have hd1:=decide_eq_true hlt
    go_enter Tryd.func128,Tryd.ntmps128
    go_wp2_with (first|(at_lookup;refine wp_lookup_spot2 key107 Tryd.underlying157 rfl _ _ rfl B rfl _ _ rfl (HM.out.alloc _) _ (zero3 _) (.int .i64 0) (by rw [HG.out];rfl) false (by rw [HG.out];rfl) ?_)|(go_at_call 129;refine (HOFF.out _ (HS.out.hb.trans ((below_alloc (Below.refl _ w) _).mono HS.out.hb.size)) i j hi hj).mono ?_;rintro e w2 ⟨rfl,hb2⟩;have hB2:=(below_alloc (Below.refl _ w) (Obj.cells #[Value.int IntKind.i64 ↑i,Value.int IntKind.i64 ↑j] 107)).trans (hb2.mono (by simp));have x0:w2.cell? ⟨w.heap.size,0,none⟩=some (.int .i64 i):=kc hb2 (by go_simp);have x1:w2.cell? ⟨w.heap.size,1,none⟩=some (.int .i64 j):=kc hb2 (by go_simp);replace e1:=kc hB2 e1;replace s0:=kc hB2 s0;replace s1:=kc hB2 s1;replace s2:=kc hB2 s2;replace s3:=kc hB2 s3;replace s4:=kc hB2 s4;replace s5:=kc hB2 s5;replace s6:=kc hB2 s6;replace s7:=kc hB2 s7;replace e3:=kc hB2 e3;replace e4:=kc hB2 e4;replace e5:=kc hB2 e5;have HB2:=Aside0.mk hB2;clear hb2 hB2 l1 l2 l3 l4 l5)|(go_at_call 70;refine (HMAY.out _ (HS.out.hb.trans (HB2.out.mono HS.out.hb.size)) i j hi hj).mono ?_;rintro e w3 ⟨rfl,hb3⟩;replace x0:=kc hb3 x0;replace x1:=kc hb3 x1;replace e1:=kc hb3 e1;replace s0:=kc hb3 s0;replace s1:=kc hb3 s1;replace s2:=kc hb3 s2;replace s3:=kc hb3 s3;replace s4:=kc hb3 s4;replace s5:=kc hb3 s5;replace s6:=kc hb3 s6;replace s7:=kc hb3 s7;replace e3:=kc hb3 e3;replace e4:=kc hb3 e4;replace e5:=kc hb3 e5;have HB3:=Aside0.mk (HB2.out.trans (hb3.mono HB2.out.size));clear hb3 HB2;have l1:=World.block_lt_of_cell? w3 _ e1;have l2:=World.block_lt_of_cell? w3 _ s0;have l3:=World.block_lt_of_cell? w3 _ e3;have l4:=World.block_lt_of_cell? w3 _ e4;have l5:=World.block_lt_of_cell? w3 _ e5;have l6:=World.block_lt_of_cell? w3 _ x0;simp only at l1 l2 l3 l4 l5 l6)|(at_mapUpdate;refine wp_update_spot key107 Tryd.underlying157 rfl _ _ _ rfl B rfl _ _ rfl _ rfl (HM.out.below HB3.out) ?_;intro w9 hM9 hG9 hS9))
    go_ret
    exact ⟨ret_i64 HV.out.symm,(grown_of_below HB3.out (some B)).trans hG9,(HS.out.below HB3.out).grown hG9 ⟨_,hM9,HGG.out.put i j (congrArg (Value.int IntKind.i64) (by rw [HR.out];exact HV.out.symm))⟩⟩
set_option maxRecDepth 100000 in
set_option maxHeartbeats 1000000 in
theorem reads1_one_loop (hp:pn<ps.length) (hm:ts.length≤1000) (hpl:(ptones ps pn).length≤1000) (hla:last≤1000) (ho:∀ i j,0≤offT i j∧offT i j≤1000)
    (hoff:∀ w,Below wB.heap.size wB w→∀ i j:Nat,i<ts.length→j<(ptones ps pn).length→Calls Tryd.prog 129 #[bkv g Af cf fs (some ad) cp ps pn At ct ts Ag cg gs lost wrong,.agg #[.int .i64 i,.int .i64 j]] w fun e w'=>e=.returned (.int .i64 (offT i j))∧Below w.heap.size w w')
    (hmay:∀ w,Below wB.heap.size wB w→∀ i j:Nat,i<ts.length→j<(ptones ps pn).length→Calls Tryd.prog 70 #[.agg #[.int .i64 i,.int .i64 j],.pointer (some ⟨pw,0,none⟩),.pointer (some ⟨pk,0,none⟩)] w fun e w'=>e=.returned (.bool (may i j))∧Below w.heap.size w w')
    (r i j:Nat) (x y:Int) (M:SM) (w:World) (hx:x=i) (hy:y=j) (hr:i+(r+1)+1=ts.length) (hj:j<(ptones ps pn).length) (hS:RdSt_one g Af cf fs ad cp ps pn At ct ts Ag cg gs lost wrong offT may last pw pk p1 p2 p3 p4 p5 B wB w) (hM:MapIs w B M) (hG:GoodR offT may ts.length (ptones ps pn).length last M) (hg:mget M i j=none) (hn:may i j=true) (hn2:offT i j<1000)
    (A1:Option Addr) (c1:Nat) (hx1:wB.cell? ⟨(ad.add (pn * 2)).block,(ad.add (pn * 2)).off+1,none⟩=some (.slice A1 (ptones ps pn).length c1))
    (ih:∀ (j:Nat) (x y:Int) (w:World),x=(i+1:Nat)→y=j→j<(ptones ps pn).length→RdSt_one g Af cf fs ad cp ps pn At ct ts Ag cg gs lost wrong offT may last pw pk p1 p2 p3 p4 p5 B wB w →
      Calls Tryd.prog 128 #[.agg #[.int .i64 x,.int .i64 y],.pointer (some ⟨p1,0,none⟩),.pointer (some ⟨p2,0,none⟩),.pointer (some ⟨p3,0,none⟩),.pointer (some ⟨p4,0,none⟩),.pointer (some ⟨p5,0,none⟩)] w fun e w'=>e=.returned (.int .i64 (fromR offT may (ptones ps pn).length last (r+1) (i+1) j))∧w.grownBy w' (some B)∧RdSt_one g Af cf fs ad cp ps pn At ct ts Ag cg gs lost wrong offT may last pw pk p1 p2 p3 p4 p5 B wB w') :
    Calls Tryd.prog 128 #[.agg #[.int .i64 x,.int .i64 y],.pointer (some ⟨p1,0,none⟩),.pointer (some ⟨p2,0,none⟩),.pointer (some ⟨p3,0,none⟩),.pointer (some ⟨p4,0,none⟩),.pointer (some ⟨p5,0,none⟩)] w fun e w' =>
      e=.returned (.int .i64 (fromR offT may (ptones ps pn).length last (r+1+1) i j))∧w.grownBy w' (some B)∧RdSt_one g Af cf fs ad cp ps pn At ct ts Ag cg gs lost wrong offT may last pw pk p1 p2 p3 p4 p5 B wB w':=by
  have IH:=Aside0.mk ih
  have HX1:=Aside0.mk hx1
  clear ih hx1
  subst hx
  subst hy
  have hi:i<ts.length:=by omega
  have e1:=hS.h1
  have e2:=hS.h2
  have e3:=hS.h3
  have e4:=hS.h4
  have e5:=hS.h5
  have l1:=World.block_lt_of_cell? w _ e1
  have l2:=World.block_lt_of_cell? w _ e2.1
  have l3:=World.block_lt_of_cell? w _ e3
  have l4:=World.block_lt_of_cell? w _ e4
  have l5:=World.block_lt_of_cell? w _ e5
  simp only at l1 l2 l3 l4 l5
  obtain ⟨s0,s1,s2,s3,s4,s5,s6,s7⟩:=e2
  have HG:=Aside0.mk hg
  have HM:=Aside0.mk hM
  have HS:=Aside0.mk hS
  have HGG:=Aside0.mk hG
  have HOFF:=Aside0.mk hoff
  have HMAY:=Aside0.mk hmay
  have HO:=Aside0.mk ho
  have hbd:=ho i j
  have HR:=Aside0.mk (show ts.length - i=r+1+1 by omega)
  have hwi:IntKind.i64.wrap ((i:Int)+1)=(i:Int)+1:=IntWalk.i64_in _ (by omega)
  clear hg hM hG hS hoff hmay ho
  have hd1:decide (offT i j<1000)=true:=decide_eq_true hn2
  have hd2:decide ((i:Int)+1<(ts.length:Int))=true:=decide_eq_true (by omega)
  have HV:Aside0 (fromR offT may (ptones ps pn).length last (r+1+1) i j=mn 1000 (offT i j+(behL (ptones ps pn).length (j+1) (last - j)).foldl (fun a k=>mn a (fromR offT may (ptones ps pn).length last (r+1) (i+1) k.val)) 1000)):=⟨by
    rw [fromR.eq_2,hn,if_pos rfl,if_pos ⟨hn2,by omega⟩]⟩
  obtain ⟨N,hN⟩:∃ N,offT i j=N:=⟨_,rfl⟩
  rw [hN] at HV hbd hn2 hd1
  refine (callsIn_wide (n:=9)).1 (callsIn_of_wp_marks Tryd.func128 rfl trivial ?_ rfl)
  simp only [Tryd.ntmps128,List.size_toArray,List.length_cons,List.length_nil,Nat.reduceAdd,Nat.reduceSub,Array.replicate_succ,Array.replicate_zero,List.push_toArray,List.append_toArray,List.nil_append,List.cons_append]
  refine wpIn_wide.2 ?_
  go_wp2_with (first|(at_lookup;refine wp_lookup_spot2 key107 Tryd.underlying157 rfl _ _ rfl B rfl _ _ rfl (HM.out.alloc _) _ (zero3 _) (.int .i64 0) (by rw [HG.out];rfl) false (by rw [HG.out];rfl) ?_)|(go_at_call 129;refine (HOFF.out _ (HS.out.hb.trans ((below_alloc (Below.refl _ w) _).mono HS.out.hb.size)) i j hi hj).mono ?_;rintro e w2 ⟨rfl,hb2⟩;have hB2:=(below_alloc (Below.refl _ w) (Obj.cells #[Value.int IntKind.i64 ↑i,Value.int IntKind.i64 ↑j] 107)).trans (hb2.mono (by simp));have x0:w2.cell? ⟨w.heap.size,0,none⟩=some (.int .i64 i):=kc hb2 (by go_simp);have x1:w2.cell? ⟨w.heap.size,1,none⟩=some (.int .i64 j):=kc hb2 (by go_simp);replace e1:=kc hB2 e1;replace s0:=kc hB2 s0;replace s1:=kc hB2 s1;replace s2:=kc hB2 s2;replace s3:=kc hB2 s3;replace s4:=kc hB2 s4;replace s5:=kc hB2 s5;replace s6:=kc hB2 s6;replace s7:=kc hB2 s7;replace e3:=kc hB2 e3;replace e4:=kc hB2 e4;replace e5:=kc hB2 e5;have HB2:=Aside0.mk hB2;clear hb2 hB2 l1 l2 l3 l4 l5)|(go_at_call 70;refine (HMAY.out _ (HS.out.hb.trans (HB2.out.mono HS.out.hb.size)) i j hi hj).mono ?_;rintro e w3 ⟨rfl,hb3⟩;replace x0:=kc hb3 x0;replace x1:=kc hb3 x1;replace e1:=kc hb3 e1;replace s0:=kc hb3 s0;replace s1:=kc hb3 s1;replace s2:=kc hb3 s2;replace s3:=kc hb3 s3;replace s4:=kc hb3 s4;replace s5:=kc hb3 s5;replace s6:=kc hb3 s6;replace s7:=kc hb3 s7;replace e3:=kc hb3 e3;replace e4:=kc hb3 e4;replace e5:=kc hb3 e5;have HB3:=Aside0.mk (HB2.out.trans (hb3.mono HB2.out.size));clear hb3 HB2;have l1:=World.block_lt_of_cell? w3 _ e1;have l2:=World.block_lt_of_cell? w3 _ s0;have l3:=World.block_lt_of_cell? w3 _ e3;have l4:=World.block_lt_of_cell? w3 _ e4;have l5:=World.block_lt_of_cell? w3 _ e5;have l6:=World.block_lt_of_cell? w3 _ x0;simp only at l1 l2 l3 l4 l5 l6)|(go_at_call 130;refine (behind_in (Ap:=some ad) (g:=g) (cf:=cf) (cp:=cp) (ct:=ct) (cg:=cg) (lost:=lost) (wrong:=wrong) (At:=At) (ts:=ts) (Ag:=Ag) (gs:=gs) (Af:=Af) (fs:=fs) (ps:=ps) (pn:=pn) j last _).mono ?_;rintro e w4 ⟨rfl,rfl⟩))
  have cX:Boxed (w3.alloc (Obj.cells #[Value.int IntKind.i64 1000] 3)) w3.heap.size 3 (.int .i64 1000):=Boxed.new _ _ _
  have hbW:=(((below_alloc (Below.refl _ w3) (Obj.cells #[Value.int IntKind.i64 1000] 3)).alloc (by simp) (Obj.cells #[Value.int IntKind.i64 g,Value.slice Af fs.length cf,Value.slice (some ad) ps.length cp,Value.int IntKind.i64 ↑pn,Value.slice At ts.length ct,Value.slice Ag gs.length cg,Value.int IntKind.i64 lost,Value.int IntKind.i64 wrong] 94)).alloc (by simp;omega) (Obj.cells #[Value.int IntKind.i64 ↑j] 3)).alloc (by simp;omega) (Obj.cells #[Value.int IntKind.i64 ↑last] 3)
  replace cX:=((cX.alloc (Obj.cells #[Value.int IntKind.i64 g,Value.slice Af fs.length cf,Value.slice (some ad) ps.length cp,Value.int IntKind.i64 ↑pn,Value.slice At ts.length ct,Value.slice Ag gs.length cg,Value.int IntKind.i64 lost,Value.int IntKind.i64 wrong] 94)).alloc (Obj.cells #[Value.int IntKind.i64 ↑j] 3)).alloc (Obj.cells #[Value.int IntKind.i64 ↑last] 3)
  have z0:((((w3.alloc (Obj.cells #[Value.int IntKind.i64 1000] 3)).alloc (Obj.cells #[Value.int IntKind.i64 g,Value.slice Af fs.length cf,Value.slice (some ad) ps.length cp,Value.int IntKind.i64 ↑pn,Value.slice At ts.length ct,Value.slice Ag gs.length cg,Value.int IntKind.i64 lost,Value.int IntKind.i64 wrong] 94)).alloc (Obj.cells #[Value.int IntKind.i64 ↑j] 3)).alloc (Obj.cells #[Value.int IntKind.i64 ↑last] 3)).heap.size=w3.heap.size+4:=by simp
  have S3:=Aside0.mk (HS.out.below HB3.out)
  have HI:Aside0 (ItF g Af cf fs ad cp ps pn At ct ts Ag cg gs lost wrong A1 c1 wB.heap.size (w3.heap.size+1+1) (w3.heap.size+1+1+1) (w3.heap.size+1) j last ((((w3.alloc (Obj.cells #[Value.int IntKind.i64 1000] 3)).alloc (Obj.cells #[Value.int IntKind.i64 g,Value.slice Af fs.length cf,Value.slice (some ad) ps.length cp,Value.int IntKind.i64 ↑pn,Value.slice At ts.length ct,Value.slice Ag gs.length cg,Value.int IntKind.i64 lost,Value.int IntKind.i64 wrong] 94)).alloc (Obj.cells #[Value.int IntKind.i64 ↑j] 3)).alloc (Obj.cells #[Value.int IntKind.i64 ↑last] 3))) :=
    ⟨by go_simp,by go_simp,by refine ⟨?_,?_,?_,?_,?_,?_,?_,?_⟩ <;> go_simp,kc hbW ((S3.out.hb.cell (p:=⟨(ad.add (pn * 2)).block,(ad.add (pn * 2)).off+1,none⟩) (World.block_lt_of_cell? wB ⟨(ad.add (pn * 2)).block,(ad.add (pn * 2)).off+1,none⟩ HX1.out)).trans HX1.out),World.block_lt_of_cell? wB ⟨(ad.add (pn * 2)).block,(ad.add (pn * 2)).off+1,none⟩ HX1.out⟩
  have HZ:=S3.out.hb.size
  have HBl:Aside0 (B<w.heap.size):=⟨HM.out.lt⟩
  have HzB:=HB3.out.size
  have HBB:=Aside0.mk HS.out.hB
  have HM3:=HM.out.below HB3.out
  have HM0:=Aside0.mk (HM3.below hbW)
  have HG0:=Aside0.mk (grown_of_below hbW (some B))
  obtain ⟨W0,hW0⟩:∃ W0,((((w3.alloc (Obj.cells #[Value.int IntKind.i64 1000] 3)).alloc (Obj.cells #[Value.int IntKind.i64 g,Value.slice Af fs.length cf,Value.slice (some ad) ps.length cp,Value.int IntKind.i64 ↑pn,Value.slice At ts.length ct,Value.slice Ag gs.length cg,Value.int IntKind.i64 lost,Value.int IntKind.i64 wrong] 94)).alloc (Obj.cells #[Value.int IntKind.i64 ↑j] 3)).alloc (Obj.cells #[Value.int IntKind.i64 ↑last] 3))=W0:=⟨_,rfl⟩
  rw [hW0] at cX hbW z0 HI HM0 HG0 ⊢
  clear hW0
  obtain ⟨z,hz⟩:∃ z,w3.heap.size=z:=⟨_,rfl⟩
  obtain ⟨b0,hb0⟩:∃ b0,w.heap.size=b0:=⟨_,rfl⟩
  have Z:=Aside0.mk hz
  have Zb:=Aside0.mk hb0
  rw [hz] at cX hbW z0 HI l1 l2 l3 l4 l5 l6 HZ HzB ⊢
  rw [hb0] at x0 x1 l6 HBl HzB ⊢
  clear hz hb0
  obtain ⟨fv,hfv⟩:∃ fv:Nat→Int,(fun k=>fromR offT may (ptones ps pn).length last (r+1) (i+1) k)=fv:=⟨_,rfl⟩
  have hfvb:∀ k,0≤fv k∧fv k≤1000:=fun k=>by rw [← hfv];exact fromR_bd HO.out _ _ _
  have HF:=Aside0.mk hfv
  have HFB:=Aside0.mk hfvb
  have HVV:Aside0 (fromR offT may (ptones ps pn).length last (r+1+1) i j=mn 1000 (N+(behL (ptones ps pn).length (j+1) (last - j)).foldl (fun a k=>mn a (fv k.val)) 1000)):=⟨by rw [HV.out,← hfv]⟩
  have IH2:Aside0 (∀ (j:Nat) (x y:Int) (w:World),x=(i+1:Nat)→y=j→j<(ptones ps pn).length→RdSt_one g Af cf fs ad cp ps pn At ct ts Ag cg gs lost wrong offT may last pw pk p1 p2 p3 p4 p5 B wB w →
      Calls Tryd.prog 128 #[.agg #[.int .i64 x,.int .i64 y],.pointer (some ⟨p1,0,none⟩),.pointer (some ⟨p2,0,none⟩),.pointer (some ⟨p3,0,none⟩),.pointer (some ⟨p4,0,none⟩),.pointer (some ⟨p5,0,none⟩)] w fun e w'=>e=.returned (.int .i64 (fv j))∧w.grownBy w' (some B)∧RdSt_one g Af cf fs ad cp ps pn At ct ts Ag cg gs lost wrong offT may last pw pk p1 p2 p3 p4 p5 B wB w'):=⟨by rw [← hfv];exact IH.out⟩
  clear hfv hfvb HV IH
  have hlt0:w3.heap.size≤W0.heap.size:=by have:=Z.out;omega
  refine (wpIn_wide (n:=9)).1 ?_
  refine wpIn_rangeFunc_ownG (α:=Fin (ptones ps pn).length) rfl (by decide) (gf:=138) (lb:=#[.pointer (some ⟨z+1+1,0,none⟩),.pointer (some ⟨z+1+1+1,0,none⟩),.pointer (some ⟨z+1,0,none⟩)]) rfl trivial (enters_of Tryd.func138 (by kernel_rfl) rfl)
    (behind1_stops (n:=8) hp A1 c1 wB.heap.size (z+1+1) (z+1+1+1) (z+1) j last hj hpl hla (by decide) W0 HI.out) KpB.t (KpB.b (by omega) (by omega) (by omega) (by omega)) (Below.refl _ _) (fun _=>rfl)
    (fun pre W=>(Boxed W z 3 (.int .i64 (pre.foldl (fun a k=>mn a (fv k.val)) 1000))∧w3.grownBy W (some B))∧∃ M,MapIs W B M∧GoodR offT may ts.length (ptones ps pn).length last M)
    (fun _ _ _=>False)
    (by
      rintro s X Y row ⟨⟨h1,h2⟩,M',h3,h4⟩ hg hr
      refine ⟨⟨h1.kept hg (fun e=>?_),h2.andThen hg (fun q e=>.inl ?_)⟩,M',h3.block (hg.block B h3.lt (fun e=>?_)),h4⟩
      · have:=(hr _ e.symm).1;omega
      · have:=(hr _ e).1;omega
      · have:=(hr _ e.symm).1;have:=HBl.out;omega)
    (fun _ _ _ _ _ hs _ _=>hs)
    ⟨⟨cX,HG0.out⟩,M,HM0.out,HGG.out⟩
    (fun x=>{ tmps:=#[Value.agg #[Value.int IntKind.i64 ↑i,Value.int IntKind.i64 ↑j],Value.pointer (some { block:=p1,off:=0 }),Value.pointer (some { block:=p2,off:=0 }),Value.pointer (some { block:=p3,off:=0 }),Value.pointer (some { block:=p4,off:=0 }),Value.pointer (some { block:=p5,off:=0 }),Value.pointer (some { block:=b0,off:=0 }),Value.int IntKind.i64 0,Value.int IntKind.i64 0,Value.bool false,Value.int IntKind.i64 N,Value.pointer (some { block:=z,off:=0 }),Value.int IntKind.i64 (x.val:Nat),Value.tuple #[Value.int IntKind.i64 0,Value.bool false],Value.map (some B),Value.agg #[Value.int IntKind.i64 ↑i,Value.int IntKind.i64 ↑j],Value.tuple #[Value.int IntKind.i64 0,Value.bool false],Value.int IntKind.i64 0,Value.bool false,Value.bool false,undef,Value.agg #[Value.int IntKind.i64 g,Value.slice Af fs.length cf,Value.slice (some ad) ps.length cp,Value.int IntKind.i64 ↑pn,Value.slice At ts.length ct,Value.slice Ag gs.length cg,Value.int IntKind.i64 lost,Value.int IntKind.i64 wrong],Value.agg #[Value.int IntKind.i64 ↑i,Value.int IntKind.i64 ↑j],Value.int IntKind.i64 N,Value.pointer (some { block:=p3,off:=0 }),Value.func (.func 70) #[] #[.pointer (some ⟨pw,0,none⟩),.pointer (some ⟨pk,0,none⟩)],Value.agg #[Value.int IntKind.i64 ↑i,Value.int IntKind.i64 ↑j],Value.bool true,Value.bool false,Value.int IntKind.i64 N,Value.bool true,Value.bool true,Value.pointer (some { block:=b0,off:=0 }),Value.int IntKind.i64 ↑i,Value.int IntKind.i64 (↑i+1),Value.pointer (some { block:=p2,off:=4 }),Value.pointer (some { block:=p2,off:=4 }),Value.slice At ts.length ct,Value.int IntKind.i64 ↑ts.length,Value.bool true,Value.bool true,Value.agg #[Value.int IntKind.i64 g,Value.slice Af fs.length cf,Value.slice (some ad) ps.length cp,Value.int IntKind.i64 ↑pn,Value.slice At ts.length ct,Value.slice Ag gs.length cg,Value.int IntKind.i64 lost,Value.int IntKind.i64 wrong],Value.pointer (some { block:=b0,off:=1 }),Value.int IntKind.i64 ↑j,Value.int IntKind.i64 ↑last,Value.func (Fn.func 138) #[] #[Value.pointer (some { block:=z+1+1,off:=0 }),Value.pointer (some { block:=z+1+1+1,off:=0 }),Value.pointer (some { block:=z+1,off:=0 })],Value.int IntKind.i64 (x.val:Nat),undef,undef,undef,undef,undef,undef,undef,undef,undef,undef,undef,undef,undef,undef,undef,undef,undef,undef,undef],defers:=[] }) ?assign ?body ?done ?stop
  case assign =>
    intro l x W K hK
    gi_wp2
    exact hK
  case body =>
    rintro l pre x W ⟨⟨hbx,hgw⟩,M',hM',hG'⟩ hlt
    rename_i Q0 K1 a1 K2 a2
    clear a1 a2 K1 K2 Q0
    have hFOb:=foldl_mn (fun k:Fin (ptones ps pn).length=>fv k.val) (fun k=>(HFB.out k.val).1) pre 1000 (by omega) (by omega)
    have hFx:=HFB.out x.val
    have HFS:=Aside0.mk (show (pre ++ [x]).foldl (fun a k=>mn a (fv k.val)) 1000=mn (pre.foldl (fun a k=>mn a (fv k.val)) 1000) (fv x.val) by simp)
    obtain ⟨FO,hFO⟩:∃ FO,pre.foldl (fun a k=>mn a (fv k.val)) 1000=FO:=⟨_,rfl⟩
    obtain ⟨FX,hFX⟩:∃ FX,fv x.val=FX:=⟨_,rfl⟩
    have HCALL:=Aside0.mk (fun w hS=>IH2.out x.val _ _ w rfl rfl x.2 hS)
    rw [hFO] at hFOb hbx HFS
    rw [hFX] at hFx HFS HCALL
    clear hFO hFX
    have cb:=hbx.cell
    have hBb:=HBl.out
    have SW:=Aside0.mk (S3.out.grown hgw ⟨M',hM',hG'⟩)
    have y0:=hgw.cell x0 (by simp;omega)
    have y5:=hgw.cell e5 (by simpa using cell_ne_map e5 HM3)
    have HGW:=Aside0.mk hgw
    have HBX:=Aside0.mk hbx
    clear hgw hM' hG' hbx x0 x1 e1 s0 s1 s2 s3 s4 s5 s6 s7 e3 e4 e5 HM3
    refine wpIn_mono (Q:=fun e _ w'=>e=.normal∧∃ w2 w5,(W.drew.grownBy w2 (some B)∧RdSt_one g Af cf fs ad cp ps pn At ct ts Ag cg gs lost wrong offT may last pw pk p1 p2 p3 p4 p5 B wB w2)∧Below (w2.alloc (.cells #[.int .i64 FX] 3)).heap.size (w2.alloc (.cells #[.int .i64 FX] 3)) w5∧w'=w5.setCell ⟨z,0,none⟩ (.int .i64 (mn FO FX))) ?_ ?_
    · have nB:some z≠some B:=by simp;omega
      have nB0:some b0≠some B:=by simp;omega
      have n5z:some p5≠some z:=by simp;omega
      have n0z:some b0≠some z:=by simp;omega
      have hcf:=HBX.out.frozen
      have HC2:=Aside0.mk (HCALL.out _ (SW.out.below (below_drew1 (Below.refl _ W))))
      clear HG HM HS HGG HOFF HMAY HO HR HI HX1 HVV S3 HM0 HG0 HF HFB IH2 HFS HCALL HGW hm hpl hla hr hj hn hi hd1 hd2 hn2 hbd hN HZ HzB l1 l2 l3 l4 l5 l6 z0 hbW cX hlt0 hlt HB3 HBB Z Zb hBb HBl
      obtain ⟨bk,hbk⟩:∃ bk,Value.agg #[Value.int IntKind.i64 g,Value.slice Af fs.length cf,Value.slice (some ad) ps.length cp,Value.int IntKind.i64 ↑pn,Value.slice At ts.length ct,Value.slice Ag gs.length cg,Value.int IntKind.i64 lost,Value.int IntKind.i64 wrong]=bk:=⟨_,rfl⟩
      obtain ⟨fq,hfq⟩:∃ fq,Value.func (Fn.func 138) #[] #[Value.pointer (some { block:=z+1+1,off:=0 }),Value.pointer (some { block:=z+1+1+1,off:=0 }),Value.pointer (some { block:=z+1,off:=0 })]=fq:=⟨_,rfl⟩
      obtain ⟨tq,htq⟩:∃ tq,Value.tuple #[Value.int IntKind.i64 0,Value.bool false]=tq:=⟨_,rfl⟩
      obtain ⟨iq,hiq⟩:∃ iq,Value.agg #[Value.int IntKind.i64 ↑i,Value.int IntKind.i64 ↑j]=iq:=⟨_,rfl⟩
      obtain ⟨sq,hsq⟩:∃ sq,Value.slice At ts.length ct=sq:=⟨_,rfl⟩
      obtain ⟨p34,hp34⟩:∃ sq,Value.pointer (some { block:=p2,off:=4 })=sq:=⟨_,rfl⟩
      obtain ⟨p61,hp61⟩:∃ sq,Value.pointer (some { block:=b0,off:=1 })=sq:=⟨_,rfl⟩
      rw [hbk,hfq,htq,hiq,hsq,hp34,hp61]
      clear hbk hfq htq hiq hsq hp34 hp61
      refine wpIn_block ?_
      refine region_round l _ (fun w'=>w'.cell? ⟨p5,0,none⟩=some (.func (.func 128) #[] #[.pointer (some ⟨p1,0,none⟩),.pointer (some ⟨p2,0,none⟩),.pointer (some ⟨p3,0,none⟩),.pointer (some ⟨p4,0,none⟩),.pointer (some ⟨p5,0,none⟩)])∧w'.cell? ⟨b0,0,none⟩=some (.int .i64 i)) (by kernel_rfl) (by kernel_rfl) (by rintro ⟨a,w,h⟩;cases h.1) ⟨y5,y0⟩ (fun hH=>?_)
      refine wpAnyH_take (i:=1) (v:=.func (.func 128) #[] #[.pointer (some ⟨p1,0,none⟩),.pointer (some ⟨p2,0,none⟩),.pointer (some ⟨p3,0,none⟩),.pointer (some ⟨p4,0,none⟩),.pointer (some ⟨p5,0,none⟩)]) rfl (by kernel_rfl) (by kernel_rfl) (by kernel_rfl) (fun _ _ _ h=>h) (Or.inl ⟨by rfl,?_⟩) (by assumption) ?_
      · intro w hSw
        obtain ⟨g3,g4⟩:=hSw
        go_simp
      simp only [Act.put,List.setIfInBounds_toArray,List.set_cons_zero,List.set_cons_succ]
      refine wpAnyH_take (i:=2) (v:=.pointer (some ⟨b0,0,none⟩)) rfl (by kernel_rfl) (by kernel_rfl) (by kernel_rfl) (fun _ _ _ h=>h) (Or.inl ⟨by rfl,?_⟩) (by assumption) ?_
      · intro w hSw
        obtain ⟨g3,g4⟩:=hSw
        go_simp
      simp only [Act.put,List.setIfInBounds_toArray,List.set_cons_zero,List.set_cons_succ]
      refine wpAnyH_take (i:=3) (v:=.int .i64 i) rfl (by kernel_rfl) (by kernel_rfl) (by kernel_rfl) (fun _ _ _ h=>h) (Or.inl ⟨by rfl,?_⟩) (by assumption) ?_
      · intro w hSw
        obtain ⟨g3,g4⟩:=hSw
        go_simp
      simp only [Act.put,List.setIfInBounds_toArray,List.set_cons_zero,List.set_cons_succ]
      refine wpAnyH_take (i:=4) (v:=.int .i64 ((i:Int)+1)) rfl (by kernel_rfl) (by kernel_rfl) (by kernel_rfl) (fun _ _ _ h=>h) (Or.inl ⟨by rfl,?_⟩) (by assumption) ?_
      · intro w hSw
        obtain ⟨g3,g4⟩:=hSw
        go_simp
      simp only [Act.put,List.setIfInBounds_toArray,List.set_cons_zero,List.set_cons_succ]
      refine wpAnyH_take (i:=5) (v:=.int .i64 (x.val:Nat)) rfl (by kernel_rfl) (by kernel_rfl) (by kernel_rfl) (fun _ _ _ h=>h) (Or.inl ⟨by rfl,?_⟩) (by assumption) ?_
      · intro w hSw
        obtain ⟨g3,g4⟩:=hSw
        go_simp
      simp only [Act.put,List.setIfInBounds_toArray,List.set_cons_zero,List.set_cons_succ]
      refine wpAnyH_take (i:=6) (v:=.agg #[.int .i64 ((i:Int)+1),.int .i64 (x.val:Nat)]) rfl (by kernel_rfl) (by kernel_rfl) (by kernel_rfl) (fun _ _ _ h=>h) (Or.inl ⟨by rfl,?_⟩) (by assumption) ?_
      · intro w hSw
        obtain ⟨g3,g4⟩:=hSw
        go_simp
      simp only [Act.put,List.setIfInBounds_toArray,List.set_cons_zero,List.set_cons_succ]
      refine wpAnyH_ready (rs:=[0,7]) (by kernel_rfl) (by simp) ?_
      refine AllReadyH.cons rfl (fun K hK=>?_) (AllReadyH.cons rfl (fun K hK=>?_) (AllReadyH.nil))
      · go_simp
        refine hK _ _ ⟨y5,y0⟩ (fun hH=>?_)
        clear hK
        refine wpAnyH_ready (rs:=[7]) (by kernel_rfl) (by simp) ?_
        refine AllReadyH.cons rfl (fun K hK=>?_) (AllReadyH.nil)
        go_simp
        refine HC2.out.mono ?_
        rintro e w2 ⟨rfl,hg2,hS2⟩
        have BX2:=Boxed.kept (W:=W.drew) HBX.out hg2 nB
        have lz2:=BX2.lt
        have q0:=hg2.cell (a:=⟨b0,0,none⟩) y0 nB0
        have q5:=hS2.h5
        have cb2:=BX2.cell
        refine hK _ _ ⟨q5,q0⟩ (fun hH=>?_)
        clear hK
        refine wpAnyH_ready (rs:=[8]) (by kernel_rfl) (by simp) ?_
        refine AllReadyH.cons rfl (fun K hK=>?_) (AllReadyH.nil)
        go_simp
        have BX3:=BX2.alloc (.cells #[.int .i64 FX] 3)
        have hg3:=World.grownBy_alloc w2 (.cells #[.int .i64 FX] 3) none
        have q03:=hg3.cell q0 (by simp)
        have q53:=hg3.cell q5 (by simp)
        have cb3:=BX3.cell
        refine hK _ _ ⟨q53,q03⟩ (fun hH=>?_)
        clear hK
        refine wpAnyH_ready (rs:=[9]) (by kernel_rfl) (by simp) ?_
        refine AllReadyH.cons rfl (fun K hK=>?_) (AllReadyH.nil)
        go_simp
        refine (least_one FO FX w2.heap.size _ ⟨by omega,by omega⟩ ⟨by omega,by omega⟩ (by go_simp)).mono ?_
        rintro e w5 ⟨rfl,hb5⟩
        have BX5:Boxed w5 z 3 _:=(hb5.block z BX3.lt).trans BX3
        have cb5:=BX5.cell
        have cf5:=BX5.frozen
        refine hK _ _ ⟨kc hb5 q53,kc hb5 q03⟩ (fun hH=>?_)
        clear hK
        refine wpAnyH_ready (rs:=[10]) (by kernel_rfl) (by simp) ?_
        refine AllReadyH.cons rfl (fun K hK=>?_) (AllReadyH.nil)
        go_simp
        have hg6:=grownBy_setCell' w5 z (.int .i64 (mn FO FX))
        refine hK _ _ ⟨hg6.cell (kc hb5 q53) n5z,hg6.cell (kc hb5 q03) n0z⟩ (fun hH=>?_)
        clear hK
        exact wpAnyH_done (by kernel_rfl) ⟨rfl,w2,w5,⟨hg2,hS2⟩,hb5,rfl⟩ _
      · go_simp
        refine HC2.out.mono ?_
        rintro e w2 ⟨rfl,hg2,hS2⟩
        have BX2:=Boxed.kept (W:=W.drew) HBX.out hg2 nB
        have lz2:=BX2.lt
        have q0:=hg2.cell (a:=⟨b0,0,none⟩) y0 nB0
        have q5:=hS2.h5
        have cb2:=BX2.cell
        refine hK _ _ ⟨q5,q0⟩ (fun hH=>?_)
        clear hK
        refine wpAnyH_ready (rs:=[0,8]) (by kernel_rfl) (by simp) ?_
        refine AllReadyH.cons rfl (fun K hK=>?_) (AllReadyH.cons rfl (fun K hK=>?_) (AllReadyH.nil))
        · go_simp
          refine hK _ _ ⟨q5,q0⟩ (fun hH=>?_)
          clear hK
          refine wpAnyH_ready (rs:=[8]) (by kernel_rfl) (by simp) ?_
          refine AllReadyH.cons rfl (fun K hK=>?_) (AllReadyH.nil)
          go_simp
          have BX3:=BX2.alloc (.cells #[.int .i64 FX] 3)
          have hg3:=World.grownBy_alloc w2 (.cells #[.int .i64 FX] 3) none
          have q03:=hg3.cell q0 (by simp)
          have q53:=hg3.cell q5 (by simp)
          have cb3:=BX3.cell
          refine hK _ _ ⟨q53,q03⟩ (fun hH=>?_)
          clear hK
          refine wpAnyH_ready (rs:=[9]) (by kernel_rfl) (by simp) ?_
          refine AllReadyH.cons rfl (fun K hK=>?_) (AllReadyH.nil)
          go_simp
          refine (least_one FO FX w2.heap.size _ ⟨by omega,by omega⟩ ⟨by omega,by omega⟩ (by go_simp)).mono ?_
          rintro e w5 ⟨rfl,hb5⟩
          have BX5:Boxed w5 z 3 _:=(hb5.block z BX3.lt).trans BX3
          have cb5:=BX5.cell
          have cf5:=BX5.frozen
          refine hK _ _ ⟨kc hb5 q53,kc hb5 q03⟩ (fun hH=>?_)
          clear hK
          refine wpAnyH_ready (rs:=[10]) (by kernel_rfl) (by simp) ?_
          refine AllReadyH.cons rfl (fun K hK=>?_) (AllReadyH.nil)
          go_simp
          have hg6:=grownBy_setCell' w5 z (.int .i64 (mn FO FX))
          refine hK _ _ ⟨hg6.cell (kc hb5 q53) n5z,hg6.cell (kc hb5 q03) n0z⟩ (fun hH=>?_)
          clear hK
          exact wpAnyH_done (by kernel_rfl) ⟨rfl,w2,w5,⟨hg2,hS2⟩,hb5,rfl⟩ _
        · go_simp
          have BX3:=BX2.alloc (.cells #[.int .i64 FX] 3)
          have hg3:=World.grownBy_alloc w2 (.cells #[.int .i64 FX] 3) none
          have q03:=hg3.cell q0 (by simp)
          have q53:=hg3.cell q5 (by simp)
          have cb3:=BX3.cell
          refine hK _ _ ⟨q53,q03⟩ (fun hH=>?_)
          clear hK
          refine wpAnyH_ready (rs:=[0]) (by kernel_rfl) (by simp) ?_
          refine AllReadyH.cons rfl (fun K hK=>?_) (AllReadyH.nil)
          go_simp
          refine hK _ _ ⟨q53,q03⟩ (fun hH=>?_)
          clear hK
          refine wpAnyH_ready (rs:=[9]) (by kernel_rfl) (by simp) ?_
          refine AllReadyH.cons rfl (fun K hK=>?_) (AllReadyH.nil)
          go_simp
          refine (least_one FO FX w2.heap.size _ ⟨by omega,by omega⟩ ⟨by omega,by omega⟩ (by go_simp)).mono ?_
          rintro e w5 ⟨rfl,hb5⟩
          have BX5:Boxed w5 z 3 _:=(hb5.block z BX3.lt).trans BX3
          have cb5:=BX5.cell
          have cf5:=BX5.frozen
          refine hK _ _ ⟨kc hb5 q53,kc hb5 q03⟩ (fun hH=>?_)
          clear hK
          refine wpAnyH_ready (rs:=[10]) (by kernel_rfl) (by simp) ?_
          refine AllReadyH.cons rfl (fun K hK=>?_) (AllReadyH.nil)
          go_simp
          have hg6:=grownBy_setCell' w5 z (.int .i64 (mn FO FX))
          refine hK _ _ ⟨hg6.cell (kc hb5 q53) n5z,hg6.cell (kc hb5 q03) n0z⟩ (fun hH=>?_)
          clear hK
          exact wpAnyH_done (by kernel_rfl) ⟨rfl,w2,w5,⟨hg2,hS2⟩,hb5,rfl⟩ _
    · rintro e a9 w9 ⟨rfl,w2,w5,⟨hg2,hS2⟩,hb5,rfl⟩
      have hB25:Below w2.heap.size w2 w5:=(below_alloc (Below.refl _ w2) _).trans (hb5.mono (by simp))
      have hz:=Z.out
      have hBW:B<W0.heap.size:=by omega
      have hd:W.grownBy W.drew (some B):=grown_of_below (below_drew1 (Below.refl _ W)) (some B)
      have nB:some z≠some B:=by simp;omega
      have hs2:wB.heap.size≤w2.heap.size:=Nat.le_trans SW.out.hb.size hg2.size
      obtain ⟨M2,hM2,hG2⟩:=hS2.hm
      refine ⟨(((KeepsFrom.of_grownBy hd (fun q e=>by cases e;exact hBW)).trans (KeepsFrom.of_grownBy hg2 (fun q e=>by cases e;exact hBW))).trans (KeepsFrom.of_grownBy (grown_of_below hB25 none) (fun q e=>by cases e))).trans ((KeepsOthers.setCell w5 _ _).from _),⟨?_,?_⟩,⟨?_,?_⟩,M2,(hM2.below hB25).setCell _ _,hG2⟩
      · exact (((Below.refl wB.heap.size W).grown (hd.trans hg2) SW.out.hb.size (fun q e=>by cases e;exact HBB.out)).trans (hB25.mono hs2)).setCell (p:=⟨z,0,none⟩) (show wB.heap.size≤z by omega) _
      · intro a v ha hv
        exact (grownBy_setCell' w5 z _).cell (kc hB25 ((hd.trans hg2).cell hv (by simp;omega))) (by simp;omega)
      · rw [HFS.out]
        exact Boxed.set _ (((hB25.block z (Boxed.kept (W:=W.drew) HBX.out hg2 nB).lt).trans (Boxed.kept (W:=W.drew) HBX.out hg2 nB)))
      · exact (((HGW.out.trans hd).trans hg2).trans (grown_of_below hB25 (some B))).andThen (grownBy_setCell' w5 z _) (fun q e=>.inl (by cases e;omega))
  case done =>
    rintro D ys W hD rfl ⟨⟨hbx,hgw⟩,M',hM',hG'⟩ hK
    have hFOb:=foldl_mn (fun k:Fin (ptones ps pn).length=>fv k.val) (fun k=>(HFB.out k.val).1) (behL (ptones ps pn).length (j+1) (last - j)) 1000 (by omega) (by omega)
    have HV3:=HVV.out
    obtain ⟨FO,hFO⟩:∃ FO,(behL (ptones ps pn).length (j+1) (last - j)).foldl (fun a k=>mn a (fv k.val)) 1000=FO:=⟨_,rfl⟩
    rw [hFO] at hFOb hbx HV3
    clear hFO
    have HV4:=Aside0.mk HV3
    have hwr:IntKind.i64.wrap (N+FO)=N+FO:=IntWalk.i64_in _ (by omega)
    have cb:=hbx.cell
    have hBb:=HBl.out
    replace x0:=hgw.cell x0 (by simp;omega)
    replace x1:=hgw.cell x1 (by simp;omega)
    replace e1:=hgw.cell e1 (by simpa using cell_ne_map e1 HM3)
    have HK:=Aside0.mk hK
    have HD:=Aside0.mk hD
    have HM5:=Aside0.mk hM'
    have HG5:=Aside0.mk hG'
    have HGW:=Aside0.mk hgw
    clear HV3 hK hD hM' hG' hgw s0 s1 s2 s3 s4 s5 s6 s7 e3 e4 e5 HM3 hbx
    go_wp2_with (first|(go_at_call 80;refine (least_one 1000 (N+FO) W.heap.size _ ⟨by decide,by decide⟩ ⟨by omega,by omega⟩ (by go_simp)).mono ?_;rintro e w5 ⟨rfl,hb5⟩;have hB5:=(below_alloc (Below.refl _ W) (Obj.cells #[Value.int IntKind.i64 (N+FO)] 3)).trans (hb5.mono (by simp));replace x0:=kc hB5 x0;replace x1:=kc hB5 x1;replace e1:=kc hB5 e1;have HB5:=Aside0.mk hB5;clear hb5 hB5 cb)|(at_mapUpdate;refine wp_update_spot key107 Tryd.underlying157 rfl _ _ _ rfl B rfl _ _ rfl _ rfl (HM5.out.below HB5.out) ?_;intro w9 hM9 hG9 hS9))
    have hDl:D<W.heap.size:=(Array.getElem?_eq_some_iff.1 HK.out).1
    have hDB:D≠B:=by have:=HD.out;omega
    have hK9:w9.heap[D]?=some (.deferred (some [])):=(hG9.block D (by have:=HB5.out.size;omega) (by simpa using hDB)).trans ((HB5.out.block D hDl).trans HK.out)
    have hGe:=((((grown_of_below HB3.out (some B)).trans HGW.out).trans (grown_of_below HB5.out (some B))).trans hG9).andThen (grownBy_putObj' w9 D (.deferred none)) (fun q e=>.inl (by cases e;have:=HD.out;have:=Zb.out;omega))
    refine ⟨by simp,.inl ⟨_,_,rfl,run_takeDeferred hK9,?_⟩⟩
    refine ⟨.int .i64 (mn 1000 (N+FO)),results_tmp (show Tryd.f128.results=#[ResultVar.tmp 7] from rfl) _ _ _,ret_i64 HV4.out.symm,hGe,?_⟩
    exact HS.out.grown hGe ⟨_,hM9.block (World.putObj_heap_other (Ne.symm hDB)),HG5.out.put i j (congrArg (Value.int IntKind.i64) (by rw [HR.out];exact HV4.out.symm))⟩
  case stop =>
    rintro D c pre W _ _ h _
    exact h.elim
theorem reads1_one (hp:pn<ps.length) (hm:ts.length≤1000) (hpl:(ptones ps pn).length≤1000) (hla:last≤1000) (ho:∀ i j,0≤offT i j∧offT i j≤1000)
    (hoff:∀ w,Below wB.heap.size wB w→∀ i j:Nat,i<ts.length→j<(ptones ps pn).length→Calls Tryd.prog 129 #[bkv g Af cf fs (some ad) cp ps pn At ct ts Ag cg gs lost wrong,.agg #[.int .i64 i,.int .i64 j]] w fun e w'=>e=.returned (.int .i64 (offT i j))∧Below w.heap.size w w')
    (hmay:∀ w,Below wB.heap.size wB w→∀ i j:Nat,i<ts.length→j<(ptones ps pn).length→Calls Tryd.prog 70 #[.agg #[.int .i64 i,.int .i64 j],.pointer (some ⟨pw,0,none⟩),.pointer (some ⟨pk,0,none⟩)] w fun e w'=>e=.returned (.bool (may i j))∧Below w.heap.size w w')
    (A1:Option Addr) (c1:Nat) (hx1:wB.cell? ⟨(ad.add (pn * 2)).block,(ad.add (pn * 2)).off+1,none⟩=some (.slice A1 (ptones ps pn).length c1)) :
    ∀ (r i j:Nat) (x y:Int) (w:World),x=i→y=j→i+r+1=ts.length→j<(ptones ps pn).length→RdSt_one g Af cf fs ad cp ps pn At ct ts Ag cg gs lost wrong offT may last pw pk p1 p2 p3 p4 p5 B wB w →
    Calls Tryd.prog 128 #[.agg #[.int .i64 x,.int .i64 y],.pointer (some ⟨p1,0,none⟩),.pointer (some ⟨p2,0,none⟩),.pointer (some ⟨p3,0,none⟩),.pointer (some ⟨p4,0,none⟩),.pointer (some ⟨p5,0,none⟩)] w fun e w' =>
      e=.returned (.int .i64 (fromR offT may (ptones ps pn).length last (r+1) i j))∧w.grownBy w' (some B)∧RdSt_one g Af cf fs ad cp ps pn At ct ts Ag cg gs lost wrong offT may last pw pk p1 p2 p3 p4 p5 B wB w':=by
  intro r
  induction r with
  | zero =>
    intro i j x y w hx hy hr hj hS
    obtain ⟨M,hM,hG⟩:=hS.hm
    have h1:=ho i j
    cases hg:mget M i j with
    | some v=>exact reads1_one_known hp hm hpl hla ho hoff hmay 0 i j x y M v w hx hy hr hj hS hM hG hg
    | none =>
      cases hn:may i j with
      | false=>exact reads1_one_no hp hm hpl hla ho hoff hmay 0 i j x y M w hx hy hr hj hS hM hG hg hn
      | true=>exact reads1_one_leaf hp hm hpl hla ho hoff hmay 0 i j x y M w hx hy hr hj hS hM hG hg hn (by omega)
  | succ r ih =>
    intro i j x y w hx hy hr hj hS
    obtain ⟨M,hM,hG⟩:=hS.hm
    have h1:=ho i j
    cases hg:mget M i j with
    | some v=>exact reads1_one_known hp hm hpl hla ho hoff hmay (r+1) i j x y M v w hx hy hr hj hS hM hG hg
    | none =>
      cases hn:may i j with
      | false=>exact reads1_one_no hp hm hpl hla ho hoff hmay (r+1) i j x y M w hx hy hr hj hS hM hG hg hn
      | true =>
        by_cases hq:offT i j=1000
        · exact reads1_one_leaf hp hm hpl hla ho hoff hmay (r+1) i j x y M w hx hy hr hj hS hM hG hg hn (.inl hq)
        · exact reads1_one_loop hp hm hpl hla ho hoff hmay r i j x y M w hx hy hr hj hS hM hG hg hn (by omega) A1 c1 hx1 (fun j' x' y' w' hx' hy' hj' hS'=>ih (i+1) j' x' y' w' hx' hy' (by omega) hj' hS')
end
end Go.Proofs.YthnilelmhpmanaaDoor.PHeardFits
end
section
namespace Go.Proofs.YthnilelmhpmanaaDoor.PHeardFits
open Go.RowKit Go.Shelf Go.Proofs.YthnilelmhpmanaaDoorW.PrintWords Go.Proofs.YthnilelmhpmanaaDoorW.PrintLast Go.Proofs.YthnilelmhpmanaaDoorW.PrintMore
open Go.Proofs.YthnilelmhpmanaaDoor.Hm
set_option linter.unusedVariables false
set_option linter.unusedSimpArgs false
section
variable {g:Int} {Af:Option Addr} {cf:Nat} {fs:List S85} {ad:Addr} {cp:Nat} {ps:List S62} {pn:Nat} {At:Option Addr} {ct:Nat} {ts:List Int} {Ag:Option Addr} {cg:Nat} {gs:List Int} {lost wrong:Int} {offT:Nat→Nat→Int} {may:Nat→Nat→Bool}
set_option maxRecDepth 100000 in
theorem reads_all (hp:pn<ps.length) (hm:ts.length≤100) (hm1:1≤ts.length) (hpl:(ptones ps pn).length≤100) (ho:∀ i j,0≤offT i j∧offT i j≤1000) (w:World) (hbk:BkC Af fs (some ad) ps At ts Ag gs w)
    (hoff:∀ w',Below w.heap.size w w'→∀ i j:Nat,i<ts.length→j<(ptones ps pn).length→Calls Tryd.prog 129 #[bkv g Af cf fs (some ad) cp ps pn At ct ts Ag cg gs lost wrong,.agg #[.int .i64 i,.int .i64 j]] w' fun e w''=>e=.returned (.int .i64 (offT i j))∧Below w'.heap.size w' w'')
    (hmay:∀ w',Below w.heap.size w w'→∀ i j:Nat,i<ts.length→j<(ptones ps pn).length→Calls Tryd.prog 126 #[.agg #[.int .i64 i,.int .i64 j]] w' fun e w''=>e=.returned (.bool (may i j))∧Below w'.heap.size w' w'') (last f:Nat) (hla:last≤1000) (hf:f<(ptones ps pn).length) :
    Calls Tryd.prog 106 #[bkv g Af cf fs (some ad) cp ps pn At ct ts Ag cg gs lost wrong,.int .i64 f,.int .i64 last,.agg #[.func (.func 126) #[] #[]]] w fun e w'=>e=.returned (.int .i64 (fromR offT may (ptones ps pn).length last ts.length 0 f))∧Below w.heap.size w w':=by
  obtain ⟨ad',A1,c1,ep,_,hx1,hl1,hC1⟩:=at_T62 hbk.p (pn:Int) (by omega) (by omega)
  cases ep
  rw [Int.toNat_natCast] at hx1
  have HX1:=Aside0.mk hx1
  have HOFF:=Aside0.mk hoff
  have HMAY:=Aside0.mk hmay
  have HO:=Aside0.mk ho
  clear hbk hoff hmay ho hl1 hC1 hx1
  have hmm:=@run_makeMap Tryd.prog
  have hu94:=Tryd.underlying94
  have hu110:=Tryd.underlying110
  have hu27:=Tryd.underlying27
  have hu24:=Tryd.underlying24
  have hu30:=Tryd.underlying30
  unfold bkv
  go_enter Tryd.func106,Tryd.ntmps106
  go_wp2_with fail
  have hb:=((((((below_alloc (Below.refl w.heap.size w) (Obj.cells #[.int .i64 g,.slice Af fs.length cf,.slice (some ad) ps.length cp,.int .i64 pn,.slice At ts.length ct,.slice Ag gs.length cg,.int .i64 lost,.int .i64 wrong] 94)).alloc (by simp) (Obj.cells #[Value.int IntKind.i64 ↑last] 3)).alloc (by simp;omega) (Obj.cells #[.func (.func 126) #[] #[]] 110)).alloc (by simp;omega) (Obj.map #[] 0)).alloc (by simp;omega) (Obj.cells #[Value.map (some (w.heap.size+1+1+1))] 157)).alloc (by simp;omega) (Obj.cells #[Value.func (Fn.func 128) #[] #[Value.pointer (some { block:=w.heap.size+1+1+1+1,off:=0 }),Value.pointer (some { block:=w.heap.size,off:=0 }),Value.pointer (some { block:=w.heap.size+1+1,off:=0 }),Value.pointer (some { block:=w.heap.size+1,off:=0 }),Value.pointer (some { block:=w.heap.size+1+1+1+1+1,off:=0 })]] 158))
  have hM:=((MapIs.made (((w.alloc (Obj.cells #[.int .i64 g,.slice Af fs.length cf,.slice (some ad) ps.length cp,.int .i64 pn,.slice At ts.length ct,.slice Ag gs.length cg,.int .i64 lost,.int .i64 wrong] 94)).alloc (Obj.cells #[Value.int IntKind.i64 ↑last] 3)).alloc (Obj.cells #[.func (.func 126) #[] #[]] 110))).alloc (Obj.cells #[Value.map (some (w.heap.size+1+1+1))] 157)).alloc (Obj.cells #[Value.func (Fn.func 128) #[] #[Value.pointer (some { block:=w.heap.size+1+1+1+1,off:=0 }),Value.pointer (some { block:=w.heap.size,off:=0 }),Value.pointer (some { block:=w.heap.size+1+1,off:=0 }),Value.pointer (some { block:=w.heap.size+1,off:=0 }),Value.pointer (some { block:=w.heap.size+1+1+1+1+1,off:=0 })]] 158)
  rw [World.size_alloc,World.size_alloc,World.size_alloc] at hM
  refine (reads1_all (g:=g) (Af:=Af) (cf:=cf) (fs:=fs) (ad:=ad) (cp:=cp) (ps:=ps) (pn:=pn) (At:=At) (ct:=ct) (ts:=ts) (Ag:=Ag) (cg:=cg) (gs:=gs) (lost:=lost) (wrong:=wrong) (offT:=offT) (may:=may) (last:=last) (p1:=w.heap.size+1+1+1+1) (p2:=w.heap.size) (p3:=w.heap.size+1+1) (p4:=w.heap.size+1) (p5:=w.heap.size+1+1+1+1+1) (B:=w.heap.size+1+1+1) (wB:=w) hp (by omega) (by omega) hla HO.out HOFF.out HMAY.out A1 c1 HX1.out (ts.length - 1) 0 f _ _ _ rfl rfl (by omega) hf
    ⟨by go_simp,by refine ⟨?_,?_,?_,?_,?_,?_,?_,?_⟩ <;> go_simp,by go_simp,by go_simp,by go_simp,hb,by omega,⟨[],hM,fun c d v hv=>by simp [mget] at hv⟩⟩).mono ?_
  rintro e w2 ⟨rfl,hg2,-⟩
  have HB:=Aside0.mk (hb.grown hg2 (by simp;omega) (by rintro k hk;cases hk;omega))
  have HE:=Aside0.mk (show ts.length - 1+1=ts.length by omega)
  clear hb hM hg2
  go_wp2_with fail
  go_ret
  exact ⟨ret_i64 (by first|rfl|rw [HE.out]),HB.out⟩
set_option maxRecDepth 100000 in
theorem last_any {Ap:Option Addr} (hm:ts.length≤100) (f lo:Nat) (hf:f<(ptones ps pn).length) (hpl:(ptones ps pn).length≤100) (hlo:lo≤100) (w:World) :
    Calls Tryd.prog 107 #[bkv g Af cf fs Ap cp ps pn At ct ts Ag cg gs lost wrong,.int .i64 f,.int .i64 lo] w fun e w'=>e=.returned (.int .i64 ((f:Int)+ts.length - 1+lo))∧Below w.heap.size w w':=by
  have hu94:=Tryd.underlying94
  have hu27:=Tryd.underlying27
  have hu24:=Tryd.underlying24
  have hu30:=Tryd.underlying30
  have h1:IntKind.i64.wrap ((f:Int)+ts.length)=(f:Int)+ts.length:=IntWalk.i64_in _ (by omega)
  have h2:IntKind.i64.wrap ((f:Int)+ts.length - 1)=(f:Int)+ts.length - 1:=IntWalk.i64_in _ (by omega)
  have h3:IntKind.i64.wrap ((f:Int)+ts.length - 1+lo)=(f:Int)+ts.length - 1+lo:=IntWalk.i64_in _ (by omega)
  unfold bkv
  go_enter Tryd.func107,Tryd.ntmps107
  go_wp2_with fail
  go_ret
  exact ⟨rfl,below_alloc (Below.refl _ w) _⟩
set_option maxRecDepth 100000 in
set_option maxHeartbeats 1000000 in
theorem begins_all (hp:pn<ps.length) (hm:ts.length≤100) (hm1:1≤ts.length) (hpl:(ptones ps pn).length≤100) (ho:∀ i j,0≤offT i j∧offT i j≤1000) (w:World) (hbk:BkC Af fs (some ad) ps At ts Ag gs w)
    (hoff:∀ w',Below w.heap.size w w'→∀ i j:Nat,i<ts.length→j<(ptones ps pn).length→Calls Tryd.prog 129 #[bkv g Af cf fs (some ad) cp ps pn At ct ts Ag cg gs lost wrong,.agg #[.int .i64 i,.int .i64 j]] w' fun e w''=>e=.returned (.int .i64 (offT i j))∧Below w'.heap.size w' w'')
    (hmay:∀ w',Below w.heap.size w w'→∀ i j:Nat,i<ts.length→j<(ptones ps pn).length→Calls Tryd.prog 126 #[.agg #[.int .i64 i,.int .i64 j]] w' fun e w''=>e=.returned (.bool (may i j))∧Below w'.heap.size w' w'') (f lo:Nat) (hlo:lo≤100) (hf:f<(ptones ps pn).length) :
    Calls Tryd.prog 71 #[bkv g Af cf fs (some ad) cp ps pn At ct ts Ag cg gs lost wrong,.int .i64 f,.int .i64 lo,.agg #[.func (.func 126) #[] #[]]] w fun e w'=>e=.returned (.bool (decide (fromR offT may (ptones ps pn).length (f+ts.length - 1+lo) ts.length 0 f≤wrong)))∧Below w.heap.size w w':=by
  have hu94:=Tryd.underlying94
  have hu110:=Tryd.underlying110
  have hu27:=Tryd.underlying27
  have hu24:=Tryd.underlying24
  have hu30:=Tryd.underlying30
  have HBK:=Aside0.mk hbk
  have HOFF:=Aside0.mk hoff
  have HMAY:=Aside0.mk hmay
  have HO:=Aside0.mk ho
  clear hbk hoff hmay ho
  unfold bkv
  go_enter Tryd.func71,Tryd.ntmps71
  go_wp2_with fail
  have b1:=Aside0.mk (blk_alloc (blk_new w (Obj.cells #[.int .i64 g,.slice Af fs.length cf,.slice (some ad) ps.length cp,.int .i64 pn,.slice At ts.length ct,.slice Ag gs.length cg,.int .i64 lost,.int .i64 wrong] 94)) (Obj.cells #[.func (.func 126) #[] #[]] 110))
  have b2:Aside0 (((w.alloc (Obj.cells #[.int .i64 g,.slice Af fs.length cf,.slice (some ad) ps.length cp,.int .i64 pn,.slice At ts.length ct,.slice Ag gs.length cg,.int .i64 lost,.int .i64 wrong] 94)).alloc (Obj.cells #[.func (.func 126) #[] #[]] 110)).heap[w.heap.size+1]?=some (.cells #[.func (.func 126) #[] #[]] 110 (0,0))):=⟨by have:=blk_new (w.alloc (Obj.cells #[.int .i64 g,.slice Af fs.length cf,.slice (some ad) ps.length cp,.int .i64 pn,.slice At ts.length ct,.slice Ag gs.length cg,.int .i64 lost,.int .i64 wrong] 94)) (Obj.cells #[.func (.func 126) #[] #[]] 110);rwa [World.size_alloc] at this⟩
  have hB:=Aside0.mk ((below_alloc (Below.refl _ w) (Obj.cells #[.int .i64 g,.slice Af fs.length cf,.slice (some ad) ps.length cp,.int .i64 pn,.slice At ts.length ct,.slice Ag gs.length cg,.int .i64 lost,.int .i64 wrong] 94)).alloc (by simp) (Obj.cells #[.func (.func 126) #[] #[]] 110))
  obtain ⟨w1,hw1⟩:∃ w1,((w.alloc (Obj.cells #[.int .i64 g,.slice Af fs.length cf,.slice (some ad) ps.length cp,.int .i64 pn,.slice At ts.length ct,.slice Ag gs.length cg,.int .i64 lost,.int .i64 wrong] 94)).alloc (Obj.cells #[.func (.func 126) #[] #[]] 110))=w1:=⟨_,rfl⟩
  rw [hw1] at b1 b2 hB ⊢
  clear hw1
  have s0:=(blk_cell b1.out 0).trans rfl
  have s1:=(blk_cell b1.out 1).trans rfl
  have s2:=(blk_cell b1.out 2).trans rfl
  have s3:=(blk_cell b1.out 3).trans rfl
  have s4:=(blk_cell b1.out 4).trans rfl
  have s5:=(blk_cell b1.out 5).trans rfl
  have s6:=(blk_cell b1.out 6).trans rfl
  have s7:=(blk_cell b1.out 7).trans rfl
  have s8:=(blk_cell b2.out 0).trans rfl
  obtain ⟨n0,hn0⟩:∃ n0,w.heap.size=n0:=⟨_,rfl⟩
  have HBW:Aside0 (Below w.heap.size w w1):=hB
  rw [hn0] at s0 s1 s2 s3 s4 s5 s6 s7 s8 b1 b2 hB ⊢
  have HN:=Aside0.mk hn0
  clear hn0 b1 b2
  have hcast:(f:Int)+ts.length - 1+lo=((f+ts.length - 1+lo:Nat):Int):=by omega
  go_region_held3 (fun w'=>w'.cell? ⟨n0,0,none⟩=some (.int .i64 g)∧w'.cell? ⟨n0,1,none⟩=some (.slice Af fs.length cf)∧w'.cell? ⟨n0,2,none⟩=some (.slice (some ad) ps.length cp)∧w'.cell? ⟨n0,3,none⟩=some (.int .i64 pn)∧w'.cell? ⟨n0,4,none⟩=some (.slice At ts.length ct)∧w'.cell? ⟨n0,5,none⟩=some (.slice Ag gs.length cg)∧w'.cell? ⟨n0,6,none⟩=some (.int .i64 lost)∧w'.cell? ⟨n0,7,none⟩=some (.int .i64 wrong)∧w'.cell? ⟨n0+1,0,none⟩=some (.func (.func 126) #[] #[])) (first|exact ⟨s0,s1,s2,s3,s4,s5,s6,s7,s8⟩|exact ⟨kc hb2 s0,kc hb2 s1,kc hb2 s2,kc hb2 s3,kc hb2 s4,kc hb2 s5,kc hb2 s6,kc hb2 s7,kc hb2 s8⟩|exact ⟨kc hb3 (kc hb2 s0),kc hb3 (kc hb2 s1),kc hb3 (kc hb2 s2),kc hb3 (kc hb2 s3),kc hb3 (kc hb2 s4),kc hb3 (kc hb2 s5),kc hb3 (kc hb2 s6),kc hb3 (kc hb2 s7),kc hb3 (kc hb2 s8)⟩|go_keep) (first|(go_at_call 107;refine (last_any (g:=g) (cf:=cf) (cp:=cp) (ct:=ct) (cg:=cg) (lost:=lost) (wrong:=wrong) (At:=At) (ts:=ts) (Ag:=Ag) (gs:=gs) (Af:=Af) (fs:=fs) (ps:=ps) (pn:=pn) (Ap:=some ad) hm f lo hf hpl hlo _).mono ?_;rintro e w2 ⟨rfl,hb2⟩)|(go_at_call 106;refine (reads_all hp hm hm1 hpl HO.out w2 (HBK.out.below (HBW.out.trans ((below_drew1 (Below.refl _ w1)).trans hb2 |>.mono HBW.out.size))) (fun w' hw=>HOFF.out w' ((HBW.out.trans ((below_drew1 (Below.refl _ w1)).trans hb2 |>.mono HBW.out.size)).trans (hw.mono (Nat.le_trans HBW.out.size hb2.size)))) (fun w' hw=>HMAY.out w' ((HBW.out.trans ((below_drew1 (Below.refl _ w1)).trans hb2 |>.mono HBW.out.size)).trans (hw.mono (Nat.le_trans HBW.out.size hb2.size)))) (f+ts.length - 1+lo) f (by omega) hf).mono ?_;rintro e w3 ⟨rfl,hb3⟩))
  have HB:=Aside0.mk (HBW.out.trans ((((below_drew1 (Below.refl _ w1)).trans hb2).trans (hb3.mono hb2.size)).mono HBW.out.size))
  clear hb2 hb3
  go_wp2_with fail
  go_ret
  exact ⟨rfl,HB.out⟩
theorem any_any (w:World):Calls Tryd.prog 100 #[] w fun e w'=>e=.returned (.agg #[.func (.func 126) #[] #[]])∧Below w.heap.size w w':=by
  have hu110:=Tryd.underlying110
  go_enter Tryd.func100,Tryd.ntmps100
  go_wp2_with fail
  have hc:(w.alloc (Obj.cells #[Value.func (Fn.func 126) #[] #[]] 110)).cell? ⟨w.heap.size,0,none⟩=some (.func (.func 126) #[] #[]):=by go_simp
  refine bodyPost_ret (v:=.agg #[.func (.func 126) #[] #[]]) (by simp [results,Tryd.results100,go_sem,hu110,hc]) rfl ⟨rfl,below_alloc (Below.refl _ w) _⟩
/-- Does the note fit, with so many strokes lost? -/
def fitsB (offT:Nat→Nat→Int) (may:Nat→Nat→Bool) (pl m lo:Nat) (wrong:Int):Bool:=(List.range pl).any fun f=>decide (fromR offT may pl (f+m - 1+lo) m 0 f≤wrong)
set_option maxRecDepth 100000 in
set_option maxHeartbeats 1000000 in
theorem fits_any (hp:pn<ps.length) (hm:ts.length≤100) (hm1:1≤ts.length) (hpl:(ptones ps pn).length≤100) (ho:∀ i j,0≤offT i j∧offT i j≤1000) (w:World) (hbk:BkC Af fs (some ad) ps At ts Ag gs w)
    (hoff:∀ w',Below w.heap.size w w'→∀ i j:Nat,i<ts.length→j<(ptones ps pn).length→Calls Tryd.prog 129 #[bkv g Af cf fs (some ad) cp ps pn At ct ts Ag cg gs lost wrong,.agg #[.int .i64 i,.int .i64 j]] w' fun e w''=>e=.returned (.int .i64 (offT i j))∧Below w'.heap.size w' w'')
    (hmay:∀ w',Below w.heap.size w w'→∀ i j:Nat,i<ts.length→j<(ptones ps pn).length→Calls Tryd.prog 126 #[.agg #[.int .i64 i,.int .i64 j]] w' fun e w''=>e=.returned (.bool (may i j))∧Below w'.heap.size w' w'') (lo:Nat) (hlo:lo≤100) :
    Calls Tryd.prog 59 #[bkv g Af cf fs (some ad) cp ps pn At ct ts Ag cg gs lost wrong,.int .i64 lo] w fun e w'=>e=.returned (.bool (fitsB offT may (ptones ps pn).length ts.length lo wrong))∧Below w.heap.size w w':=by
  have hu94:=Tryd.underlying94
  have hu110:=Tryd.underlying110
  have hu27:=Tryd.underlying27
  have hu24:=Tryd.underlying24
  have hu30:=Tryd.underlying30
  obtain ⟨ad',A1,c1,ep,_,hx1,hl1,hC1⟩:=at_T62 hbk.p (pn:Int) (by omega) (by omega)
  cases ep
  rw [Int.toNat_natCast] at hx1
  have HX1:=Aside0.mk hx1
  have HBK:=Aside0.mk hbk
  have HOFF:=Aside0.mk hoff
  have HMAY:=Aside0.mk hmay
  have HO:=Aside0.mk ho
  clear hbk hoff hmay ho hl1 hC1 hx1
  unfold bkv
  go_enter Tryd.func59,Tryd.ntmps59
  go_wp2_with (first|(go_at_call 69;refine (tones_at (g:=g) (cf:=cf) (cp:=cp) (ct:=ct) (cg:=cg) (lost:=lost) (wrong:=wrong) (At:=At) (ts:=ts) (Ag:=Ag) (gs:=gs) (Af:=Af) (fs:=fs) (ps:=ps) (pn:=pn) hp ad A1 c1 _ (kc (below_alloc (Below.refl _ w) _) HX1.out)).mono ?_;rintro e w2 ⟨rfl,hb2⟩))
  have hB:=Aside0.mk ((below_alloc (Below.refl _ w) (Obj.cells #[.int .i64 g,.slice Af fs.length cf,.slice (some ad) ps.length cp,.int .i64 pn,.slice At ts.length ct,.slice Ag gs.length cg,.int .i64 lost,.int .i64 wrong] 94)).trans (hb2.mono (by simp)))
  have b1:=Aside0.mk (blk_new w (Obj.cells #[.int .i64 g,.slice Af fs.length cf,.slice (some ad) ps.length cp,.int .i64 pn,.slice At ts.length ct,.slice Ag gs.length cg,.int .i64 lost,.int .i64 wrong] 94))
  have s0:=kc hb2 ((blk_cell b1.out 0).trans rfl)
  have s1:=kc hb2 ((blk_cell b1.out 1).trans rfl)
  have s2:=kc hb2 ((blk_cell b1.out 2).trans rfl)
  have s3:=kc hb2 ((blk_cell b1.out 3).trans rfl)
  have s4:=kc hb2 ((blk_cell b1.out 4).trans rfl)
  have s5:=kc hb2 ((blk_cell b1.out 5).trans rfl)
  have s6:=kc hb2 ((blk_cell b1.out 6).trans rfl)
  have s7:=kc hb2 ((blk_cell b1.out 7).trans rfl)
  clear hb2 b1
  obtain ⟨n0,hn0⟩:∃ n0,w.heap.size=n0:=⟨_,rfl⟩
  have HBW:Aside0 (Below w.heap.size w w2):=hB
  rw [hn0] at s0 s1 s2 s3 s4 s5 s6 s7 hB ⊢
  have HN:=Aside0.mk hn0
  clear hn0
  obtain ⟨pv,hpv⟩:∃ pv:Nat→Bool,(fun f=>decide (fromR offT may (ptones ps pn).length (f+ts.length - 1+lo) ts.length 0 f≤wrong))=pv:=⟨_,rfl⟩
  have HPV:=Aside0.mk hpv
  have HFI:Aside0 (fitsB offT may (ptones ps pn).length ts.length lo wrong=(List.range (ptones ps pn).length).any pv):=⟨by rw [← hpv];rfl⟩
  have HCALL:Aside0 (∀ w',Below w.heap.size w w'→∀ f,f<(ptones ps pn).length→Calls Tryd.prog 71 #[bkv g Af cf fs (some ad) cp ps pn At ct ts Ag cg gs lost wrong,.int .i64 (f:Nat),.int .i64 lo,.agg #[.func (.func 126) #[] #[]]] w' fun e w''=>e=.returned (.bool (pv f))∧Below w'.heap.size w' w'') :=
    ⟨fun w' hw f hf=>by
      rw [← hpv]
      exact begins_all hp hm hm1 hpl HO.out w' (HBK.out.below hw) (fun w'' h=>HOFF.out w'' (hw.trans (h.mono hw.size))) (fun w'' h=>HMAY.out w'' (hw.trans (h.mono hw.size))) f lo hlo hf⟩
  clear hpv HO HOFF HMAY HBK HX1
  go_loopg [9] (ptones ps pn).length (fun gk v9 w'=>∃ i:Nat,v9=.int .i64 i∧Aside0 (gk+i=(ptones ps pn).length)∧Aside0 (∀ f,f<i→pv f=false)∧Aside0 (Below w2.heap.size w2 w'))
  case atStart=>exact ⟨0,rfl,⟨rfl⟩,⟨fun f h=>absurd h (by omega)⟩,⟨Below.refl _ _⟩⟩
  case round =>
    obtain ⟨i,rfl,HI,HA,HBL⟩:=hrel
    have hi:=HI.out
    rename_i w3
    replace s0:=kc HBL.out s0
    replace s1:=kc HBL.out s1
    replace s2:=kc HBL.out s2
    replace s3:=kc HBL.out s3
    replace s4:=kc HBL.out s4
    replace s5:=kc HBL.out s5
    replace s6:=kc HBL.out s6
    replace s7:=kc HBL.out s7
    have HB3:=Aside0.mk (HBW.out.trans (HBL.out.mono HBW.out.size))
    by_cases hlt:i<(ptones ps pn).length
    · go_wp2_with fail
      go_region_held3 (fun w'=>w'.cell? ⟨n0,0,none⟩=some (.int .i64 g)∧w'.cell? ⟨n0,1,none⟩=some (.slice Af fs.length cf)∧w'.cell? ⟨n0,2,none⟩=some (.slice (some ad) ps.length cp)∧w'.cell? ⟨n0,3,none⟩=some (.int .i64 pn)∧w'.cell? ⟨n0,4,none⟩=some (.slice At ts.length ct)∧w'.cell? ⟨n0,5,none⟩=some (.slice Ag gs.length cg)∧w'.cell? ⟨n0,6,none⟩=some (.int .i64 lost)∧w'.cell? ⟨n0,7,none⟩=some (.int .i64 wrong)) (first|exact ⟨s0,s1,s2,s3,s4,s5,s6,s7⟩|exact ⟨kc hb5 s0,kc hb5 s1,kc hb5 s2,kc hb5 s3,kc hb5 s4,kc hb5 s5,kc hb5 s6,kc hb5 s7⟩|exact ⟨kc hb6 (kc hb5 s0),kc hb6 (kc hb5 s1),kc hb6 (kc hb5 s2),kc hb6 (kc hb5 s3),kc hb6 (kc hb5 s4),kc hb6 (kc hb5 s5),kc hb6 (kc hb5 s6),kc hb6 (kc hb5 s7)⟩|go_keep) (first|(go_at_call 100;refine (any_any _).mono ?_;rintro e w5 ⟨rfl,hb5⟩)|(go_at_call 71;refine (HCALL.out w5 (HB3.out.trans (((below_drew1 (Below.refl _ _)).trans hb5).mono HB3.out.size)) i hlt).mono ?_;rintro e w6 ⟨rfl,hb6⟩))
      have HB6:=Aside0.mk (HBL.out.trans ((((below_drew1 (Below.refl _ _)).trans hb5).trans (hb6.mono hb5.size)).mono HBL.out.size))
      clear hb5 hb6
      cases hv:pv i with
      | true =>
        have HV:=Aside0.mk hv
        go_wp2_with fail
        go_ret
        exact ⟨ret_bool (by rw [HFI.out];symm;rw [List.any_eq_true];exact ⟨i,List.mem_range.2 hlt,HV.out⟩),HBW.out.trans (HB6.out.mono HBW.out.size)⟩
      | false =>
        have HV:=Aside0.mk hv
        go_wp2_with fail
        go_roundg (gk - 1)
        case measure=>omega
        case rel=>exact ⟨i+1,by go_num,⟨by omega⟩,⟨fun f hf=>by
          by_cases hfi:f=i
          · rw [hfi];exact HV.out
          · exact HA.out f (by omega)⟩,HB6⟩
    · go_wp2_with fail
      go_ret
      exact ⟨ret_bool (by rw [HFI.out];symm;rw [List.any_eq_false];intro f hf;rw [HA.out f (by have:=List.mem_range.1 hf;omega)];decide),HB3.out⟩
set_option maxRecDepth 100000 in
theorem reads_one (pw pk:Nat) (hp:pn<ps.length) (hm:ts.length≤100) (hm1:1≤ts.length) (hpl:(ptones ps pn).length≤100) (ho:∀ i j,0≤offT i j∧offT i j≤1000) (w:World) (hbk:BkC Af fs (some ad) ps At ts Ag gs w)
    (hoff:∀ w',Below w.heap.size w w'→∀ i j:Nat,i<ts.length→j<(ptones ps pn).length→Calls Tryd.prog 129 #[bkv g Af cf fs (some ad) cp ps pn At ct ts Ag cg gs lost wrong,.agg #[.int .i64 i,.int .i64 j]] w' fun e w''=>e=.returned (.int .i64 (offT i j))∧Below w'.heap.size w' w'')
    (hmay:∀ w',Below w.heap.size w w'→∀ i j:Nat,i<ts.length→j<(ptones ps pn).length→Calls Tryd.prog 70 #[.agg #[.int .i64 i,.int .i64 j],.pointer (some ⟨pw,0,none⟩),.pointer (some ⟨pk,0,none⟩)] w' fun e w''=>e=.returned (.bool (may i j))∧Below w'.heap.size w' w'') (last f:Nat) (hla:last≤1000) (hf:f<(ptones ps pn).length) :
    Calls Tryd.prog 106 #[bkv g Af cf fs (some ad) cp ps pn At ct ts Ag cg gs lost wrong,.int .i64 f,.int .i64 last,.agg #[.func (.func 70) #[] #[.pointer (some ⟨pw,0,none⟩),.pointer (some ⟨pk,0,none⟩)]]] w fun e w'=>e=.returned (.int .i64 (fromR offT may (ptones ps pn).length last ts.length 0 f))∧Below w.heap.size w w':=by
  obtain ⟨ad',A1,c1,ep,_,hx1,hl1,hC1⟩:=at_T62 hbk.p (pn:Int) (by omega) (by omega)
  cases ep
  rw [Int.toNat_natCast] at hx1
  have HX1:=Aside0.mk hx1
  have HOFF:=Aside0.mk hoff
  have HMAY:=Aside0.mk hmay
  have HO:=Aside0.mk ho
  clear hbk hoff hmay ho hl1 hC1 hx1
  have hmm:=@run_makeMap Tryd.prog
  have hu94:=Tryd.underlying94
  have hu110:=Tryd.underlying110
  have hu27:=Tryd.underlying27
  have hu24:=Tryd.underlying24
  have hu30:=Tryd.underlying30
  unfold bkv
  go_enter Tryd.func106,Tryd.ntmps106
  go_wp2_with fail
  have hb:=((((((below_alloc (Below.refl w.heap.size w) (Obj.cells #[.int .i64 g,.slice Af fs.length cf,.slice (some ad) ps.length cp,.int .i64 pn,.slice At ts.length ct,.slice Ag gs.length cg,.int .i64 lost,.int .i64 wrong] 94)).alloc (by simp) (Obj.cells #[Value.int IntKind.i64 ↑last] 3)).alloc (by simp;omega) (Obj.cells #[.func (.func 70) #[] #[.pointer (some ⟨pw,0,none⟩),.pointer (some ⟨pk,0,none⟩)]] 110)).alloc (by simp;omega) (Obj.map #[] 0)).alloc (by simp;omega) (Obj.cells #[Value.map (some (w.heap.size+1+1+1))] 157)).alloc (by simp;omega) (Obj.cells #[Value.func (Fn.func 128) #[] #[Value.pointer (some { block:=w.heap.size+1+1+1+1,off:=0 }),Value.pointer (some { block:=w.heap.size,off:=0 }),Value.pointer (some { block:=w.heap.size+1+1,off:=0 }),Value.pointer (some { block:=w.heap.size+1,off:=0 }),Value.pointer (some { block:=w.heap.size+1+1+1+1+1,off:=0 })]] 158))
  have hM:=((MapIs.made (((w.alloc (Obj.cells #[.int .i64 g,.slice Af fs.length cf,.slice (some ad) ps.length cp,.int .i64 pn,.slice At ts.length ct,.slice Ag gs.length cg,.int .i64 lost,.int .i64 wrong] 94)).alloc (Obj.cells #[Value.int IntKind.i64 ↑last] 3)).alloc (Obj.cells #[.func (.func 70) #[] #[.pointer (some ⟨pw,0,none⟩),.pointer (some ⟨pk,0,none⟩)]] 110))).alloc (Obj.cells #[Value.map (some (w.heap.size+1+1+1))] 157)).alloc (Obj.cells #[Value.func (Fn.func 128) #[] #[Value.pointer (some { block:=w.heap.size+1+1+1+1,off:=0 }),Value.pointer (some { block:=w.heap.size,off:=0 }),Value.pointer (some { block:=w.heap.size+1+1,off:=0 }),Value.pointer (some { block:=w.heap.size+1,off:=0 }),Value.pointer (some { block:=w.heap.size+1+1+1+1+1,off:=0 })]] 158)
  rw [World.size_alloc,World.size_alloc,World.size_alloc] at hM
  refine (reads1_one (g:=g) (Af:=Af) (cf:=cf) (fs:=fs) (ad:=ad) (cp:=cp) (ps:=ps) (pn:=pn) (At:=At) (ct:=ct) (ts:=ts) (Ag:=Ag) (cg:=cg) (gs:=gs) (lost:=lost) (wrong:=wrong) (offT:=offT) (may:=may) (last:=last) (pw:=pw) (pk:=pk) (p1:=w.heap.size+1+1+1+1) (p2:=w.heap.size) (p3:=w.heap.size+1+1) (p4:=w.heap.size+1) (p5:=w.heap.size+1+1+1+1+1) (B:=w.heap.size+1+1+1) (wB:=w) hp (by omega) (by omega) hla HO.out HOFF.out HMAY.out A1 c1 HX1.out (ts.length - 1) 0 f _ _ _ rfl rfl (by omega) hf
    ⟨by go_simp,by refine ⟨?_,?_,?_,?_,?_,?_,?_,?_⟩ <;> go_simp,by go_simp,by go_simp,by go_simp,hb,by omega,⟨[],hM,fun c d v hv=>by simp [mget] at hv⟩⟩).mono ?_
  rintro e w2 ⟨rfl,hg2,-⟩
  have HB:=Aside0.mk (hb.grown hg2 (by simp;omega) (by rintro k hk;cases hk;omega))
  have HE:=Aside0.mk (show ts.length - 1+1=ts.length by omega)
  clear hb hM hg2
  go_wp2_with fail
  go_ret
  exact ⟨ret_i64 (by first|rfl|rw [HE.out]),HB.out⟩
set_option maxRecDepth 100000 in
set_option maxHeartbeats 1000000 in
theorem begins_one (pw pk:Nat) (hp:pn<ps.length) (hm:ts.length≤100) (hm1:1≤ts.length) (hpl:(ptones ps pn).length≤100) (ho:∀ i j,0≤offT i j∧offT i j≤1000) (w:World) (hbk:BkC Af fs (some ad) ps At ts Ag gs w)
    (hoff:∀ w',Below w.heap.size w w'→∀ i j:Nat,i<ts.length→j<(ptones ps pn).length→Calls Tryd.prog 129 #[bkv g Af cf fs (some ad) cp ps pn At ct ts Ag cg gs lost wrong,.agg #[.int .i64 i,.int .i64 j]] w' fun e w''=>e=.returned (.int .i64 (offT i j))∧Below w'.heap.size w' w'')
    (hmay:∀ w',Below w.heap.size w w'→∀ i j:Nat,i<ts.length→j<(ptones ps pn).length→Calls Tryd.prog 70 #[.agg #[.int .i64 i,.int .i64 j],.pointer (some ⟨pw,0,none⟩),.pointer (some ⟨pk,0,none⟩)] w' fun e w''=>e=.returned (.bool (may i j))∧Below w'.heap.size w' w'') (f lo:Nat) (hlo:lo≤100) (hf:f<(ptones ps pn).length) :
    Calls Tryd.prog 71 #[bkv g Af cf fs (some ad) cp ps pn At ct ts Ag cg gs lost wrong,.int .i64 f,.int .i64 lo,.agg #[.func (.func 70) #[] #[.pointer (some ⟨pw,0,none⟩),.pointer (some ⟨pk,0,none⟩)]]] w fun e w'=>e=.returned (.bool (decide (fromR offT may (ptones ps pn).length (f+ts.length - 1+lo) ts.length 0 f≤wrong)))∧Below w.heap.size w w':=by
  have hu94:=Tryd.underlying94
  have hu110:=Tryd.underlying110
  have hu27:=Tryd.underlying27
  have hu24:=Tryd.underlying24
  have hu30:=Tryd.underlying30
  have HBK:=Aside0.mk hbk
  have HOFF:=Aside0.mk hoff
  have HMAY:=Aside0.mk hmay
  have HO:=Aside0.mk ho
  clear hbk hoff hmay ho
  unfold bkv
  go_enter Tryd.func71,Tryd.ntmps71
  go_wp2_with fail
  have b1:=Aside0.mk (blk_alloc (blk_new w (Obj.cells #[.int .i64 g,.slice Af fs.length cf,.slice (some ad) ps.length cp,.int .i64 pn,.slice At ts.length ct,.slice Ag gs.length cg,.int .i64 lost,.int .i64 wrong] 94)) (Obj.cells #[.func (.func 70) #[] #[.pointer (some ⟨pw,0,none⟩),.pointer (some ⟨pk,0,none⟩)]] 110))
  have b2:Aside0 (((w.alloc (Obj.cells #[.int .i64 g,.slice Af fs.length cf,.slice (some ad) ps.length cp,.int .i64 pn,.slice At ts.length ct,.slice Ag gs.length cg,.int .i64 lost,.int .i64 wrong] 94)).alloc (Obj.cells #[.func (.func 70) #[] #[.pointer (some ⟨pw,0,none⟩),.pointer (some ⟨pk,0,none⟩)]] 110)).heap[w.heap.size+1]?=some (.cells #[.func (.func 70) #[] #[.pointer (some ⟨pw,0,none⟩),.pointer (some ⟨pk,0,none⟩)]] 110 (0,0))):=⟨by have:=blk_new (w.alloc (Obj.cells #[.int .i64 g,.slice Af fs.length cf,.slice (some ad) ps.length cp,.int .i64 pn,.slice At ts.length ct,.slice Ag gs.length cg,.int .i64 lost,.int .i64 wrong] 94)) (Obj.cells #[.func (.func 70) #[] #[.pointer (some ⟨pw,0,none⟩),.pointer (some ⟨pk,0,none⟩)]] 110);rwa [World.size_alloc] at this⟩
  have hB:=Aside0.mk ((below_alloc (Below.refl _ w) (Obj.cells #[.int .i64 g,.slice Af fs.length cf,.slice (some ad) ps.length cp,.int .i64 pn,.slice At ts.length ct,.slice Ag gs.length cg,.int .i64 lost,.int .i64 wrong] 94)).alloc (by simp) (Obj.cells #[.func (.func 70) #[] #[.pointer (some ⟨pw,0,none⟩),.pointer (some ⟨pk,0,none⟩)]] 110))
  obtain ⟨w1,hw1⟩:∃ w1,((w.alloc (Obj.cells #[.int .i64 g,.slice Af fs.length cf,.slice (some ad) ps.length cp,.int .i64 pn,.slice At ts.length ct,.slice Ag gs.length cg,.int .i64 lost,.int .i64 wrong] 94)).alloc (Obj.cells #[.func (.func 70) #[] #[.pointer (some ⟨pw,0,none⟩),.pointer (some ⟨pk,0,none⟩)]] 110))=w1:=⟨_,rfl⟩
  rw [hw1] at b1 b2 hB ⊢
  clear hw1
  have s0:=(blk_cell b1.out 0).trans rfl
  have s1:=(blk_cell b1.out 1).trans rfl
  have s2:=(blk_cell b1.out 2).trans rfl
  have s3:=(blk_cell b1.out 3).trans rfl
  have s4:=(blk_cell b1.out 4).trans rfl
  have s5:=(blk_cell b1.out 5).trans rfl
  have s6:=(blk_cell b1.out 6).trans rfl
  have s7:=(blk_cell b1.out 7).trans rfl
  have s8:=(blk_cell b2.out 0).trans rfl
  obtain ⟨n0,hn0⟩:∃ n0,w.heap.size=n0:=⟨_,rfl⟩
  have HBW:Aside0 (Below w.heap.size w w1):=hB
  rw [hn0] at s0 s1 s2 s3 s4 s5 s6 s7 s8 b1 b2 hB ⊢
  have HN:=Aside0.mk hn0
  clear hn0 b1 b2
  have hcast:(f:Int)+ts.length - 1+lo=((f+ts.length - 1+lo:Nat):Int):=by omega
  go_region_held3 (fun w'=>w'.cell? ⟨n0,0,none⟩=some (.int .i64 g)∧w'.cell? ⟨n0,1,none⟩=some (.slice Af fs.length cf)∧w'.cell? ⟨n0,2,none⟩=some (.slice (some ad) ps.length cp)∧w'.cell? ⟨n0,3,none⟩=some (.int .i64 pn)∧w'.cell? ⟨n0,4,none⟩=some (.slice At ts.length ct)∧w'.cell? ⟨n0,5,none⟩=some (.slice Ag gs.length cg)∧w'.cell? ⟨n0,6,none⟩=some (.int .i64 lost)∧w'.cell? ⟨n0,7,none⟩=some (.int .i64 wrong)∧w'.cell? ⟨n0+1,0,none⟩=some (.func (.func 70) #[] #[.pointer (some ⟨pw,0,none⟩),.pointer (some ⟨pk,0,none⟩)])) (first|exact ⟨s0,s1,s2,s3,s4,s5,s6,s7,s8⟩|exact ⟨kc hb2 s0,kc hb2 s1,kc hb2 s2,kc hb2 s3,kc hb2 s4,kc hb2 s5,kc hb2 s6,kc hb2 s7,kc hb2 s8⟩|exact ⟨kc hb3 (kc hb2 s0),kc hb3 (kc hb2 s1),kc hb3 (kc hb2 s2),kc hb3 (kc hb2 s3),kc hb3 (kc hb2 s4),kc hb3 (kc hb2 s5),kc hb3 (kc hb2 s6),kc hb3 (kc hb2 s7),kc hb3 (kc hb2 s8)⟩|go_keep) (first|(go_at_call 107;refine (last_any (g:=g) (cf:=cf) (cp:=cp) (ct:=ct) (cg:=cg) (lost:=lost) (wrong:=wrong) (At:=At) (ts:=ts) (Ag:=Ag) (gs:=gs) (Af:=Af) (fs:=fs) (ps:=ps) (pn:=pn) (Ap:=some ad) hm f lo hf hpl hlo _).mono ?_;rintro e w2 ⟨rfl,hb2⟩)|(go_at_call 106;refine (reads_one pw pk hp hm hm1 hpl HO.out w2 (HBK.out.below (HBW.out.trans ((below_drew1 (Below.refl _ w1)).trans hb2 |>.mono HBW.out.size))) (fun w' hw=>HOFF.out w' ((HBW.out.trans ((below_drew1 (Below.refl _ w1)).trans hb2 |>.mono HBW.out.size)).trans (hw.mono (Nat.le_trans HBW.out.size hb2.size)))) (fun w' hw=>HMAY.out w' ((HBW.out.trans ((below_drew1 (Below.refl _ w1)).trans hb2 |>.mono HBW.out.size)).trans (hw.mono (Nat.le_trans HBW.out.size hb2.size)))) (f+ts.length - 1+lo) f (by omega) hf).mono ?_;rintro e w3 ⟨rfl,hb3⟩))
  have HB:=Aside0.mk (HBW.out.trans ((((below_drew1 (Below.refl _ w1)).trans hb2).trans (hb3.mono hb2.size)).mono HBW.out.size))
  clear hb2 hb3
  go_wp2_with fail
  go_ret
  exact ⟨rfl,HB.out⟩
end
end Go.Proofs.YthnilelmhpmanaaDoor.PHeardFits
end
section
namespace Go.Proofs.YthnilelmhpmanaaDoor.PHeardFits
open Go.RowKit Go.Proofs.YthnilelmhpmanaaDoorW.PrintWords Go.Proofs.YthnilelmhpmanaaDoorW.PrintLast Go.Proofs.YthnilelmhpmanaaDoorW.PrintMore
open Go.Proofs.YthnilelmhpmanaaDoor.Hm
set_option linter.unusedVariables false
set_option linter.unusedSimpArgs false
theorem offV_bd (a b:Bool) (x y:Int):0≤offV a b x y∧offV a b x y≤1000:=by
  unfold offV
  split
  · decide
  · split
    · decide
    · split <;> decide
/-- What is struck at a stroke of a piece. -/
def struckO (k:Nat) (g:Int) (fs:List S85) (ps:List S62) (pn j:Nat):Option (List Int×Int):=cycle_Struck.f k g fs (rd_T62 ps pn).f0 (j:Int)
/-- For how many wrong notes a note counts. -/
def offF (k:Nat) (g:Int) (fs:List S85) (ps:List S62) (pn:Nat) (ts gs:List Int) (i j:Nat):Int :=
  if j<(ptones ps pn).length then offV (hasI i gs) (hasI 0 (((struckO k g fs ps pn j).map (·.1)).getD [])) (rd ts i) (rd (ptones ps pn) j) else 0
theorem offF_bd (k:Nat) (g:Int) (fs:List S85) (ps:List S62) (pn:Nat) (ts gs:List Int) (i j:Nat):0≤offF k g fs ps pn ts gs i j∧offF k g fs ps pn ts gs i j≤1000:=by
  unfold offF
  split
  · exact offV_bd _ _ _ _
  · decide
/-- May it be asked so? -/
def readOk (k:Nat) (g:Int) (fs:List S85) (ps:List S62) (pn:Nat) (ts gs:List Int):Prop :=
  pn<ps.length∧1≤ts.length∧ts.length≤100∧(ptones ps pn).length≤100∧gs.length≤1000∧(∀ i,i<ts.length → -1000≤rd ts i∧rd ts i≤1000)∧(∀ j,j<(ptones ps pn).length → -1000≤rd (ptones ps pn) j∧rd (ptones ps pn) j≤1000) ∧
    (∀ j,j<(ptones ps pn).length→((struckO k g fs ps pn j).any fun x=>decide (x.1.length≤100))=true)
instance (k:Nat) (g:Int) (fs:List S85) (ps:List S62) (pn:Nat) (ts gs:List Int):Decidable (readOk k g fs ps pn ts gs):=by unfold readOk;infer_instance
section
variable {g:Int} {Af:Option Addr} {cf:Nat} {fs:List S85} {ad:Addr} {cp:Nat} {ps:List S62} {pn:Nat} {At:Option Addr} {ct:Nat} {ts:List Int} {Ag:Option Addr} {cg:Nat} {gs:List Int} {lost wrong:Int}
theorem off_call (k:Nat) (hk:readOk k g fs ps pn ts gs) (hcf:fs.length≤cf) (i j:Nat) (hi:i<ts.length) (hj:j<(ptones ps pn).length) {Ap:Option Addr} (w:World) (h:BkC Af fs Ap ps At ts Ag gs w) (hG:GlobIs w) :
    Calls Tryd.prog 129 #[bkv g Af cf fs Ap cp ps pn At ct ts Ag cg gs lost wrong,.agg #[.int .i64 i,.int .i64 j]] w fun e w'=>e=.returned (.int .i64 (offF k g fs ps pn ts gs i j))∧Below w.heap.size w w':=by
  obtain ⟨hp,h1,h2,h3,h4,h5,h6,h7⟩:=hk
  have h8:=h7 j hj
  cases hs:struckO k g fs ps pn j with
  | none=>rw [hs] at h8;simp at h8
  | some x =>
    rw [hs] at h8
    have h9:x.1.length≤100:=by simpa using h8
    have hs':cycle_Struck.f k g fs (rd_T62 ps pn).f0 (j:Int)=some (x.1,x.2):=hs
    have he:offF k g fs ps pn ts gs i j=offV (hasI i gs) (hasI 0 x.1) (rd ts i) (rd (ptones ps pn) j):=by unfold offF;rw [if_pos hj,hs];rfl
    rw [he]
    exact off_any k x.1 x.2 hp i j hi hj (h5 i hi) (h6 j hj) h4 h9 w h hG hcf hs'
theorem fits_call (k:Nat) (hk:readOk k g fs ps pn ts gs) (hcf:fs.length≤cf) (lo:Nat) (hlo:lo≤100) (w:World) (h:BkC Af fs (some ad) ps At ts Ag gs w) (hG:GlobIs w) :
    Calls Tryd.prog 59 #[bkv g Af cf fs (some ad) cp ps pn At ct ts Ag cg gs lost wrong,.int .i64 lo] w fun e w'=>e=.returned (.bool (fitsB (offF k g fs ps pn ts gs) (fun _ _=>true) (ptones ps pn).length ts.length lo wrong))∧Below w.heap.size w w' :=
  fits_any hk.1 hk.2.2.1 hk.2.1 hk.2.2.2.1 (fun i j=>offF_bd _ _ _ _ _ _ _ i j) w h (fun w' hw i j hi hj=>off_call k hk hcf i j hi hj w' (h.below hw) (hG.below hw)) (fun w' hw i j hi hj=>may_all i j w') lo hlo
end
def heard_book_fits.f (k:Nat) (g:Int) (fs:List S85) (ps:List S62) (piece:Int) (ts gs:List Int) (lost wrong lo:Int):Option Bool :=
  if 0≤piece∧0≤lo∧lo≤100∧readOk k g fs ps piece.toNat ts gs then some (fitsB (offF k g fs ps piece.toNat ts gs) (fun _ _=>true) (ptones ps piece.toNat).length ts.length lo.toNat wrong) else none
end Go.Proofs.YthnilelmhpmanaaDoor.PHeardFits
end
section
namespace Go.Proofs.YthnilelmhpmanaaDoor.PHeardFits
open Go.RowKit Go.Proofs.YthnilelmhpmanaaDoorW.PrintWords Go.Proofs.YthnilelmhpmanaaDoorW.PrintLast Go.Proofs.YthnilelmhpmanaaDoorW.PrintMore
open Go.Proofs.YthnilelmhpmanaaDoor.Hm
set_option linter.unusedVariables false
set_option linter.unusedSimpArgs false
/-- What is asked: the error. -/
def askedF (k:Nat) (g:Int) (fs:List S85) (ps:List S62) (piece:Int) (ts gs:List Int) (lost wrong:Int):Option Int :=
  (heard_Check.f k g fs ps).bind fun e0=>if e0=0 then (if ps.length≤1000 then (heard_isNote.f k ts gs lost wrong).bind fun nb=>(if (liesB piece 0 ((ps.length:Int) - 1) && nb)=true then some 0 else some 91) else none) else some e0
section
variable {g:Int} {Af:Option Addr} {cf:Nat} {fs:List S85} {Ap:Option Addr} {cp:Nat} {ps:List S62} {At:Option Addr} {ct:Nat} {ts:List Int} {Ag:Option Addr} {cg:Nat} {gs:List Int} {lost wrong:Int}
theorem asked_no (k:Nat) (e:Int) (he:e≠0) (piece:Int) (w:World) (hbk:BkC Af fs Ap ps At ts Ag gs w) (hcf:fs.length≤cf) (hcp:ps.length≤cp) (hct:ts.length≤ct) (hcg:gs.length≤cg) (h:askedF k g fs ps piece ts gs lost wrong=some e) :
    Calls Tryd.prog 58 #[.agg #[.int .i64 g,.slice Af fs.length cf,.slice Ap ps.length cp],.int .i64 piece,.agg #[.slice At ts.length ct,.slice Ag gs.length cg,.int .i64 lost,.int .i64 wrong]] w fun x w'=>x=.returned (.tuple #[.agg #[.int .i64 0,.slice none 0 0,.slice none 0 0,.int .i64 0,.slice none 0 0,.slice none 0 0,.int .i64 0,.int .i64 0],.int .i64 e])∧Below w.heap.size w w':=by
  unfold askedF at h
  obtain ⟨e0,he0,h⟩:=Option.bind_eq_some_iff.1 h
  split at h
  · rename_i h0
    subst h0
    split at h
    · rename_i hl
      obtain ⟨nb,hn,h⟩:=Option.bind_eq_some_iff.1 h
      split at h
      · simp at h;omega
      · rename_i hb
        simp only [Option.some.injEq] at h
        subst h
        exact asked_bad k nb piece (by simpa using hb) w hbk hcf hcp hct hcg he0 hn hl
    · simp at h
  · rename_i h0
    simp only [Option.some.injEq] at h
    subst h
    exact asked_err k e0 h0 piece w hbk hcf hcp hct hcg he0
theorem asked_yes (k:Nat) (piece:Int) (w:World) (hbk:BkC Af fs Ap ps At ts Ag gs w) (hcf:fs.length≤cf) (hcp:ps.length≤cp) (hct:ts.length≤ct) (hcg:gs.length≤cg) (h:askedF k g fs ps piece ts gs lost wrong=some 0) :
    0≤piece∧piece<ps.length∧Calls Tryd.prog 58 #[.agg #[.int .i64 g,.slice Af fs.length cf,.slice Ap ps.length cp],.int .i64 piece,.agg #[.slice At ts.length ct,.slice Ag gs.length cg,.int .i64 lost,.int .i64 wrong]] w fun x w'=>x=.returned (.tuple #[.agg #[.int .i64 g,.slice Af fs.length cf,.slice Ap ps.length cp,.int .i64 piece,.slice At ts.length ct,.slice Ag gs.length cg,.int .i64 lost,.int .i64 wrong],.int .i64 0])∧Below w.heap.size w w':=by
  unfold askedF at h
  obtain ⟨e0,he0,h⟩:=Option.bind_eq_some_iff.1 h
  split at h
  · rename_i h0
    subst h0
    split at h
    · rename_i hl
      obtain ⟨nb,hn,h⟩:=Option.bind_eq_some_iff.1 h
      split at h
      · rename_i hb
        simp only [Bool.and_eq_true] at hb
        obtain ⟨hb1,rfl⟩:=hb
        have hb2:=hb1
        simp only [liesB,Bool.and_eq_true,decide_eq_true_eq] at hb2
        exact ⟨hb2.1,by omega,asked_ok k piece hb1 w hbk hcf hcp hct hcg he0 hn hl⟩
      · simp at h
    · simp at h
  · rename_i h0
    simp only [Option.some.injEq] at h
    exact absurd h h0
end
def heard_Fits.f (k:Nat) (g:Int) (fs:List S85) (ps:List S62) (piece:Int) (ts gs:List Int) (lost wrong:Int):Option (Bool×Int) :=
  (askedF k g fs ps piece ts gs lost wrong).bind fun e=>if e=0 then (heard_book_fits.f k g fs ps piece ts gs lost wrong lost).bind fun b=>some (b,0) else some (false,e)
set_option maxRecDepth 100000 in
theorem heard_Fits.calls (k:Nat) (a0_0:Int) (A0_1:Option Addr) (c0_1:Nat) (l0_1:List (S85)) (A0_2:Option Addr) (c0_2:Nat) (l0_2:List (S62)) (a1:Int) (A2_0:Option Addr) (c2_0:Nat) (l2_0:List Int) (A2_1:Option Addr) (c2_1:Nat) (l2_1:List Int) (a2_2:Int) (a2_3:Int) (r1:Bool) (r2:Int) (w:World) (hr0_1:Kd.C k85 w A0_1 l0_1.length l0_1) (hc0_1:l0_1.length≤c0_1) (hr0_2:Kd.C k62 w A0_2 l0_2.length l0_2) (hc0_2:l0_2.length≤c0_2) (hr2_0:Kd.C (Kd.int .i64) w A2_0 l2_0.length l2_0) (hc2_0:l2_0.length≤c2_0) (hr2_1:Kd.C (Kd.int .i64) w A2_1 l2_1.length l2_1) (hc2_1:l2_1.length≤c2_1) (h:heard_Fits.f k a0_0 l0_1 l0_2 a1 l2_0 l2_1 a2_2 a2_3=some (r1,r2)) (hG:GlobIs w) :
    Calls Tryd.prog 15 #[.agg #[.int .i64 a0_0,.slice A0_1 l0_1.length c0_1,.slice A0_2 l0_2.length c0_2],.int .i64 a1,.agg #[.slice A2_0 l2_0.length c2_0,.slice A2_1 l2_1.length c2_1,.int .i64 a2_2,.int .i64 a2_3]] w fun e w'=>e=.returned (.tuple #[.bool r1,.int .i64 r2])∧Below w.heap.size w w':=by
  have hu94:=Tryd.underlying94
  have hu27:=Tryd.underlying27
  have hu24:=Tryd.underlying24
  have hu30:=Tryd.underlying30
  unfold heard_Fits.f at h
  obtain ⟨e0,he0,h⟩:=Option.bind_eq_some_iff.1 h
  have hbk:BkC A0_1 l0_1 A0_2 l0_2 A2_0 l2_0 A2_1 l2_1 w:=⟨hr0_1,hr0_2,hr2_0,hr2_1⟩
  have HBK:=Aside0.mk hbk
  have HG:=Aside0.mk hG
  have H1:=Aside0.mk hc0_1
  have H2:=Aside0.mk hc0_2
  have H3:=Aside0.mk hc2_0
  have H4:=Aside0.mk hc2_1
  clear hbk hG hc0_1 hc0_2 hc2_0 hc2_1 hr0_1 hr0_2 hr2_0 hr2_1
  by_cases hz:e0=0
  · subst hz
    rw [if_pos rfl] at h
    obtain ⟨b,hb,h⟩:=Option.bind_eq_some_iff.1 h
    simp only [Option.some.injEq,Prod.mk.injEq] at h
    obtain ⟨rfl,rfl⟩:=h
    unfold heard_book_fits.f at hb
    split at hb
    · rename_i hc
      obtain ⟨c0,c1,c2,c3⟩:=hc
      simp only [Option.some.injEq] at hb
      subst hb
      have HC3:=Aside0.mk c3
      have HE:=Aside0.mk he0
      clear he0 c3
      obtain ⟨pn,rfl⟩:∃ pn:Nat,a1=pn:=⟨a1.toNat,by omega⟩
      obtain ⟨lo,rfl⟩:∃ lo:Nat,a2_2=lo:=⟨a2_2.toNat,by omega⟩
      rw [Int.toNat_natCast] at HC3
      rw [Int.toNat_natCast,Int.toNat_natCast]
      have hpn:=HC3.out.1
      obtain ⟨ad,A1,c1',ep,_,hx1,hl1,hC1⟩:=at_T62 HBK.out.p (pn:Int) (by omega) (by omega)
      cases ep
      clear hx1 hl1 hC1
      go_enter Tryd.func15,Tryd.ntmps15
      go_wp2_with fail
      have hb0:=(below_alloc (Below.refl _ w) (Obj.cells #[.int .i64 a0_0,.slice A0_1 l0_1.length c0_1,.slice (some ad) l0_2.length c0_2] 27)).alloc (by simp) (Obj.cells #[.slice A2_0 l2_0.length c2_0,.slice A2_1 l2_1.length c2_1,.int .i64 lo,.int .i64 a2_3] 30)
      have z1:((w.alloc (Obj.cells #[.int .i64 a0_0,.slice A0_1 l0_1.length c0_1,.slice (some ad) l0_2.length c0_2] 27)).alloc (Obj.cells #[.slice A2_0 l2_0.length c2_0,.slice A2_1 l2_1.length c2_1,.int .i64 lo,.int .i64 a2_3] 30)).heap.size=w.heap.size+1+1:=by simp
      have b2:((w.alloc (Obj.cells #[.int .i64 a0_0,.slice A0_1 l0_1.length c0_1,.slice (some ad) l0_2.length c0_2] 27)).alloc (Obj.cells #[.slice A2_0 l2_0.length c2_0,.slice A2_1 l2_1.length c2_1,.int .i64 lo,.int .i64 a2_3] 30)).heap[w.heap.size+1]?=some (.cells #[.slice A2_0 l2_0.length c2_0,.slice A2_1 l2_1.length c2_1,.int .i64 lo,.int .i64 a2_3] 30 (0,0)):=by
        have:=blk_new (w.alloc (Obj.cells #[.int .i64 a0_0,.slice A0_1 l0_1.length c0_1,.slice (some ad) l0_2.length c0_2] 27)) (Obj.cells #[.slice A2_0 l2_0.length c2_0,.slice A2_1 l2_1.length c2_1,.int .i64 lo,.int .i64 a2_3] 30)
        rwa [World.size_alloc] at this
      obtain ⟨w1,hw1⟩:∃ w1,((w.alloc (Obj.cells #[.int .i64 a0_0,.slice A0_1 l0_1.length c0_1,.slice (some ad) l0_2.length c0_2] 27)).alloc (Obj.cells #[.slice A2_0 l2_0.length c2_0,.slice A2_1 l2_1.length c2_1,.int .i64 lo,.int .i64 a2_3] 30))=w1:=⟨_,rfl⟩
      rw [hw1] at b2 hb0 z1 ⊢
      clear hw1
      refine (asked_yes k pn w1 (HBK.out.below hb0) H1.out H2.out H3.out H4.out HE.out).2.2.mono ?_
      rintro e w2 ⟨rfl,hb2⟩
      have HB2:=Aside0.mk (hb0.trans (hb2.mono hb0.size))
      replace b2:=(hb2.block (w.heap.size+1) (by omega)).trans b2
      have t2:=(blk_cell b2 2).trans rfl
      have l2:=World.block_lt_of_cell? w2 _ t2
      simp only at l2
      clear hb2 hb0 b2 z1
      have HB3:=Aside0.mk (HB2.out.alloc HB2.out.size (Obj.cells #[.int .i64 a0_0,.slice A0_1 l0_1.length c0_1,.slice (some ad) l0_2.length c0_2,.int .i64 pn,.slice A2_0 l2_0.length c2_0,.slice A2_1 l2_1.length c2_1,.int .i64 lo,.int .i64 a2_3] 94))
      go_wp2_with (first|(go_at_call 59;refine (fits_call k HC3.out H1.out lo (by omega) _ (HBK.out.below HB3.out) (HG.out.below HB3.out)).mono ?_;rintro e w4 ⟨rfl,hb4⟩;have HB4:=Aside0.mk (HB3.out.trans (hb4.mono HB3.out.size));clear hb4))
      go_ret2
      exact ⟨rfl,HB4.out⟩
    · simp at hb
  · rw [if_neg hz] at h
    simp only [Option.some.injEq,Prod.mk.injEq] at h
    obtain ⟨rfl,rfl⟩:=h
    have hzb:(e0 != 0)=true:=by simpa using hz
    have HE:=Aside0.mk he0
    clear he0
    go_enter Tryd.func15,Tryd.ntmps15
    go_wp2_with fail
    have hb0:=(below_alloc (Below.refl _ w) (Obj.cells #[.int .i64 a0_0,.slice A0_1 l0_1.length c0_1,.slice A0_2 l0_2.length c0_2] 27)).alloc (by simp) (Obj.cells #[.slice A2_0 l2_0.length c2_0,.slice A2_1 l2_1.length c2_1,.int .i64 a2_2,.int .i64 a2_3] 30)
    have z1:((w.alloc (Obj.cells #[.int .i64 a0_0,.slice A0_1 l0_1.length c0_1,.slice A0_2 l0_2.length c0_2] 27)).alloc (Obj.cells #[.slice A2_0 l2_0.length c2_0,.slice A2_1 l2_1.length c2_1,.int .i64 a2_2,.int .i64 a2_3] 30)).heap.size=w.heap.size+1+1:=by simp
    have b2:((w.alloc (Obj.cells #[.int .i64 a0_0,.slice A0_1 l0_1.length c0_1,.slice A0_2 l0_2.length c0_2] 27)).alloc (Obj.cells #[.slice A2_0 l2_0.length c2_0,.slice A2_1 l2_1.length c2_1,.int .i64 a2_2,.int .i64 a2_3] 30)).heap[w.heap.size+1]?=some (.cells #[.slice A2_0 l2_0.length c2_0,.slice A2_1 l2_1.length c2_1,.int .i64 a2_2,.int .i64 a2_3] 30 (0,0)):=by
      have:=blk_new (w.alloc (Obj.cells #[.int .i64 a0_0,.slice A0_1 l0_1.length c0_1,.slice A0_2 l0_2.length c0_2] 27)) (Obj.cells #[.slice A2_0 l2_0.length c2_0,.slice A2_1 l2_1.length c2_1,.int .i64 a2_2,.int .i64 a2_3] 30)
      rwa [World.size_alloc] at this
    obtain ⟨w1,hw1⟩:∃ w1,((w.alloc (Obj.cells #[.int .i64 a0_0,.slice A0_1 l0_1.length c0_1,.slice A0_2 l0_2.length c0_2] 27)).alloc (Obj.cells #[.slice A2_0 l2_0.length c2_0,.slice A2_1 l2_1.length c2_1,.int .i64 a2_2,.int .i64 a2_3] 30))=w1:=⟨_,rfl⟩
    rw [hw1] at b2 hb0 z1 ⊢
    clear hw1
    refine (asked_no k e0 hz a1 w1 (HBK.out.below hb0) H1.out H2.out H3.out H4.out HE.out).mono ?_
    rintro e w2 ⟨rfl,hb2⟩
    have HB2:=Aside0.mk (hb0.trans (hb2.mono hb0.size))
    clear hb2 hb0 b2 z1
    go_wp2_with fail
    go_ret2
    exact ⟨rfl,HB2.out.alloc HB2.out.size _⟩
end Go.Proofs.YthnilelmhpmanaaDoor.PHeardFits
end
section
namespace Go.Proofs.YthnilelmhpmanaaDoor.PHeardFits
open Go.RowKit Go.Proofs.YthnilelmhpmanaaDoorW.PrintWords Go.Proofs.YthnilelmhpmanaaDoorW.PrintLast Go.Proofs.YthnilelmhpmanaaDoorW.PrintMore
open Go.Proofs.YthnilelmhpmanaaDoor.Hm
set_option linter.unusedVariables false
set_option linter.unusedSimpArgs false
/-- Which strokes a note can be: those that were met. -/
def cvB (offT:Nat→Nat→Int) (which:Int) (pl m lo:Nat) (wrong:Int) (q f:Nat):Bool:=decide (fromR offT (mayK which q) pl (f+m - 1+lo) m 0 f≤wrong)
def metUpto (cv:Nat→Nat→Bool) (pl i:Nat):List Bool:=(List.range 24).map fun q=>decide (q<i) && (List.range pl).any (cv q)
def metIn (cv:Nat→Nat→Bool) (pl i f:Nat):List Bool:=(metUpto cv pl i).set i ((List.range f).any (cv i))
def strokesP (cv:Nat→Nat→Bool) (pl:Nat):List Int:=truesB (metUpto cv pl pl) 0
theorem metUpto_len (cv:Nat→Nat→Bool) (pl i:Nat):(metUpto cv pl i).length=24:=by simp [metUpto]
theorem metUpto_get (cv:Nat→Nat→Bool) (pl i q:Nat) (h:q<24):(metUpto cv pl i)[q]?=some (decide (q<i) && (List.range pl).any (cv q)):=by
  simp [metUpto,h]
theorem metIn_zero (cv:Nat→Nat→Bool) (pl i:Nat) (h:i<24):metIn cv pl i 0=metUpto cv pl i:=by
  unfold metIn
  apply List.ext_getElem?
  intro q
  rw [List.getElem?_set]
  split
  · rename_i hq
    subst hq
    rw [if_pos (by rw [metUpto_len];exact h),metUpto_get _ _ _ _ h]
    simp
  · rfl
theorem metIn_full (cv:Nat→Nat→Bool) (pl i:Nat) (h:i<24):metIn cv pl i pl=metUpto cv pl (i+1):=by
  unfold metIn
  apply List.ext_getElem?
  intro q
  rw [List.getElem?_set]
  split
  · rename_i hq
    subst hq
    rw [if_pos (by rw [metUpto_len];exact h),metUpto_get _ _ _ _ h]
    simp
  · by_cases hq:q<24
    · rw [metUpto_get _ _ _ _ hq,metUpto_get _ _ _ _ hq]
      have:decide (q<i)=decide (q<i+1):=by
        rw [decide_eq_decide];omega
      rw [this]
    · rw [List.getElem?_eq_none (by rw [metUpto_len];omega),List.getElem?_eq_none (by rw [metUpto_len];omega)]
theorem metIn_at (cv:Nat→Nat→Bool) (pl i f:Nat) (h:i<24):(metIn cv pl i f)[i]?=some ((List.range f).any (cv i)):=by
  unfold metIn
  rw [List.getElem?_set_self (by rw [metUpto_len];exact h)]
theorem metIn_set (cv:Nat→Nat→Bool) (pl i f:Nat) (b:Bool) (hb:b=((List.range f).any (cv i) || cv i f)):(bvs (metIn cv pl i f)).setIfInBounds i (.bool b)=bvs (metIn cv pl i (f+1)):=by
  unfold bvs metIn
  rw [List.setIfInBounds_toArray,← List.map_set,List.set_set,List.range_succ,List.any_append,hb]
  simp
theorem metUpto_zero (cv:Nat→Nat→Bool) (pl:Nat):metUpto cv pl 0=List.replicate 24 false:=by
  apply List.ext_getElem?
  intro q
  by_cases hq:q<24
  · rw [metUpto_get _ _ _ _ hq,List.getElem?_replicate,if_pos hq];simp
  · rw [List.getElem?_eq_none (by rw [metUpto_len];omega),List.getElem?_eq_none (by simp;omega)]
def heard_Strokes.f (k:Nat) (g:Int) (fs:List S85) (ps:List S62) (piece:Int) (ts gs:List Int) (lost wrong which:Int):Option (List Int×Int) :=
  (askedF k g fs ps piece ts gs lost wrong).bind fun e=>if e=0 then (if liesB which 0 ((ts.length:Int) - 1)=true then (if 0≤lost∧lost≤100∧(ptones ps piece.toNat).length≤24∧readOk k g fs ps piece.toNat ts gs then some (strokesP (cvB (offF k g fs ps piece.toNat ts gs) which (ptones ps piece.toNat).length ts.length lost.toNat wrong) (ptones ps piece.toNat).length,0) else none) else (if ts.length≤1000 then some ([],91) else none)) else some ([],e)
/-- What the loops of Strokes find in memory. -/
structure StkS (b0:Int) (Af:Option Addr) (cf:Nat) (fs:List S85) (ad:Addr) (cp:Nat) (ps:List S62) (pn:Nat) (At:Option Addr) (ct:Nat) (ts:List Int) (Ag:Option Addr) (cg:Nat) (gs:List Int) (lost wrong which:Int) (pb pl pw pm:Nat) (M:List Bool) (w:World):Prop where
  s0:w.cell? ⟨pb,0,none⟩=some (.int .i64 b0)
  s1:w.cell? ⟨pb,1,none⟩=some (.slice Af fs.length cf)
  s2:w.cell? ⟨pb,2,none⟩=some (.slice (some ad) ps.length cp)
  s3:w.cell? ⟨pb,3,none⟩=some (.int .i64 pn)
  s4:w.cell? ⟨pb,4,none⟩=some (.slice At ts.length ct)
  s5:w.cell? ⟨pb,5,none⟩=some (.slice Ag gs.length cg)
  s6:w.cell? ⟨pb,6,none⟩=some (.int .i64 lost)
  s7:w.cell? ⟨pb,7,none⟩=some (.int .i64 wrong)
  l2:w.cell? ⟨pl,2,none⟩=some (.int .i64 lost)
  wh:w.cell? ⟨pw,0,none⟩=some (.int .i64 which)
  mt:w.heap[pm]?=some (.cells (bvs M) 104 (0,0))
section
variable {b0:Int} {Af:Option Addr} {cf:Nat} {fs:List S85} {ad:Addr} {cp:Nat} {ps:List S62} {pn:Nat} {At:Option Addr} {ct:Nat} {ts:List Int} {Ag:Option Addr} {cg:Nat} {gs:List Int} {lost wrong which:Int} {pb pl pw pm:Nat} {M:List Bool}
theorem StkS.below {w w':World} (h:StkS b0 Af cf fs ad cp ps pn At ct ts Ag cg gs lost wrong which pb pl pw pm M w) (hb:Below w.heap.size w w'):StkS b0 Af cf fs ad cp ps pn At ct ts Ag cg gs lost wrong which pb pl pw pm M w' :=
  ⟨kc hb h.s0,kc hb h.s1,kc hb h.s2,kc hb h.s3,kc hb h.s4,kc hb h.s5,kc hb h.s6,kc hb h.s7,kc hb h.l2,kc hb h.wh,(hb.block pm (blk_lt h.mt)).trans h.mt⟩
theorem StkS.set {w:World} (h:StkS b0 Af cf fs ad cp ps pn At ct ts Ag cg gs lost wrong which pb pl pw pm M w) (hd:pb<pm∧pl<pm∧pw<pm) (i:Nat) (v:Value) (M':List Bool) (hM:(bvs M).setIfInBounds i v=bvs M'):StkS b0 Af cf fs ad cp ps pn At ct ts Ag cg gs lost wrong which pb pl pw pm M' (w.setCell ⟨pm,i,none⟩ v):=by
  have hk:∀ {a:Addr} {u:Value},a.block<pm→w.cell? a=some u→(w.setCell ⟨pm,i,none⟩ v).cell? a=some u:=fun hlt hc=>(World.cell?_setCell_other _ _ _ _ (by intro e;rw [← e] at hlt;exact absurd hlt (Nat.lt_irrefl _))).trans hc
  refine ⟨hk hd.1 h.s0,hk hd.1 h.s1,hk hd.1 h.s2,hk hd.1 h.s3,hk hd.1 h.s4,hk hd.1 h.s5,hk hd.1 h.s6,hk hd.1 h.s7,hk hd.2.1 h.l2,hk hd.2.2 h.wh,?_⟩
  rw [heap_setCell_same w pm i _ _ v h.mt,hM]
end
section
set_option maxRecDepth 100000 in
set_option maxHeartbeats 2000000 in
theorem heard_Strokes.calls_ok (k:Nat) (a0_0:Int) (A0_1:Option Addr) (c0_1:Nat) (l0_1:List (S85)) (A0_2:Option Addr) (c0_2:Nat) (l0_2:List (S62)) (a1:Int) (A2_0:Option Addr) (c2_0:Nat) (l2_0:List Int) (A2_1:Option Addr) (c2_1:Nat) (l2_1:List Int) (a2_2:Int) (a2_3:Int) (a3:Int) (w:World) (hr0_1:Kd.C k85 w A0_1 l0_1.length l0_1) (hc0_1:l0_1.length≤c0_1) (hr0_2:Kd.C k62 w A0_2 l0_2.length l0_2) (hc0_2:l0_2.length≤c0_2) (hr2_0:Kd.C (Kd.int .i64) w A2_0 l2_0.length l2_0) (hc2_0:l2_0.length≤c2_0) (hr2_1:Kd.C (Kd.int .i64) w A2_1 l2_1.length l2_1) (hc2_1:l2_1.length≤c2_1) (he0:askedF k a0_0 l0_1 l0_2 a1 l2_0 l2_1 a2_2 a2_3=some 0) (hwh:liesB a3 0 ((l2_0.length:Int) - 1)=true) (hc:0≤a2_2∧a2_2≤100∧(ptones l0_2 a1.toNat).length≤24∧readOk k a0_0 l0_1 l0_2 a1.toNat l2_0 l2_1) (hG:GlobIs w) :
    Calls Tryd.prog 27 #[.agg #[.int .i64 a0_0,.slice A0_1 l0_1.length c0_1,.slice A0_2 l0_2.length c0_2],.int .i64 a1,.agg #[.slice A2_0 l2_0.length c2_0,.slice A2_1 l2_1.length c2_1,.int .i64 a2_2,.int .i64 a2_3],.int .i64 a3] w fun e w'=>∃ v0_:Value,e=.returned (.tuple #[v0_,.int .i64 0])∧Kd.V (Kd.int .i64) 3 w' w.heap.size (fun k_=>(w.heap.size≤k_)) v0_ (strokesP (cvB (offF k a0_0 l0_1 l0_2 a1.toNat l2_0 l2_1) a3 (ptones l0_2 a1.toNat).length l2_0.length a2_2.toNat a2_3) (ptones l0_2 a1.toNat).length)∧Below w.heap.size w w':=by
  have hu94:=Tryd.underlying94
  have hu104:=Tryd.underlying104
  have hu110:=Tryd.underlying110
  have hu27:=Tryd.underlying27
  have hu24:=Tryd.underlying24
  have hu30:=Tryd.underlying30
  have hbk:BkC A0_1 l0_1 A0_2 l0_2 A2_0 l2_0 A2_1 l2_1 w:=⟨hr0_1,hr0_2,hr2_0,hr2_1⟩
  have HBK:=Aside0.mk hbk
  have HG:=Aside0.mk hG
  have H1:=Aside0.mk hc0_1
  have H2:=Aside0.mk hc0_2
  have H3:=Aside0.mk hc2_0
  have H4:=Aside0.mk hc2_1
  clear hbk hG hc0_1 hc0_2 hc2_0 hc2_1 hr0_1 hr0_2 hr2_0 hr2_1
  obtain ⟨hlo0,hlo1,hpl,hrd⟩:=hc
  have HRD:=Aside0.mk hrd
  have HE:=Aside0.mk he0
  obtain ⟨hp0,-,-⟩:=asked_yes (g:=a0_0) (Af:=A0_1) (cf:=c0_1) (fs:=l0_1) (Ap:=A0_2) (cp:=c0_2) (ps:=l0_2) (At:=A2_0) (ct:=c2_0) (ts:=l2_0) (Ag:=A2_1) (cg:=c2_1) (gs:=l2_1) (lost:=a2_2) (wrong:=a2_3) k a1 w HBK.out H1.out H2.out H3.out H4.out he0
  clear he0 hrd
  obtain ⟨pn,rfl⟩:∃ pn:Nat,a1=pn:=⟨a1.toNat,by omega⟩
  obtain ⟨lo,rfl⟩:∃ lo:Nat,a2_2=lo:=⟨a2_2.toNat,by omega⟩
  rw [Int.toNat_natCast] at HRD hpl
  rw [Int.toNat_natCast,Int.toNat_natCast]
  have hpn:=HRD.out.1
  obtain ⟨hts1,hts2⟩:1≤l2_0.length∧l2_0.length≤100:=⟨HRD.out.2.1,HRD.out.2.2.1⟩
  obtain ⟨cv,hcv⟩:∃ cv,cvB (offF k a0_0 l0_1 l0_2 pn l2_0 l2_1) a3 (ptones l0_2 pn).length l2_0.length lo a2_3=cv:=⟨_,rfl⟩
  rw [hcv]
  obtain ⟨ad,A1,c1',ep,_,hx1,hl1,hC1⟩:=at_T62 HBK.out.p (pn:Int) (by omega) (by omega)
  cases ep
  rw [Int.toNat_natCast] at hx1
  have HX1:=Aside0.mk hx1
  clear hx1 hl1 hC1
  have HCALL:Aside0 (∀ (w':World) (pw pk i:Nat),Below w.heap.size w w'→w'.cell? ⟨pw,0,none⟩=some (.int .i64 a3)→w'.cell? ⟨pk,0,none⟩=some (.int .i64 i)→∀ f:Nat,f<(ptones l0_2 pn).length→Calls Tryd.prog 71 #[bkv a0_0 A0_1 c0_1 l0_1 (some ad) c0_2 l0_2 pn A2_0 c2_0 l2_0 A2_1 c2_1 l2_1 lo a2_3,.int .i64 f,.int .i64 lo,.agg #[.func (.func 70) #[] #[.pointer (some ⟨pw,0,none⟩),.pointer (some ⟨pk,0,none⟩)]]] w' fun e w''=>e=.returned (.bool (cv i f))∧Below w'.heap.size w' w'') :=
    ⟨fun w' pw pk i hw h1 h2 f hf=>by
      rw [← hcv]
      exact begins_one pw pk hpn hts2 hts1 (by omega) (fun i j=>offF_bd _ _ _ _ _ _ _ i j) w' (HBK.out.below hw) (fun w'' hb i j hi hj=>off_call k HRD.out H1.out i j hi hj w'' (HBK.out.below (hw.trans (hb.mono hw.size))) (HG.out.below (hw.trans (hb.mono hw.size)))) (fun w'' hb i' j hi hj=>may_one a3 i pw pk i' j w'' (kc hb h1) (kc hb h2)) f lo (by omega) hf⟩
  clear hcv
  unfold bkv at HCALL
  have HWH:=Aside0.mk hwh
  go_enter Tryd.func27,Tryd.ntmps27
  go_wp2_with fail
  have hb0:=((below_alloc (Below.refl _ w) (Obj.cells #[.int .i64 a0_0,.slice A0_1 l0_1.length c0_1,.slice (some ad) l0_2.length c0_2] 27)).alloc (by simp) (Obj.cells #[.slice A2_0 l2_0.length c2_0,.slice A2_1 l2_1.length c2_1,.int .i64 lo,.int .i64 a2_3] 30)).alloc (by simp;omega) (Obj.cells #[.int .i64 a3] 3)
  have z1:(((w.alloc (Obj.cells #[.int .i64 a0_0,.slice A0_1 l0_1.length c0_1,.slice (some ad) l0_2.length c0_2] 27)).alloc (Obj.cells #[.slice A2_0 l2_0.length c2_0,.slice A2_1 l2_1.length c2_1,.int .i64 lo,.int .i64 a2_3] 30)).alloc (Obj.cells #[.int .i64 a3] 3)).heap.size=w.heap.size+1+1+1:=by simp
  have b2:(((w.alloc (Obj.cells #[.int .i64 a0_0,.slice A0_1 l0_1.length c0_1,.slice (some ad) l0_2.length c0_2] 27)).alloc (Obj.cells #[.slice A2_0 l2_0.length c2_0,.slice A2_1 l2_1.length c2_1,.int .i64 lo,.int .i64 a2_3] 30)).alloc (Obj.cells #[.int .i64 a3] 3)).heap[w.heap.size+1]?=some (.cells #[.slice A2_0 l2_0.length c2_0,.slice A2_1 l2_1.length c2_1,.int .i64 lo,.int .i64 a2_3] 30 (0,0)):=by
    have:=blk_alloc (blk_new (w.alloc (Obj.cells #[.int .i64 a0_0,.slice A0_1 l0_1.length c0_1,.slice (some ad) l0_2.length c0_2] 27)) (Obj.cells #[.slice A2_0 l2_0.length c2_0,.slice A2_1 l2_1.length c2_1,.int .i64 lo,.int .i64 a2_3] 30)) (Obj.cells #[.int .i64 a3] 3)
    rwa [World.size_alloc] at this
  have b3:(((w.alloc (Obj.cells #[.int .i64 a0_0,.slice A0_1 l0_1.length c0_1,.slice (some ad) l0_2.length c0_2] 27)).alloc (Obj.cells #[.slice A2_0 l2_0.length c2_0,.slice A2_1 l2_1.length c2_1,.int .i64 lo,.int .i64 a2_3] 30)).alloc (Obj.cells #[.int .i64 a3] 3)).heap[w.heap.size+1+1]?=some (.cells #[.int .i64 a3] 3 (0,0)):=by
    have:=blk_new ((w.alloc (Obj.cells #[.int .i64 a0_0,.slice A0_1 l0_1.length c0_1,.slice (some ad) l0_2.length c0_2] 27)).alloc (Obj.cells #[.slice A2_0 l2_0.length c2_0,.slice A2_1 l2_1.length c2_1,.int .i64 lo,.int .i64 a2_3] 30)) (Obj.cells #[.int .i64 a3] 3)
    rwa [World.size_alloc,World.size_alloc] at this
  obtain ⟨w1,hw1⟩:∃ w1,((w.alloc (Obj.cells #[.int .i64 a0_0,.slice A0_1 l0_1.length c0_1,.slice (some ad) l0_2.length c0_2] 27)).alloc (Obj.cells #[.slice A2_0 l2_0.length c2_0,.slice A2_1 l2_1.length c2_1,.int .i64 lo,.int .i64 a2_3] 30)).alloc (Obj.cells #[.int .i64 a3] 3)=w1:=⟨_,rfl⟩
  rw [hw1] at b2 b3 hb0 z1 ⊢
  clear hw1
  refine (asked_yes k pn w1 (HBK.out.below hb0) H1.out H2.out H3.out H4.out HE.out).2.2.mono ?_
  rintro e w2 ⟨rfl,hb2⟩
  have HB2:=Aside0.mk (hb0.trans (hb2.mono hb0.size))
  replace b2:=(hb2.block (w.heap.size+1) (by omega)).trans b2
  replace b3:=(hb2.block (w.heap.size+1+1) (by omega)).trans b3
  have l2:=blk_lt b3
  have l1:=blk_lt b2
  have q0:w2.cell? ⟨w.heap.size+1,0,none⟩=some (.slice A2_0 l2_0.length c2_0):=(blk_cell b2 0).trans rfl
  have q2:w2.cell? ⟨w.heap.size+1,2,none⟩=some (.int .i64 lo):=(blk_cell b2 2).trans rfl
  have q3:w2.cell? ⟨w.heap.size+1+1,0,none⟩=some (.int .i64 a3):=(blk_cell b3 0).trans rfl
  have HBB2:=Aside0.mk b2
  have HBB3:=Aside0.mk b3
  clear hb2 hb0 b2 b3 z1
  have hli:(decide (0≤a3) && decide (a3≤(l2_0.length:Int) - 1))=true:=hwh
  go_wp2_with (first|(go_at_call 65;refine (lies_any _ _ _ _).mono ?_;rw [HWH.out];rintro e w' ⟨rfl,⟨nd,rfl⟩⟩))
  have HB3:=Aside0.mk ((pw_below_drewN (HB2.out.alloc HB2.out.size (Obj.cells #[.int .i64 a0_0,.slice A0_1 l0_1.length c0_1,.slice (some ad) l0_2.length c0_2,.int .i64 pn,.slice A2_0 l2_0.length c2_0,.slice A2_1 l2_1.length c2_1,.int .i64 lo,.int .i64 a2_3] 94)) nd).alloc (by simpa using Nat.le_succ_of_le HB2.out.size) (Obj.cells #[.bool false,.bool false,.bool false,.bool false,.bool false,.bool false,.bool false,.bool false,.bool false,.bool false,.bool false,.bool false,.bool false,.bool false,.bool false,.bool false,.bool false,.bool false,.bool false,.bool false,.bool false,.bool false,.bool false,.bool false] 104))
  have m1:(((w2.alloc (Obj.cells #[.int .i64 a0_0,.slice A0_1 l0_1.length c0_1,.slice (some ad) l0_2.length c0_2,.int .i64 pn,.slice A2_0 l2_0.length c2_0,.slice A2_1 l2_1.length c2_1,.int .i64 lo,.int .i64 a2_3] 94)).drewN nd).alloc (Obj.cells #[.bool false,.bool false,.bool false,.bool false,.bool false,.bool false,.bool false,.bool false,.bool false,.bool false,.bool false,.bool false,.bool false,.bool false,.bool false,.bool false,.bool false,.bool false,.bool false,.bool false,.bool false,.bool false,.bool false,.bool false] 104)).heap[w2.heap.size]?=some (.cells #[.int .i64 a0_0,.slice A0_1 l0_1.length c0_1,.slice (some ad) l0_2.length c0_2,.int .i64 pn,.slice A2_0 l2_0.length c2_0,.slice A2_1 l2_1.length c2_1,.int .i64 lo,.int .i64 a2_3] 94 (0,0)):=blk_alloc (blk_drewN (blk_new w2 (Obj.cells #[.int .i64 a0_0,.slice A0_1 l0_1.length c0_1,.slice (some ad) l0_2.length c0_2,.int .i64 pn,.slice A2_0 l2_0.length c2_0,.slice A2_1 l2_1.length c2_1,.int .i64 lo,.int .i64 a2_3] 94)) nd) _
  have m2:(((w2.alloc (Obj.cells #[.int .i64 a0_0,.slice A0_1 l0_1.length c0_1,.slice (some ad) l0_2.length c0_2,.int .i64 pn,.slice A2_0 l2_0.length c2_0,.slice A2_1 l2_1.length c2_1,.int .i64 lo,.int .i64 a2_3] 94)).drewN nd).alloc (Obj.cells #[.bool false,.bool false,.bool false,.bool false,.bool false,.bool false,.bool false,.bool false,.bool false,.bool false,.bool false,.bool false,.bool false,.bool false,.bool false,.bool false,.bool false,.bool false,.bool false,.bool false,.bool false,.bool false,.bool false,.bool false] 104)).heap[w2.heap.size+1]?=some (.cells (bvs (metUpto cv (ptones l0_2 pn).length 0)) 104 (0,0)):=by
    rw [metUpto_zero]
    have:=blk_new ((w2.alloc (Obj.cells #[.int .i64 a0_0,.slice A0_1 l0_1.length c0_1,.slice (some ad) l0_2.length c0_2,.int .i64 pn,.slice A2_0 l2_0.length c2_0,.slice A2_1 l2_1.length c2_1,.int .i64 lo,.int .i64 a2_3] 94)).drewN nd) (Obj.cells #[.bool false,.bool false,.bool false,.bool false,.bool false,.bool false,.bool false,.bool false,.bool false,.bool false,.bool false,.bool false,.bool false,.bool false,.bool false,.bool false,.bool false,.bool false,.bool false,.bool false,.bool false,.bool false,.bool false,.bool false] 104)
    rw [show ((w2.alloc (Obj.cells #[.int .i64 a0_0,.slice A0_1 l0_1.length c0_1,.slice (some ad) l0_2.length c0_2,.int .i64 pn,.slice A2_0 l2_0.length c2_0,.slice A2_1 l2_1.length c2_1,.int .i64 lo,.int .i64 a2_3] 94)).drewN nd).heap.size=w2.heap.size+1 from by simp] at this
    exact this
  have m3:(((w2.alloc (Obj.cells #[.int .i64 a0_0,.slice A0_1 l0_1.length c0_1,.slice (some ad) l0_2.length c0_2,.int .i64 pn,.slice A2_0 l2_0.length c2_0,.slice A2_1 l2_1.length c2_1,.int .i64 lo,.int .i64 a2_3] 94)).drewN nd).alloc (Obj.cells #[.bool false,.bool false,.bool false,.bool false,.bool false,.bool false,.bool false,.bool false,.bool false,.bool false,.bool false,.bool false,.bool false,.bool false,.bool false,.bool false,.bool false,.bool false,.bool false,.bool false,.bool false,.bool false,.bool false,.bool false] 104)).heap[w.heap.size+1]?=some (.cells #[.slice A2_0 l2_0.length c2_0,.slice A2_1 l2_1.length c2_1,.int .i64 lo,.int .i64 a2_3] 30 (0,0)):=blk_alloc (blk_drewN (blk_alloc HBB2.out _) nd) _
  have m4:(((w2.alloc (Obj.cells #[.int .i64 a0_0,.slice A0_1 l0_1.length c0_1,.slice (some ad) l0_2.length c0_2,.int .i64 pn,.slice A2_0 l2_0.length c2_0,.slice A2_1 l2_1.length c2_1,.int .i64 lo,.int .i64 a2_3] 94)).drewN nd).alloc (Obj.cells #[.bool false,.bool false,.bool false,.bool false,.bool false,.bool false,.bool false,.bool false,.bool false,.bool false,.bool false,.bool false,.bool false,.bool false,.bool false,.bool false,.bool false,.bool false,.bool false,.bool false,.bool false,.bool false,.bool false,.bool false] 104)).heap[w.heap.size+1+1]?=some (.cells #[.int .i64 a3] 3 (0,0)):=blk_alloc (blk_drewN (blk_alloc HBB3.out _) nd) _
  obtain ⟨n0,hn0⟩:∃ n0,w2.heap.size=n0:=⟨_,rfl⟩
  obtain ⟨w3,hw3⟩:∃ w3,((w2.alloc (Obj.cells #[.int .i64 a0_0,.slice A0_1 l0_1.length c0_1,.slice (some ad) l0_2.length c0_2,.int .i64 pn,.slice A2_0 l2_0.length c2_0,.slice A2_1 l2_1.length c2_1,.int .i64 lo,.int .i64 a2_3] 94)).drewN nd).alloc (Obj.cells #[.bool false,.bool false,.bool false,.bool false,.bool false,.bool false,.bool false,.bool false,.bool false,.bool false,.bool false,.bool false,.bool false,.bool false,.bool false,.bool false,.bool false,.bool false,.bool false,.bool false,.bool false,.bool false,.bool false,.bool false] 104)=w3:=⟨_,rfl⟩
  rw [hn0] at m1 m2 l1 l2 ⊢
  rw [hw3] at HB3 m1 m2 m3 m4 ⊢
  have hst:StkS a0_0 A0_1 c0_1 l0_1 ad c0_2 l0_2 pn A2_0 c2_0 l2_0 A2_1 c2_1 l2_1 lo a2_3 a3 n0 (w.heap.size+1) (w.heap.size+1+1) (n0+1) (metUpto cv (ptones l0_2 pn).length 0) w3 :=
    ⟨(blk_cell m1 0).trans rfl,(blk_cell m1 1).trans rfl,(blk_cell m1 2).trans rfl,(blk_cell m1 3).trans rfl,(blk_cell m1 4).trans rfl,(blk_cell m1 5).trans rfl,(blk_cell m1 6).trans rfl,(blk_cell m1 7).trans rfl,(blk_cell m3 2).trans rfl,(blk_cell m4 0).trans rfl,m2⟩
  have HST:=Aside0.mk hst
  clear hst m1 m2 m3 m4 hw3 hn0 q0 q2 q3 HBB2 HBB3 HB2 hli hwh
  refine (tones_at (g:=a0_0) (cf:=c0_1) (cp:=c0_2) (ct:=c2_0) (cg:=c2_1) (lost:=lo) (wrong:=a2_3) (At:=A2_0) (ts:=l2_0) (Ag:=A2_1) (gs:=l2_1) (Af:=A0_1) (fs:=l0_1) (ps:=l0_2) (pn:=pn) hpn ad A1 c1' _ (kc HB3.out HX1.out)).mono ?_
  rintro e w4 ⟨rfl,hb4⟩
  have HST4:=Aside0.mk (HST.out.below hb4)
  have HB4:=Aside0.mk (HB3.out.trans (hb4.mono HB3.out.size))
  clear hb4 HST HB3
  go_wp2_with fail
  go_loopg [36] (ptones l0_2 pn).length (fun gk v36 w'=>∃ i:Nat,v36=.int .i64 i∧Aside0 (gk+i=(ptones l0_2 pn).length)∧Aside0 (StkS a0_0 A0_1 c0_1 l0_1 ad c0_2 l0_2 pn A2_0 c2_0 l2_0 A2_1 c2_1 l2_1 lo a2_3 a3 n0 (w.heap.size+1) (w.heap.size+1+1) (n0+1) (metUpto cv (ptones l0_2 pn).length i) w')∧Aside0 (Below w.heap.size w w'))
  case atStart=>exact ⟨0,rfl,⟨rfl⟩,HST4,HB4⟩
  case round =>
    clear HST4 HB4
    obtain ⟨i,rfl,HI,HST,HB⟩:=hrel
    have hi:=HI.out
    have u0:=HST.out.s0
    have u1:=HST.out.s1
    have u2:=HST.out.s2
    have u3:=HST.out.s3
    have u4:=HST.out.s4
    have u5:=HST.out.s5
    have u6:=HST.out.s6
    have u7:=HST.out.s7
    have lr:=World.block_lt_of_cell? _ _ u0
    simp only at lr
    by_cases hlt:i<(ptones l0_2 pn).length
    · go_wp2_with fail
      have HB5:=Aside0.mk ((HB.out.alloc HB.out.size (Obj.cells #[.int .i64 i] 3)).alloc (by simpa using Nat.le_succ_of_le HB.out.size) (Obj.cells #[.func (.func 70) #[] #[.pointer (some ⟨w.heap.size+1+1,0,none⟩),.pointer (some ⟨wr.heap.size,0,none⟩)]] 110))
      have HST5:=Aside0.mk (HST.out.below ((below_alloc (Below.refl _ wr) (Obj.cells #[.int .i64 i] 3)).alloc (by simp) (Obj.cells #[.func (.func 70) #[] #[.pointer (some ⟨w.heap.size+1+1,0,none⟩),.pointer (some ⟨wr.heap.size,0,none⟩)]] 110)))
      have p1:((wr.alloc (Obj.cells #[.int .i64 i] 3)).alloc (Obj.cells #[.func (.func 70) #[] #[.pointer (some ⟨w.heap.size+1+1,0,none⟩),.pointer (some ⟨wr.heap.size,0,none⟩)]] 110)).heap[wr.heap.size]?=some (.cells #[.int .i64 i] 3 (0,0)):=blk_alloc (blk_new wr (Obj.cells #[.int .i64 i] 3)) _
      have p2:((wr.alloc (Obj.cells #[.int .i64 i] 3)).alloc (Obj.cells #[.func (.func 70) #[] #[.pointer (some ⟨w.heap.size+1+1,0,none⟩),.pointer (some ⟨wr.heap.size,0,none⟩)]] 110)).heap[wr.heap.size+1]?=some (.cells #[.func (.func 70) #[] #[.pointer (some ⟨w.heap.size+1+1,0,none⟩),.pointer (some ⟨wr.heap.size,0,none⟩)]] 110 (0,0)):=by
        have:=blk_new (wr.alloc (Obj.cells #[.int .i64 i] 3)) (Obj.cells #[.func (.func 70) #[] #[.pointer (some ⟨w.heap.size+1+1,0,none⟩),.pointer (some ⟨wr.heap.size,0,none⟩)]] 110)
        rwa [World.size_alloc] at this
      obtain ⟨w5,hw5⟩:∃ w5,(wr.alloc (Obj.cells #[.int .i64 i] 3)).alloc (Obj.cells #[.func (.func 70) #[] #[.pointer (some ⟨w.heap.size+1+1,0,none⟩),.pointer (some ⟨wr.heap.size,0,none⟩)]] 110)=w5:=⟨_,rfl⟩
      rw [hw5] at HB5 HST5 p1 p2 ⊢
      obtain ⟨n5,hn5⟩:∃ n5,wr.heap.size=n5:=⟨_,rfl⟩
      rw [hn5] at p1 p2 lr ⊢
      have p1':w5.cell? ⟨n5,0,none⟩=some (.int .i64 i):=(blk_cell p1 0).trans rfl
      have p2':w5.cell? ⟨n5+1,0,none⟩=some (.func (.func 70) #[] #[.pointer (some ⟨w.heap.size+1+1,0,none⟩),.pointer (some ⟨n5,0,none⟩)]):=(blk_cell p2 0).trans rfl
      have HP:=Aside0.mk (And.intro p1' p2')
      have hpm:n0+1<n5:=by rw [← hn5];exact blk_lt HST.out.mt
      clear hw5 hn5 p1 p2 p1' p2' u0 u1 u2 u3 u4 u5 u6 u7 HST HB
      refine (tones_at (g:=a0_0) (cf:=c0_1) (cp:=c0_2) (ct:=c2_0) (cg:=c2_1) (lost:=lo) (wrong:=a2_3) (At:=A2_0) (ts:=l2_0) (Ag:=A2_1) (gs:=l2_1) (Af:=A0_1) (fs:=l0_1) (ps:=l0_2) (pn:=pn) hpn ad A1 c1' _ (kc HB5.out HX1.out)).mono ?_
      rintro e w6 ⟨rfl,hb6⟩
      have HB6:=Aside0.mk (HB5.out.trans (hb6.mono HB5.out.size))
      have HST6:=Aside0.mk (HST5.out.below hb6)
      have HP6:=Aside0.mk (And.intro (kc hb6 HP.out.1) (kc hb6 HP.out.2))
      clear hb6 HP HST5 HB5
      rw [← metIn_zero _ _ _ (by omega)] at HST6
      go_wp2_with fail
      go_loopg [44] (ptones l0_2 pn).length (fun gk2 v44 w'=>∃ f:Nat,v44=.int .i64 f∧Aside0 (gk2+f=(ptones l0_2 pn).length)∧Aside0 (StkS a0_0 A0_1 c0_1 l0_1 ad c0_2 l0_2 pn A2_0 c2_0 l2_0 A2_1 c2_1 l2_1 lo a2_3 a3 n0 (w.heap.size+1) (w.heap.size+1+1) (n0+1) (metIn cv (ptones l0_2 pn).length i f) w')∧Aside0 (w'.cell? ⟨n5,0,none⟩=some (.int .i64 i)∧w'.cell? ⟨n5+1,0,none⟩=some (.func (.func 70) #[] #[.pointer (some ⟨w.heap.size+1+1,0,none⟩),.pointer (some ⟨n5,0,none⟩)]))∧Aside0 (Below w.heap.size w w'))
      case atStart=>exact ⟨0,rfl,⟨rfl⟩,HST6,HP6,HB6⟩
      case round =>
        clear HST6 HP6 HB6
        obtain ⟨f,rfl,HF,HST,HP,HB⟩:=hrel
        have hf:=HF.out
        by_cases hltf:f<(ptones l0_2 pn).length
        · have v0:=HST.out.s0
          have v1:=HST.out.s1
          have v2:=HST.out.s2
          have v3:=HST.out.s3
          have v4:=HST.out.s4
          have v5:=HST.out.s5
          have v6:=HST.out.s6
          have v7:=HST.out.s7
          have v8:=HST.out.l2
          obtain ⟨v9,v10⟩:=HP.out
          have hi24:(i:Int)<24:=by omega
          have hi0:0≤(i:Int):=by omega
          cases hm:(List.range f).any (cv i) with
          | true =>
            have hmc:wr.cell? ⟨n0+1,i,none⟩=some (.bool true):=by
              rw [← hm]
              exact (blk_cell HST.out.mt i).trans (by rw [bvs_get,metIn_at _ _ _ _ (by omega)];rfl)
            have hmf:=blk_frozen HST.out.mt i
            have HM:=Aside0.mk hm
            clear hm
            go_wp2_with fail
            refine wp_region_held_drew (S:=(fun w'=>w'.cell? ⟨n0,0,none⟩=some (.int .i64 a0_0)∧w'.cell? ⟨n0,1,none⟩=some (.slice A0_1 l0_1.length c0_1)∧w'.cell? ⟨n0,2,none⟩=some (.slice (some ad) l0_2.length c0_2)∧w'.cell? ⟨n0,3,none⟩=some (.int .i64 pn)∧w'.cell? ⟨n0,4,none⟩=some (.slice A2_0 l2_0.length c2_0)∧w'.cell? ⟨n0,5,none⟩=some (.slice A2_1 l2_1.length c2_1)∧w'.cell? ⟨n0,6,none⟩=some (.int .i64 lo)∧w'.cell? ⟨n0,7,none⟩=some (.int .i64 a2_3)∧w'.cell? ⟨w.heap.size+1,2,none⟩=some (.int .i64 lo)∧w'.cell? ⟨n5,0,none⟩=some (.int .i64 i)∧w'.cell? ⟨n5+1,0,none⟩=some (.func (.func 70) #[] #[.pointer (some ⟨w.heap.size+1+1,0,none⟩),.pointer (some ⟨n5,0,none⟩)])∧w'.cell? ⟨n0+1,i,none⟩=some (.bool true))) (by kernel_rfl) ⟨v0,v1,v2,v3,v4,v5,v6,v7,v8,v9,v10,hmc⟩ (fun hHeld=>?_)
            refine wpAnyH_take (i:=0) (v:=.int .i64 i) rfl (by kernel_rfl) (by kernel_rfl) (by kernel_rfl) (fun _ _ _ h=>h) (Or.inl ⟨by rfl,?_⟩) (by assumption) ?_
            · intro w hSw
              obtain ⟨g0,g1,g2,g3,g4,g5,g6,g7,g8,g9,g10,g11⟩:=hSw
              go_simp
            simp only [Act.put,List.setIfInBounds_toArray,List.set_cons_zero,List.set_cons_succ]
            refine wpAnyH_take (i:=1) (v:=.int .i64 i) rfl (by kernel_rfl) (by kernel_rfl) (by kernel_rfl) (fun _ _ _ h=>h) (Or.inl ⟨by rfl,?_⟩) (by assumption) ?_
            · intro w hSw
              obtain ⟨g0,g1,g2,g3,g4,g5,g6,g7,g8,g9,g10,g11⟩:=hSw
              go_simp
            simp only [Act.put,List.setIfInBounds_toArray,List.set_cons_zero,List.set_cons_succ]
            refine wpAnyH_take (i:=2) (v:=.pointer (some ⟨n0+1,i,none⟩)) rfl (by kernel_rfl) (by kernel_rfl) (by kernel_rfl) (fun _ _ _ h=>h) (Or.inl ⟨by rfl,?_⟩) (by assumption) ?_
            · intro w hSw
              obtain ⟨g0,g1,g2,g3,g4,g5,g6,g7,g8,g9,g10,g11⟩:=hSw
              go_simp
            simp only [Act.put,List.setIfInBounds_toArray,List.set_cons_zero,List.set_cons_succ]
            refine wpAnyH_take (i:=3) (v:=.bool true) rfl (by kernel_rfl) (by kernel_rfl) (by kernel_rfl) (fun _ _ _ h=>h) (Or.inl ⟨by rfl,?_⟩) (by assumption) ?_
            · intro w hSw
              obtain ⟨g0,g1,g2,g3,g4,g5,g6,g7,g8,g9,g10,g11⟩:=hSw
              go_simp
            simp only [Act.put,List.setIfInBounds_toArray,List.set_cons_zero,List.set_cons_succ]
            refine wpAnyH_take (i:=4) (v:=.bool true) rfl (by kernel_rfl) (by kernel_rfl) (by kernel_rfl) (fun _ _ _ h=>h) (Or.inl ⟨by rfl,?_⟩) (by assumption) ?_
            · intro w hSw
              obtain ⟨g0,g1,g2,g3,g4,g5,g6,g7,g8,g9,g10,g11⟩:=hSw
              go_simp
            simp only [Act.put,List.setIfInBounds_toArray,List.set_cons_zero,List.set_cons_succ]
            refine wpAnyH_take (i:=5) (v:=undef) rfl (by kernel_rfl) (by kernel_rfl) (by kernel_rfl) (fun _ _ _ h=>h) (Or.inr ⟨by kernel_rfl,rfl⟩) (by assumption) ?_
            simp only [Act.put,List.setIfInBounds_toArray,List.set_cons_zero,List.set_cons_succ]
            refine wpAnyH_take (i:=6) (v:=undef) rfl (by kernel_rfl) (by kernel_rfl) (by kernel_rfl) (fun _ _ _ h=>h) (Or.inr ⟨by kernel_rfl,rfl⟩) (by assumption) ?_
            simp only [Act.put,List.setIfInBounds_toArray,List.set_cons_zero,List.set_cons_succ]
            refine wpAnyH_take (i:=7) (v:=undef) rfl (by kernel_rfl) (by kernel_rfl) (by kernel_rfl) (fun _ _ _ h=>h) (Or.inr ⟨by kernel_rfl,rfl⟩) (by assumption) ?_
            simp only [Act.put,List.setIfInBounds_toArray,List.set_cons_zero,List.set_cons_succ]
            refine wpAnyH_take (i:=8) (v:=undef) rfl (by kernel_rfl) (by kernel_rfl) (by kernel_rfl) (fun _ _ _ h=>h) (Or.inr ⟨by kernel_rfl,rfl⟩) (by assumption) ?_
            simp only [Act.put,List.setIfInBounds_toArray,List.set_cons_zero,List.set_cons_succ]
            refine wpAnyH_take (i:=9) (v:=undef) rfl (by kernel_rfl) (by kernel_rfl) (by kernel_rfl) (fun _ _ _ h=>h) (Or.inr ⟨by kernel_rfl,rfl⟩) (by assumption) ?_
            simp only [Act.put,List.setIfInBounds_toArray,List.set_cons_zero,List.set_cons_succ]
            refine wpAnyH_take (i:=10) (v:=undef) rfl (by kernel_rfl) (by kernel_rfl) (by kernel_rfl) (fun _ _ _ h=>h) (Or.inr ⟨by kernel_rfl,rfl⟩) (by assumption) ?_
            simp only [Act.put,List.setIfInBounds_toArray,List.set_cons_zero,List.set_cons_succ]
            refine wpAnyH_ready (rs:=[11]) (by kernel_rfl) (by simp) ?_
            refine AllReadyH.cons rfl (fun K hK=>?_) (AllReadyH.nil)
            go_simp
            refine hK _ _ ⟨v0,v1,v2,v3,v4,v5,v6,v7,v8,v9,v10,hmc⟩ (fun hH=>?_)
            clear hK
            refine wpAnyH_take (i:=12) (v:=.pointer (some ⟨n0+1,i,none⟩)) rfl (by kernel_rfl) (by kernel_rfl) (by kernel_rfl) (fun _ _ _ h=>h) (Or.inl ⟨by rfl,?_⟩) (by assumption) ?_
            · intro w hSw
              obtain ⟨g0,g1,g2,g3,g4,g5,g6,g7,g8,g9,g10,g11⟩:=hSw
              go_simp
            simp only [Act.put,List.setIfInBounds_toArray,List.set_cons_zero,List.set_cons_succ]
            refine wpAnyH_ready (rs:=[13]) (by kernel_rfl) (by simp) ?_
            refine AllReadyH.cons rfl (fun K hK=>?_) (AllReadyH.nil)
            go_simp
            have o:∀ {a:Addr} {u:Value},a≠⟨n0+1,i,none⟩→wr.cell? a=some u→(wr.drew.setCell ⟨n0+1,i,none⟩ (.bool true)).cell? a=some u:=fun hne hc=>(World.cell?_setCell_other _ _ _ _ (fun e=>hne e.symm)).trans hc
            refine hK _ _ ⟨o (by intro e;injection e;omega) v0,o (by intro e;injection e;omega) v1,o (by intro e;injection e;omega) v2,o (by intro e;injection e;omega) v3,o (by intro e;injection e;omega) v4,o (by intro e;injection e;omega) v5,o (by intro e;injection e;omega) v6,o (by intro e;injection e;omega) v7,o (by intro e;injection e;omega) v8,o (by intro e;injection e;omega) v9,o (by intro e;injection e;omega) v10,World.cell?_setCell_same _ _ _ hmc⟩ (fun hH=>?_)
            clear hK o hH
            refine wpAnyH_done (by kernel_rfl) ?_ _
            have HST2:=Aside0.mk ((HST.out.below (Below.refl _ wr).drew).set (pm:=n0+1) ⟨by omega,by omega,by omega⟩ i (.bool true) _ (metIn_set cv (ptones l0_2 pn).length i f true (by rw [HM.out];rfl)))
            have HB2:=Aside0.mk (HB.out.drew.setCell (p:=⟨n0+1,i,none⟩) (by show w.heap.size≤n0+1;omega) (.bool true))
            have HP2:Aside0 ((wr.drew.setCell ⟨n0+1,i,none⟩ (.bool true)).cell? ⟨n5,0,none⟩=some (.int .i64 i)∧(wr.drew.setCell ⟨n0+1,i,none⟩ (.bool true)).cell? ⟨n5+1,0,none⟩=some (.func (.func 70) #[] #[.pointer (some ⟨w.heap.size+1+1,0,none⟩),.pointer (some ⟨n5,0,none⟩)])):=⟨(World.cell?_setCell_other _ _ _ _ (by intro e;injection e;omega)).trans HP.out.1,(World.cell?_setCell_other _ _ _ _ (by intro e;injection e;omega)).trans HP.out.2⟩
            go_wp2_with fail
            go_roundg (gk - 1)
            case measure=>omega
            case rel=>exact ⟨f+1,by go_num,⟨by omega⟩,HST2,HP2,HB2⟩
          | false =>
            have hmc:wr.cell? ⟨n0+1,i,none⟩=some (.bool false):=by
              rw [← hm]
              exact (blk_cell HST.out.mt i).trans (by rw [bvs_get,metIn_at _ _ _ _ (by omega)];rfl)
            have HM:=Aside0.mk hm
            clear hm
            go_wp2_with fail
            refine wp_region_held_drew (S:=(fun w'=>w'.cell? ⟨n0,0,none⟩=some (.int .i64 a0_0)∧w'.cell? ⟨n0,1,none⟩=some (.slice A0_1 l0_1.length c0_1)∧w'.cell? ⟨n0,2,none⟩=some (.slice (some ad) l0_2.length c0_2)∧w'.cell? ⟨n0,3,none⟩=some (.int .i64 pn)∧w'.cell? ⟨n0,4,none⟩=some (.slice A2_0 l2_0.length c2_0)∧w'.cell? ⟨n0,5,none⟩=some (.slice A2_1 l2_1.length c2_1)∧w'.cell? ⟨n0,6,none⟩=some (.int .i64 lo)∧w'.cell? ⟨n0,7,none⟩=some (.int .i64 a2_3)∧w'.cell? ⟨w.heap.size+1,2,none⟩=some (.int .i64 lo)∧w'.cell? ⟨n5,0,none⟩=some (.int .i64 i)∧w'.cell? ⟨n5+1,0,none⟩=some (.func (.func 70) #[] #[.pointer (some ⟨w.heap.size+1+1,0,none⟩),.pointer (some ⟨n5,0,none⟩)]))) (by kernel_rfl) ⟨v0,v1,v2,v3,v4,v5,v6,v7,v8,v9,v10⟩ (fun hHeld=>?_)
            refine wpAnyH_take (i:=0) (v:=.int .i64 i) rfl (by kernel_rfl) (by kernel_rfl) (by kernel_rfl) (fun _ _ _ h=>h) (Or.inl ⟨by rfl,?_⟩) (by assumption) ?_
            · intro w hSw
              obtain ⟨g0,g1,g2,g3,g4,g5,g6,g7,g8,g9,g10⟩:=hSw
              go_simp
            simp only [Act.put,List.setIfInBounds_toArray,List.set_cons_zero,List.set_cons_succ]
            refine wpAnyH_take (i:=1) (v:=.int .i64 i) rfl (by kernel_rfl) (by kernel_rfl) (by kernel_rfl) (fun _ _ _ h=>h) (Or.inl ⟨by rfl,?_⟩) (by assumption) ?_
            · intro w hSw
              obtain ⟨g0,g1,g2,g3,g4,g5,g6,g7,g8,g9,g10⟩:=hSw
              go_simp
            simp only [Act.put,List.setIfInBounds_toArray,List.set_cons_zero,List.set_cons_succ]
            refine wpAnyH_take (i:=2) (v:=.pointer (some ⟨n0+1,i,none⟩)) rfl (by kernel_rfl) (by kernel_rfl) (by kernel_rfl) (fun _ _ _ h=>h) (Or.inl ⟨by rfl,?_⟩) (by assumption) ?_
            · intro w hSw
              obtain ⟨g0,g1,g2,g3,g4,g5,g6,g7,g8,g9,g10⟩:=hSw
              go_simp
            simp only [Act.put,List.setIfInBounds_toArray,List.set_cons_zero,List.set_cons_succ]
            refine wpAnyH_ready (rs:=[3]) (by kernel_rfl) (by simp) ?_
            refine AllReadyH.cons rfl (fun K hK=>?_) (AllReadyH.nil)
            go_simp
            refine hK _ _ ⟨v0,v1,v2,v3,v4,v5,v6,v7,v8,v9,v10⟩ (fun hH=>?_)
            clear hK
            refine wpAnyH_take (i:=4) (v:=.bool false) rfl (by kernel_rfl) (by kernel_rfl) (by kernel_rfl) (fun _ _ _ h=>h) (Or.inl ⟨by rfl,?_⟩) (by assumption) ?_
            · intro w hSw
              obtain ⟨g0,g1,g2,g3,g4,g5,g6,g7,g8,g9,g10⟩:=hSw
              go_simp
            simp only [Act.put,List.setIfInBounds_toArray,List.set_cons_zero,List.set_cons_succ]
            refine wpAnyH_take (i:=5) (v:=.agg #[.int .i64 a0_0,.slice A0_1 l0_1.length c0_1,.slice (some ad) l0_2.length c0_2,.int .i64 pn,.slice A2_0 l2_0.length c2_0,.slice A2_1 l2_1.length c2_1,.int .i64 lo,.int .i64 a2_3]) rfl (by kernel_rfl) (by kernel_rfl) (by kernel_rfl) (fun _ _ _ h=>h) (Or.inl ⟨by rfl,?_⟩) (by assumption) ?_
            · intro w hSw
              obtain ⟨g0,g1,g2,g3,g4,g5,g6,g7,g8,g9,g10⟩:=hSw
              go_simp
            simp only [Act.put,List.setIfInBounds_toArray,List.set_cons_zero,List.set_cons_succ]
            refine wpAnyH_take (i:=6) (v:=.int .i64 f) rfl (by kernel_rfl) (by kernel_rfl) (by kernel_rfl) (fun _ _ _ h=>h) (Or.inl ⟨by rfl,?_⟩) (by assumption) ?_
            · intro w hSw
              obtain ⟨g0,g1,g2,g3,g4,g5,g6,g7,g8,g9,g10⟩:=hSw
              go_simp
            simp only [Act.put,List.setIfInBounds_toArray,List.set_cons_zero,List.set_cons_succ]
            refine wpAnyH_take (i:=7) (v:=.pointer (some ⟨w.heap.size+1,2,none⟩)) rfl (by kernel_rfl) (by kernel_rfl) (by kernel_rfl) (fun _ _ _ h=>h) (Or.inl ⟨by rfl,?_⟩) (by assumption) ?_
            · intro w hSw
              obtain ⟨g0,g1,g2,g3,g4,g5,g6,g7,g8,g9,g10⟩:=hSw
              go_simp
            simp only [Act.put,List.setIfInBounds_toArray,List.set_cons_zero,List.set_cons_succ]
            refine wpAnyH_take (i:=8) (v:=.int .i64 lo) rfl (by kernel_rfl) (by kernel_rfl) (by kernel_rfl) (fun _ _ _ h=>h) (Or.inl ⟨by rfl,?_⟩) (by assumption) ?_
            · intro w hSw
              obtain ⟨g0,g1,g2,g3,g4,g5,g6,g7,g8,g9,g10⟩:=hSw
              go_simp
            simp only [Act.put,List.setIfInBounds_toArray,List.set_cons_zero,List.set_cons_succ]
            refine wpAnyH_take (i:=9) (v:=.agg #[.func (.func 70) #[] #[.pointer (some ⟨w.heap.size+1+1,0,none⟩),.pointer (some ⟨n5,0,none⟩)]]) rfl (by kernel_rfl) (by kernel_rfl) (by kernel_rfl) (fun _ _ _ h=>h) (Or.inl ⟨by rfl,?_⟩) (by assumption) ?_
            · intro w hSw
              obtain ⟨g0,g1,g2,g3,g4,g5,g6,g7,g8,g9,g10⟩:=hSw
              go_simp
            simp only [Act.put,List.setIfInBounds_toArray,List.set_cons_zero,List.set_cons_succ]
            refine wpAnyH_ready (rs:=[10]) (by kernel_rfl) (by simp) ?_
            refine AllReadyH.cons rfl (fun K hK=>?_) (AllReadyH.nil)
            go_simp
            refine (HCALL.out _ (w.heap.size+1+1) n5 i HB.out.drew HST.out.wh v9 f hltf).mono ?_
            rintro e w7 ⟨rfl,hb7⟩
            have HB7:=Aside0.mk (HB.out.drew.trans (hb7.mono HB.out.drew.size))
            have HST7:=Aside0.mk ((HST.out.below (Below.refl _ wr).drew).below hb7)
            have x0:=kc hb7 v0
            have x1:=kc hb7 v1
            have x2:=kc hb7 v2
            have x3:=kc hb7 v3
            have x4:=kc hb7 v4
            have x5:=kc hb7 v5
            have x6:=kc hb7 v6
            have x7:=kc hb7 v7
            have x8:=kc hb7 v8
            have x9:=kc hb7 v9
            have x10:=kc hb7 v10
            have xm:=kc hb7 hmc
            have xf:=blk_frozen HST7.out.mt i
            refine hK _ _ ⟨x0,x1,x2,x3,x4,x5,x6,x7,x8,x9,x10⟩ (fun hH=>?_)
            clear hK hb7 v0 v1 v2 v3 v4 v5 v6 v7 v8 v9 v10 hmc
            refine wpAnyH_ready (rs:=[11]) (by kernel_rfl) (by simp) ?_
            refine AllReadyH.cons rfl (fun K hK=>?_) (AllReadyH.nil)
            go_simp
            refine hK _ _ ⟨x0,x1,x2,x3,x4,x5,x6,x7,x8,x9,x10⟩ (fun hH=>?_)
            clear hK
            refine wpAnyH_take (i:=12) (v:=.pointer (some ⟨n0+1,i,none⟩)) rfl (by kernel_rfl) (by kernel_rfl) (by kernel_rfl) (fun _ _ _ h=>h) (Or.inl ⟨by rfl,?_⟩) (by assumption) ?_
            · intro w hSw
              obtain ⟨g0,g1,g2,g3,g4,g5,g6,g7,g8,g9,g10⟩:=hSw
              go_simp
            simp only [Act.put,List.setIfInBounds_toArray,List.set_cons_zero,List.set_cons_succ]
            refine wpAnyH_ready (rs:=[13]) (by kernel_rfl) (by simp) ?_
            refine AllReadyH.cons rfl (fun K hK=>?_) (AllReadyH.nil)
            go_simp
            have o:∀ {a:Addr} {u:Value},a≠⟨n0+1,i,none⟩→w7.cell? a=some u→(w7.setCell ⟨n0+1,i,none⟩ (.bool (cv i f))).cell? a=some u:=fun hne hc=>(World.cell?_setCell_other _ _ _ _ (fun e=>hne e.symm)).trans hc
            have HST8:=Aside0.mk (HST7.out.set (pm:=n0+1) ⟨by omega,by omega,by omega⟩ i (.bool (cv i f)) _ (metIn_set cv (ptones l0_2 pn).length i f (cv i f) (by rw [HM.out];rfl)))
            have HB8:=Aside0.mk (HB7.out.setCell (p:=⟨n0+1,i,none⟩) (by show w.heap.size≤n0+1;omega) (.bool (cv i f)))
            have HP8:Aside0 ((w7.setCell ⟨n0+1,i,none⟩ (.bool (cv i f))).cell? ⟨n5,0,none⟩=some (.int .i64 i)∧(w7.setCell ⟨n0+1,i,none⟩ (.bool (cv i f))).cell? ⟨n5+1,0,none⟩=some (.func (.func 70) #[] #[.pointer (some ⟨w.heap.size+1+1,0,none⟩),.pointer (some ⟨n5,0,none⟩)])):=⟨o (by intro e;injection e;omega) x9,o (by intro e;injection e;omega) x10⟩
            refine hK _ _ ⟨o (by intro e;injection e;omega) x0,o (by intro e;injection e;omega) x1,o (by intro e;injection e;omega) x2,o (by intro e;injection e;omega) x3,o (by intro e;injection e;omega) x4,o (by intro e;injection e;omega) x5,o (by intro e;injection e;omega) x6,o (by intro e;injection e;omega) x7,o (by intro e;injection e;omega) x8,HP8.out.1,HP8.out.2⟩ (fun hH=>?_)
            clear hK o x0 x1 x2 x3 x4 x5 x6 x7 x8 x9 x10 xm xf hH
            refine wpAnyH_done (by kernel_rfl) ?_ _
            go_wp2_with fail
            go_roundg (gk - 1)
            case measure=>omega
            case rel=>exact ⟨f+1,by go_num,⟨by omega⟩,HST8,HP8,HB8⟩
        · obtain rfl:f=(ptones l0_2 pn).length:=by omega
          have HST9:=HST.out
          rw [metIn_full _ _ _ (by omega)] at HST9
          have HST8:=Aside0.mk HST9
          clear HST9 HST HP
          go_wp2_with fail
          go_roundg ((ptones l0_2 pn).length - (i+1))
          case measure=>omega
          case rel=>exact ⟨i+1,by go_num,⟨by omega⟩,HST8,HB⟩
    · obtain rfl:i=(ptones l0_2 pn).length:=by omega
      have HLM:Aside0 ((bvs (metUpto cv (ptones l0_2 pn).length (ptones l0_2 pn).length)).size=24):=⟨by simp [bvs,metUpto_len]⟩
      clear u0 u1 u2 u3 u4 u5 u6 u7 lr
      obtain ⟨mv,hmv⟩:∃ mv,bvs (metUpto cv (ptones l0_2 pn).length (ptones l0_2 pn).length)=mv:=⟨_,rfl⟩
      have HMT:=HST.out.mt
      have HMV:=Aside0.mk hmv
      rw [hmv] at HMT HLM
      have HMT2:=Aside0.mk HMT
      clear HMT hmv HST
      go_wp2_with (first|(refine wpList_load_row rfl 104 (.tmp 12) rfl (n0+1) rfl 104 mv (0,0) _ HMT2.out Tryd.underlying104 rfl (by rw [HLM.out];exact row104) ?_))
      rw [← HMV.out]
      refine (list72 (metUpto cv (ptones l0_2 pn).length (ptones l0_2 pn).length) (metUpto_len _ _ _) _).mono ?_
      rintro e w9 ⟨v,rfl,hV,hb9⟩
      have HV:=Aside0.mk (Kd.V_lower hV HB.out.size)
      have HB9:=Aside0.mk (HB.out.trans (hb9.mono HB.out.size))
      clear hV hb9
      go_wp2_with fail
      go_ret2
      exact ⟨_,rfl,Kd.V_mono HV.out (fun k hk=>Nat.le_trans HB.out.size hk),HB9.out⟩
set_option maxRecDepth 100000 in
set_option maxHeartbeats 1000000 in
theorem heard_Strokes.calls_bad (k:Nat) (a0_0:Int) (A0_1:Option Addr) (c0_1:Nat) (l0_1:List (S85)) (A0_2:Option Addr) (c0_2:Nat) (l0_2:List (S62)) (a1:Int) (A2_0:Option Addr) (c2_0:Nat) (l2_0:List Int) (A2_1:Option Addr) (c2_1:Nat) (l2_1:List Int) (a2_2:Int) (a2_3:Int) (a3:Int) (w:World) (hr0_1:Kd.C k85 w A0_1 l0_1.length l0_1) (hc0_1:l0_1.length≤c0_1) (hr0_2:Kd.C k62 w A0_2 l0_2.length l0_2) (hc0_2:l0_2.length≤c0_2) (hr2_0:Kd.C (Kd.int .i64) w A2_0 l2_0.length l2_0) (hc2_0:l2_0.length≤c2_0) (hr2_1:Kd.C (Kd.int .i64) w A2_1 l2_1.length l2_1) (hc2_1:l2_1.length≤c2_1) (he0:askedF k a0_0 l0_1 l0_2 a1 l2_0 l2_1 a2_2 a2_3=some 0) (hwh:liesB a3 0 ((l2_0.length:Int) - 1)=false) (hts:l2_0.length≤1000) :
    Calls Tryd.prog 27 #[.agg #[.int .i64 a0_0,.slice A0_1 l0_1.length c0_1,.slice A0_2 l0_2.length c0_2],.int .i64 a1,.agg #[.slice A2_0 l2_0.length c2_0,.slice A2_1 l2_1.length c2_1,.int .i64 a2_2,.int .i64 a2_3],.int .i64 a3] w fun e w'=>∃ v0_:Value,e=.returned (.tuple #[v0_,.int .i64 91])∧Kd.V (Kd.int .i64) 3 w' w.heap.size (fun k_=>(w.heap.size≤k_)) v0_ []∧Below w.heap.size w w':=by
  have hu94:=Tryd.underlying94
  have hu104:=Tryd.underlying104
  have hu110:=Tryd.underlying110
  have hu27:=Tryd.underlying27
  have hu24:=Tryd.underlying24
  have hu30:=Tryd.underlying30
  have hbk:BkC A0_1 l0_1 A0_2 l0_2 A2_0 l2_0 A2_1 l2_1 w:=⟨hr0_1,hr0_2,hr2_0,hr2_1⟩
  have HBK:=Aside0.mk hbk
  have H1:=Aside0.mk hc0_1
  have H2:=Aside0.mk hc0_2
  have H3:=Aside0.mk hc2_0
  have H4:=Aside0.mk hc2_1
  clear hbk hc0_1 hc0_2 hc2_0 hc2_1 hr0_1 hr0_2 hr2_0 hr2_1
  have HE:=Aside0.mk he0
  obtain ⟨hp0,-,-⟩:=asked_yes (g:=a0_0) (Af:=A0_1) (cf:=c0_1) (fs:=l0_1) (Ap:=A0_2) (cp:=c0_2) (ps:=l0_2) (At:=A2_0) (ct:=c2_0) (ts:=l2_0) (Ag:=A2_1) (cg:=c2_1) (gs:=l2_1) (lost:=a2_2) (wrong:=a2_3) k a1 w HBK.out H1.out H2.out H3.out H4.out he0
  clear he0
  obtain ⟨pn,rfl⟩:∃ pn:Nat,a1=pn:=⟨a1.toNat,by omega⟩
  have HWH:=Aside0.mk hwh
  clear hwh
  go_enter Tryd.func27,Tryd.ntmps27
  go_wp2_with fail
  have hb0:=((below_alloc (Below.refl _ w) (Obj.cells #[.int .i64 a0_0,.slice A0_1 l0_1.length c0_1,.slice A0_2 l0_2.length c0_2] 27)).alloc (by simp) (Obj.cells #[.slice A2_0 l2_0.length c2_0,.slice A2_1 l2_1.length c2_1,.int .i64 a2_2,.int .i64 a2_3] 30)).alloc (by simp;omega) (Obj.cells #[.int .i64 a3] 3)
  have z1:(((w.alloc (Obj.cells #[.int .i64 a0_0,.slice A0_1 l0_1.length c0_1,.slice A0_2 l0_2.length c0_2] 27)).alloc (Obj.cells #[.slice A2_0 l2_0.length c2_0,.slice A2_1 l2_1.length c2_1,.int .i64 a2_2,.int .i64 a2_3] 30)).alloc (Obj.cells #[.int .i64 a3] 3)).heap.size=w.heap.size+1+1+1:=by simp
  have b2:(((w.alloc (Obj.cells #[.int .i64 a0_0,.slice A0_1 l0_1.length c0_1,.slice A0_2 l0_2.length c0_2] 27)).alloc (Obj.cells #[.slice A2_0 l2_0.length c2_0,.slice A2_1 l2_1.length c2_1,.int .i64 a2_2,.int .i64 a2_3] 30)).alloc (Obj.cells #[.int .i64 a3] 3)).heap[w.heap.size+1]?=some (.cells #[.slice A2_0 l2_0.length c2_0,.slice A2_1 l2_1.length c2_1,.int .i64 a2_2,.int .i64 a2_3] 30 (0,0)):=by
    have:=blk_alloc (blk_new (w.alloc (Obj.cells #[.int .i64 a0_0,.slice A0_1 l0_1.length c0_1,.slice A0_2 l0_2.length c0_2] 27)) (Obj.cells #[.slice A2_0 l2_0.length c2_0,.slice A2_1 l2_1.length c2_1,.int .i64 a2_2,.int .i64 a2_3] 30)) (Obj.cells #[.int .i64 a3] 3)
    rwa [World.size_alloc] at this
  have b3:(((w.alloc (Obj.cells #[.int .i64 a0_0,.slice A0_1 l0_1.length c0_1,.slice A0_2 l0_2.length c0_2] 27)).alloc (Obj.cells #[.slice A2_0 l2_0.length c2_0,.slice A2_1 l2_1.length c2_1,.int .i64 a2_2,.int .i64 a2_3] 30)).alloc (Obj.cells #[.int .i64 a3] 3)).heap[w.heap.size+1+1]?=some (.cells #[.int .i64 a3] 3 (0,0)):=by
    have:=blk_new ((w.alloc (Obj.cells #[.int .i64 a0_0,.slice A0_1 l0_1.length c0_1,.slice A0_2 l0_2.length c0_2] 27)).alloc (Obj.cells #[.slice A2_0 l2_0.length c2_0,.slice A2_1 l2_1.length c2_1,.int .i64 a2_2,.int .i64 a2_3] 30)) (Obj.cells #[.int .i64 a3] 3)
    rwa [World.size_alloc,World.size_alloc] at this
  obtain ⟨w1,hw1⟩:∃ w1,((w.alloc (Obj.cells #[.int .i64 a0_0,.slice A0_1 l0_1.length c0_1,.slice A0_2 l0_2.length c0_2] 27)).alloc (Obj.cells #[.slice A2_0 l2_0.length c2_0,.slice A2_1 l2_1.length c2_1,.int .i64 a2_2,.int .i64 a2_3] 30)).alloc (Obj.cells #[.int .i64 a3] 3)=w1:=⟨_,rfl⟩
  rw [hw1] at b2 b3 hb0 z1 ⊢
  clear hw1
  refine (asked_yes k pn w1 (HBK.out.below hb0) H1.out H2.out H3.out H4.out HE.out).2.2.mono ?_
  rintro e w2 ⟨rfl,hb2⟩
  have HB2:=Aside0.mk (hb0.trans (hb2.mono hb0.size))
  replace b2:=(hb2.block (w.heap.size+1) (by omega)).trans b2
  replace b3:=(hb2.block (w.heap.size+1+1) (by omega)).trans b3
  have l2:=blk_lt b3
  have l1:=blk_lt b2
  have q0:w2.cell? ⟨w.heap.size+1,0,none⟩=some (.slice A2_0 l2_0.length c2_0):=(blk_cell b2 0).trans rfl
  have q3:w2.cell? ⟨w.heap.size+1+1,0,none⟩=some (.int .i64 a3):=(blk_cell b3 0).trans rfl
  clear hb2 hb0 b2 b3 z1
  go_wp2_with (first|(go_at_call 65;refine (lies_any _ _ _ _).mono ?_;rw [HWH.out];rintro e w' ⟨rfl,⟨nd,rfl⟩⟩))
  go_ret2
  exact ⟨_,rfl,Kd.V_nil _ _ _ _ _,pw_below_drewN (HB2.out.alloc HB2.out.size _) nd⟩
set_option maxRecDepth 100000 in
set_option maxHeartbeats 1000000 in
theorem heard_Strokes.calls_err (k:Nat) (a0_0:Int) (A0_1:Option Addr) (c0_1:Nat) (l0_1:List (S85)) (A0_2:Option Addr) (c0_2:Nat) (l0_2:List (S62)) (a1:Int) (A2_0:Option Addr) (c2_0:Nat) (l2_0:List Int) (A2_1:Option Addr) (c2_1:Nat) (l2_1:List Int) (a2_2:Int) (a2_3:Int) (a3:Int) (e0:Int) (hz:e0≠0) (w:World) (hr0_1:Kd.C k85 w A0_1 l0_1.length l0_1) (hc0_1:l0_1.length≤c0_1) (hr0_2:Kd.C k62 w A0_2 l0_2.length l0_2) (hc0_2:l0_2.length≤c0_2) (hr2_0:Kd.C (Kd.int .i64) w A2_0 l2_0.length l2_0) (hc2_0:l2_0.length≤c2_0) (hr2_1:Kd.C (Kd.int .i64) w A2_1 l2_1.length l2_1) (hc2_1:l2_1.length≤c2_1) (he0:askedF k a0_0 l0_1 l0_2 a1 l2_0 l2_1 a2_2 a2_3=some e0) :
    Calls Tryd.prog 27 #[.agg #[.int .i64 a0_0,.slice A0_1 l0_1.length c0_1,.slice A0_2 l0_2.length c0_2],.int .i64 a1,.agg #[.slice A2_0 l2_0.length c2_0,.slice A2_1 l2_1.length c2_1,.int .i64 a2_2,.int .i64 a2_3],.int .i64 a3] w fun e w'=>∃ v0_:Value,e=.returned (.tuple #[v0_,.int .i64 e0])∧Kd.V (Kd.int .i64) 3 w' w.heap.size (fun k_=>(w.heap.size≤k_)) v0_ []∧Below w.heap.size w w':=by
  have hu94:=Tryd.underlying94
  have hu104:=Tryd.underlying104
  have hu110:=Tryd.underlying110
  have hu27:=Tryd.underlying27
  have hu24:=Tryd.underlying24
  have hu30:=Tryd.underlying30
  have hbk:BkC A0_1 l0_1 A0_2 l0_2 A2_0 l2_0 A2_1 l2_1 w:=⟨hr0_1,hr0_2,hr2_0,hr2_1⟩
  have HBK:=Aside0.mk hbk
  have H1:=Aside0.mk hc0_1
  have H2:=Aside0.mk hc0_2
  have H3:=Aside0.mk hc2_0
  have H4:=Aside0.mk hc2_1
  clear hbk hc0_1 hc0_2 hc2_0 hc2_1 hr0_1 hr0_2 hr2_0 hr2_1
  have hzb:(e0 != 0)=true:=by simpa using hz
  have HE:=Aside0.mk he0
  clear he0
  go_enter Tryd.func27,Tryd.ntmps27
  go_wp2_with fail
  have hb0:=((below_alloc (Below.refl _ w) (Obj.cells #[.int .i64 a0_0,.slice A0_1 l0_1.length c0_1,.slice A0_2 l0_2.length c0_2] 27)).alloc (by simp) (Obj.cells #[.slice A2_0 l2_0.length c2_0,.slice A2_1 l2_1.length c2_1,.int .i64 a2_2,.int .i64 a2_3] 30)).alloc (by simp;omega) (Obj.cells #[.int .i64 a3] 3)
  have z1:(((w.alloc (Obj.cells #[.int .i64 a0_0,.slice A0_1 l0_1.length c0_1,.slice A0_2 l0_2.length c0_2] 27)).alloc (Obj.cells #[.slice A2_0 l2_0.length c2_0,.slice A2_1 l2_1.length c2_1,.int .i64 a2_2,.int .i64 a2_3] 30)).alloc (Obj.cells #[.int .i64 a3] 3)).heap.size=w.heap.size+1+1+1:=by simp
  have b2:(((w.alloc (Obj.cells #[.int .i64 a0_0,.slice A0_1 l0_1.length c0_1,.slice A0_2 l0_2.length c0_2] 27)).alloc (Obj.cells #[.slice A2_0 l2_0.length c2_0,.slice A2_1 l2_1.length c2_1,.int .i64 a2_2,.int .i64 a2_3] 30)).alloc (Obj.cells #[.int .i64 a3] 3)).heap[w.heap.size+1]?=some (.cells #[.slice A2_0 l2_0.length c2_0,.slice A2_1 l2_1.length c2_1,.int .i64 a2_2,.int .i64 a2_3] 30 (0,0)):=by
    have:=blk_alloc (blk_new (w.alloc (Obj.cells #[.int .i64 a0_0,.slice A0_1 l0_1.length c0_1,.slice A0_2 l0_2.length c0_2] 27)) (Obj.cells #[.slice A2_0 l2_0.length c2_0,.slice A2_1 l2_1.length c2_1,.int .i64 a2_2,.int .i64 a2_3] 30)) (Obj.cells #[.int .i64 a3] 3)
    rwa [World.size_alloc] at this
  have b3:(((w.alloc (Obj.cells #[.int .i64 a0_0,.slice A0_1 l0_1.length c0_1,.slice A0_2 l0_2.length c0_2] 27)).alloc (Obj.cells #[.slice A2_0 l2_0.length c2_0,.slice A2_1 l2_1.length c2_1,.int .i64 a2_2,.int .i64 a2_3] 30)).alloc (Obj.cells #[.int .i64 a3] 3)).heap[w.heap.size+1+1]?=some (.cells #[.int .i64 a3] 3 (0,0)):=by
    have:=blk_new ((w.alloc (Obj.cells #[.int .i64 a0_0,.slice A0_1 l0_1.length c0_1,.slice A0_2 l0_2.length c0_2] 27)).alloc (Obj.cells #[.slice A2_0 l2_0.length c2_0,.slice A2_1 l2_1.length c2_1,.int .i64 a2_2,.int .i64 a2_3] 30)) (Obj.cells #[.int .i64 a3] 3)
    rwa [World.size_alloc,World.size_alloc] at this
  obtain ⟨w1,hw1⟩:∃ w1,((w.alloc (Obj.cells #[.int .i64 a0_0,.slice A0_1 l0_1.length c0_1,.slice A0_2 l0_2.length c0_2] 27)).alloc (Obj.cells #[.slice A2_0 l2_0.length c2_0,.slice A2_1 l2_1.length c2_1,.int .i64 a2_2,.int .i64 a2_3] 30)).alloc (Obj.cells #[.int .i64 a3] 3)=w1:=⟨_,rfl⟩
  rw [hw1] at b2 b3 hb0 z1 ⊢
  clear hw1
  refine (asked_no k e0 hz a1 w1 (HBK.out.below hb0) H1.out H2.out H3.out H4.out HE.out).mono ?_
  rintro e w2 ⟨rfl,hb2⟩
  have HB2:=Aside0.mk (hb0.trans (hb2.mono hb0.size))
  clear hb2 hb0 b2 b3 z1
  go_wp2_with fail
  go_ret2
  exact ⟨_,rfl,Kd.V_nil _ _ _ _ _,HB2.out.alloc HB2.out.size _⟩
theorem heard_Strokes.calls (k:Nat) (a0_0:Int) (A0_1:Option Addr) (c0_1:Nat) (l0_1:List (S85)) (A0_2:Option Addr) (c0_2:Nat) (l0_2:List (S62)) (a1:Int) (A2_0:Option Addr) (c2_0:Nat) (l2_0:List Int) (A2_1:Option Addr) (c2_1:Nat) (l2_1:List Int) (a2_2:Int) (a2_3:Int) (a3:Int) (r1:List Int) (r2:Int) (w:World) (hr0_1:Kd.C k85 w A0_1 l0_1.length l0_1) (hc0_1:l0_1.length≤c0_1) (hr0_2:Kd.C k62 w A0_2 l0_2.length l0_2) (hc0_2:l0_2.length≤c0_2) (hr2_0:Kd.C (Kd.int .i64) w A2_0 l2_0.length l2_0) (hc2_0:l2_0.length≤c2_0) (hr2_1:Kd.C (Kd.int .i64) w A2_1 l2_1.length l2_1) (hc2_1:l2_1.length≤c2_1) (h:heard_Strokes.f k a0_0 l0_1 l0_2 a1 l2_0 l2_1 a2_2 a2_3 a3=some (r1,r2)) (hG:GlobIs w) :
    Calls Tryd.prog 27 #[.agg #[.int .i64 a0_0,.slice A0_1 l0_1.length c0_1,.slice A0_2 l0_2.length c0_2],.int .i64 a1,.agg #[.slice A2_0 l2_0.length c2_0,.slice A2_1 l2_1.length c2_1,.int .i64 a2_2,.int .i64 a2_3],.int .i64 a3] w fun e w'=>∃ v0_:Value,e=.returned (.tuple #[v0_,.int .i64 r2])∧Kd.V (Kd.int .i64) 3 w' w.heap.size (fun k_=>(w.heap.size≤k_)) v0_ r1∧Below w.heap.size w w':=by
  unfold heard_Strokes.f at h
  obtain ⟨e0,he0,h⟩:=Option.bind_eq_some_iff.1 h
  by_cases hz:e0=0
  · subst hz
    rw [if_pos rfl] at h
    split at h
    · rename_i h5
      split at h
      · rename_i hc
        simp only [Option.some.injEq,Prod.mk.injEq] at h
        obtain ⟨rfl,rfl⟩:=h
        exact heard_Strokes.calls_ok k a0_0 A0_1 c0_1 l0_1 A0_2 c0_2 l0_2 a1 A2_0 c2_0 l2_0 A2_1 c2_1 l2_1 a2_2 a2_3 a3 w hr0_1 hc0_1 hr0_2 hc0_2 hr2_0 hc2_0 hr2_1 hc2_1 he0 h5 hc hG
      · simp at h
    · rename_i h5
      split at h
      · rename_i hl
        simp only [Option.some.injEq,Prod.mk.injEq] at h
        obtain ⟨rfl,rfl⟩:=h
        exact heard_Strokes.calls_bad k a0_0 A0_1 c0_1 l0_1 A0_2 c0_2 l0_2 a1 A2_0 c2_0 l2_0 A2_1 c2_1 l2_1 a2_2 a2_3 a3 w hr0_1 hc0_1 hr0_2 hc0_2 hr2_0 hc2_0 hr2_1 hc2_1 he0 (by simpa using h5) hl
      · simp at h
  · rw [if_neg hz] at h
    simp only [Option.some.injEq,Prod.mk.injEq] at h
    obtain ⟨rfl,rfl⟩:=h
    exact heard_Strokes.calls_err k a0_0 A0_1 c0_1 l0_1 A0_2 c0_2 l0_2 a1 A2_0 c2_0 l2_0 A2_1 c2_1 l2_1 a2_2 a2_3 a3 e0 hz w hr0_1 hc0_1 hr0_2 hc0_2 hr2_0 hc2_0 hr2_1 hc2_1 he0
end
end Go.Proofs.YthnilelmhpmanaaDoor.PHeardFits
end
section
namespace Go.Proofs.YthnilelmhpmanaaDoor.PHeardFits
open Go.RowKit Go.Proofs.YthnilelmhpmanaaDoorW.PrintWords Go.Proofs.YthnilelmhpmanaaDoorW.PrintLast Go.Proofs.YthnilelmhpmanaaDoorW.PrintMore
open Go.Proofs.YthnilelmhpmanaaDoor.Hm
set_option linter.unusedVariables false
set_option linter.unusedSimpArgs false
/-- The least number that does, and the error. -/
def leastP (p:Nat→Bool):Int×Int:=match (List.range 24).find? p with
  | some n=>((n:Int),0)
  | none=>(0,4)
theorem find_first {p:Nat→Bool} {n i:Nat} (hi:i<n) (h:p i=true) (hb:∀ f,f<i→p f=false):(List.range n).find? p=some i:=by
  rw [List.find?_range_eq_some]
  exact ⟨h,List.mem_range.2 hi,fun j hj=>by rw [hb j hj];rfl⟩
theorem find_none {p:Nat→Bool} {n:Nat} (hb:∀ f,f<n→p f=false):(List.range n).find? p=none:=by
  rw [List.find?_eq_none]
  intro x hx
  rw [hb x (List.mem_range.1 hx)]
  decide
def heard_Least.f (k:Nat) (g:Int) (fs:List S85) (ps:List S62) (piece:Int) (ts gs:List Int) (lost wrong:Int):Option (Int×Int) :=
  (askedF k g fs ps piece ts gs lost wrong).bind fun e=>if e=0 then (if readOk k g fs ps piece.toNat ts gs then some (leastP fun lo=>fitsB (offF k g fs ps piece.toNat ts gs) (fun _ _=>true) (ptones ps piece.toNat).length ts.length lo wrong) else none) else some (0,e)
set_option maxRecDepth 100000 in
set_option maxHeartbeats 1000000 in
theorem heard_Least.calls (k:Nat) (a0_0:Int) (A0_1:Option Addr) (c0_1:Nat) (l0_1:List (S85)) (A0_2:Option Addr) (c0_2:Nat) (l0_2:List (S62)) (a1:Int) (A2_0:Option Addr) (c2_0:Nat) (l2_0:List Int) (A2_1:Option Addr) (c2_1:Nat) (l2_1:List Int) (a2_2:Int) (a2_3:Int) (r1:Int) (r2:Int) (w:World) (hr0_1:Kd.C k85 w A0_1 l0_1.length l0_1) (hc0_1:l0_1.length≤c0_1) (hr0_2:Kd.C k62 w A0_2 l0_2.length l0_2) (hc0_2:l0_2.length≤c0_2) (hr2_0:Kd.C (Kd.int .i64) w A2_0 l2_0.length l2_0) (hc2_0:l2_0.length≤c2_0) (hr2_1:Kd.C (Kd.int .i64) w A2_1 l2_1.length l2_1) (hc2_1:l2_1.length≤c2_1) (h:heard_Least.f k a0_0 l0_1 l0_2 a1 l2_0 l2_1 a2_2 a2_3=some (r1,r2)) (hG:GlobIs w) :
    Calls Tryd.prog 24 #[.agg #[.int .i64 a0_0,.slice A0_1 l0_1.length c0_1,.slice A0_2 l0_2.length c0_2],.int .i64 a1,.agg #[.slice A2_0 l2_0.length c2_0,.slice A2_1 l2_1.length c2_1,.int .i64 a2_2,.int .i64 a2_3]] w fun e w'=>e=.returned (.tuple #[.int .i64 r1,.int .i64 r2])∧Below w.heap.size w w':=by
  have hu94:=Tryd.underlying94
  have hu27:=Tryd.underlying27
  have hu24:=Tryd.underlying24
  have hu30:=Tryd.underlying30
  unfold heard_Least.f at h
  obtain ⟨e0,he0,h⟩:=Option.bind_eq_some_iff.1 h
  have hbk:BkC A0_1 l0_1 A0_2 l0_2 A2_0 l2_0 A2_1 l2_1 w:=⟨hr0_1,hr0_2,hr2_0,hr2_1⟩
  have HBK:=Aside0.mk hbk
  have HG:=Aside0.mk hG
  have H1:=Aside0.mk hc0_1
  have H2:=Aside0.mk hc0_2
  have H3:=Aside0.mk hc2_0
  have H4:=Aside0.mk hc2_1
  clear hbk hG hc0_1 hc0_2 hc2_0 hc2_1 hr0_1 hr0_2 hr2_0 hr2_1
  by_cases hz:e0=0
  · subst hz
    rw [if_pos rfl] at h
    split at h
    · rename_i hc
      simp only [Option.some.injEq] at h
      have HC3:=Aside0.mk hc
      have HE:=Aside0.mk he0
      obtain ⟨hp0,-,-⟩:=asked_yes (g:=a0_0) (Af:=A0_1) (cf:=c0_1) (fs:=l0_1) (Ap:=A0_2) (cp:=c0_2) (ps:=l0_2) (At:=A2_0) (ct:=c2_0) (ts:=l2_0) (Ag:=A2_1) (cg:=c2_1) (gs:=l2_1) (lost:=a2_2) (wrong:=a2_3) k a1 w HBK.out H1.out H2.out H3.out H4.out he0
      clear he0 hc
      obtain ⟨pn,rfl⟩:∃ pn:Nat,a1=pn:=⟨a1.toNat,by omega⟩
      rw [Int.toNat_natCast] at HC3 h
      have hpn:=HC3.out.1
      obtain ⟨pv,hpv⟩:∃ pv:Nat→Bool,(fun lo=>fitsB (offF k a0_0 l0_1 l0_2 pn l2_0 l2_1) (fun _ _=>true) (ptones l0_2 pn).length l2_0.length lo a2_3)=pv:=⟨_,rfl⟩
      rw [hpv] at h
      obtain ⟨ad,A1,c1',ep,_,hx1,hl1,hC1⟩:=at_T62 HBK.out.p (pn:Int) (by omega) (by omega)
      cases ep
      clear hx1 hl1 hC1
      have HCALL:Aside0 (∀ w',Below w.heap.size w w'→∀ lo:Nat,lo<24→Calls Tryd.prog 59 #[bkv a0_0 A0_1 c0_1 l0_1 (some ad) c0_2 l0_2 pn A2_0 c2_0 l2_0 A2_1 c2_1 l2_1 a2_2 a2_3,.int .i64 lo] w' fun e w''=>e=.returned (.bool (pv lo))∧Below w'.heap.size w' w'') :=
        ⟨fun w' hw lo hlo=>by
          rw [← hpv]
          exact fits_call k HC3.out H1.out lo (by omega) w' (HBK.out.below hw) (HG.out.below hw)⟩
      have HH:=Aside0.mk h
      clear h hpv
      unfold bkv at HCALL
      go_enter Tryd.func24,Tryd.ntmps24
      go_wp2_with fail
      have hb0:=(below_alloc (Below.refl _ w) (Obj.cells #[.int .i64 a0_0,.slice A0_1 l0_1.length c0_1,.slice (some ad) l0_2.length c0_2] 27)).alloc (by simp) (Obj.cells #[.slice A2_0 l2_0.length c2_0,.slice A2_1 l2_1.length c2_1,.int .i64 a2_2,.int .i64 a2_3] 30)
      have z1:((w.alloc (Obj.cells #[.int .i64 a0_0,.slice A0_1 l0_1.length c0_1,.slice (some ad) l0_2.length c0_2] 27)).alloc (Obj.cells #[.slice A2_0 l2_0.length c2_0,.slice A2_1 l2_1.length c2_1,.int .i64 a2_2,.int .i64 a2_3] 30)).heap.size=w.heap.size+1+1:=by simp
      have b2:((w.alloc (Obj.cells #[.int .i64 a0_0,.slice A0_1 l0_1.length c0_1,.slice (some ad) l0_2.length c0_2] 27)).alloc (Obj.cells #[.slice A2_0 l2_0.length c2_0,.slice A2_1 l2_1.length c2_1,.int .i64 a2_2,.int .i64 a2_3] 30)).heap[w.heap.size+1]?=some (.cells #[.slice A2_0 l2_0.length c2_0,.slice A2_1 l2_1.length c2_1,.int .i64 a2_2,.int .i64 a2_3] 30 (0,0)):=by
        have:=blk_new (w.alloc (Obj.cells #[.int .i64 a0_0,.slice A0_1 l0_1.length c0_1,.slice (some ad) l0_2.length c0_2] 27)) (Obj.cells #[.slice A2_0 l2_0.length c2_0,.slice A2_1 l2_1.length c2_1,.int .i64 a2_2,.int .i64 a2_3] 30)
        rwa [World.size_alloc] at this
      obtain ⟨w1,hw1⟩:∃ w1,((w.alloc (Obj.cells #[.int .i64 a0_0,.slice A0_1 l0_1.length c0_1,.slice (some ad) l0_2.length c0_2] 27)).alloc (Obj.cells #[.slice A2_0 l2_0.length c2_0,.slice A2_1 l2_1.length c2_1,.int .i64 a2_2,.int .i64 a2_3] 30))=w1:=⟨_,rfl⟩
      rw [hw1] at b2 hb0 z1 ⊢
      clear hw1
      refine (asked_yes k pn w1 (HBK.out.below hb0) H1.out H2.out H3.out H4.out HE.out).2.2.mono ?_
      rintro e w2 ⟨rfl,hb2⟩
      have HB2:=Aside0.mk (hb0.trans (hb2.mono hb0.size))
      clear hb2 hb0 b2 z1
      go_wp2_with fail
      have b1:=Aside0.mk (blk_new w2 (Obj.cells #[.int .i64 a0_0,.slice A0_1 l0_1.length c0_1,.slice (some ad) l0_2.length c0_2,.int .i64 pn,.slice A2_0 l2_0.length c2_0,.slice A2_1 l2_1.length c2_1,.int .i64 a2_2,.int .i64 a2_3] 94))
      have HBW:=Aside0.mk (HB2.out.alloc HB2.out.size (Obj.cells #[.int .i64 a0_0,.slice A0_1 l0_1.length c0_1,.slice (some ad) l0_2.length c0_2,.int .i64 pn,.slice A2_0 l2_0.length c2_0,.slice A2_1 l2_1.length c2_1,.int .i64 a2_2,.int .i64 a2_3] 94))
      obtain ⟨n0,hn0⟩:∃ n0,w2.heap.size=n0:=⟨_,rfl⟩
      obtain ⟨w3,hw3⟩:∃ w3,w2.alloc (Obj.cells #[.int .i64 a0_0,.slice A0_1 l0_1.length c0_1,.slice (some ad) l0_2.length c0_2,.int .i64 pn,.slice A2_0 l2_0.length c2_0,.slice A2_1 l2_1.length c2_1,.int .i64 a2_2,.int .i64 a2_3] 94)=w3:=⟨_,rfl⟩
      rw [hn0] at b1
      try rw [hn0]
      rw [hw3] at b1 HBW ⊢
      clear hw3 hn0 HB2
      have s0:=(blk_cell b1.out 0).trans rfl
      have s1:=(blk_cell b1.out 1).trans rfl
      have s2:=(blk_cell b1.out 2).trans rfl
      have s3:=(blk_cell b1.out 3).trans rfl
      have s4:=(blk_cell b1.out 4).trans rfl
      have s5:=(blk_cell b1.out 5).trans rfl
      have s6:=(blk_cell b1.out 6).trans rfl
      have s7:=(blk_cell b1.out 7).trans rfl
      clear b1
      go_loopg [10,21] 24 (fun gk v10 v21 w'=>∃ (i:Nat) (u:Value),v10=u∧v21=.int .i64 i∧Aside0 (gk+i=24)∧Aside0 (∀ f,f<i→pv f=false)∧Aside0 (Below w3.heap.size w3 w'))
      case atStart=>exact ⟨0,_,rfl,rfl,⟨rfl⟩,⟨fun f h=>absurd h (by omega)⟩,⟨Below.refl _ _⟩⟩
      case round =>
        obtain ⟨i,u,rfl,rfl,HI,HA,HBL⟩:=hrel
        have hi:=HI.out
        rename_i w4
        replace s0:=kc HBL.out s0
        replace s1:=kc HBL.out s1
        replace s2:=kc HBL.out s2
        replace s3:=kc HBL.out s3
        replace s4:=kc HBL.out s4
        replace s5:=kc HBL.out s5
        replace s6:=kc HBL.out s6
        replace s7:=kc HBL.out s7
        have HB3:=Aside0.mk (HBW.out.trans (HBL.out.mono HBW.out.size))
        by_cases hlt:i<24
        · cases hv:pv i with
          | true =>
            have HV:=Aside0.mk hv
            clear hv
            go_wp2_with (first|(go_at_call 59;refine (HCALL.out _ HB3.out i hlt).mono ?_;rw [HV.out];rintro e w5 ⟨rfl,hb5⟩;have HB5:=Aside0.mk (HB3.out.trans (hb5.mono HB3.out.size));clear hb5))
            go_ret2
            have h9:=HH.out
            unfold leastP at h9
            rw [find_first hlt HV.out HA.out] at h9
            simp only [Prod.mk.injEq] at h9
            obtain ⟨rfl,rfl⟩:=h9
            exact ⟨rfl,HB5.out⟩
          | false =>
            have HV:=Aside0.mk hv
            clear hv
            go_wp2_with (first|(go_at_call 59;refine (HCALL.out _ HB3.out i hlt).mono ?_;rw [HV.out];rintro e w5 ⟨rfl,hb5⟩;have HB5:=Aside0.mk (HBL.out.trans (hb5.mono HBL.out.size));clear hb5))
            go_roundg (gk - 1)
            case measure=>omega
            case rel=>exact ⟨i+1,_,rfl,by go_num,⟨by omega⟩,⟨fun f hf=>by
              by_cases hfi:f=i
              · rw [hfi];exact HV.out
              · exact HA.out f (by omega)⟩,HB5⟩
        · go_wp2_with fail
          go_ret2
          have h9:=HH.out
          unfold leastP at h9
          rw [find_none fun f hf=>HA.out f (by omega)] at h9
          simp only [Prod.mk.injEq] at h9
          obtain ⟨rfl,rfl⟩:=h9
          exact ⟨rfl,HB3.out⟩
    · simp at h
  · rw [if_neg hz] at h
    simp only [Option.some.injEq,Prod.mk.injEq] at h
    obtain ⟨rfl,rfl⟩:=h
    have hzb:(e0 != 0)=true:=by simpa using hz
    have HE:=Aside0.mk he0
    clear he0
    go_enter Tryd.func24,Tryd.ntmps24
    go_wp2_with fail
    have hb0:=(below_alloc (Below.refl _ w) (Obj.cells #[.int .i64 a0_0,.slice A0_1 l0_1.length c0_1,.slice A0_2 l0_2.length c0_2] 27)).alloc (by simp) (Obj.cells #[.slice A2_0 l2_0.length c2_0,.slice A2_1 l2_1.length c2_1,.int .i64 a2_2,.int .i64 a2_3] 30)
    have z1:((w.alloc (Obj.cells #[.int .i64 a0_0,.slice A0_1 l0_1.length c0_1,.slice A0_2 l0_2.length c0_2] 27)).alloc (Obj.cells #[.slice A2_0 l2_0.length c2_0,.slice A2_1 l2_1.length c2_1,.int .i64 a2_2,.int .i64 a2_3] 30)).heap.size=w.heap.size+1+1:=by simp
    have b2:((w.alloc (Obj.cells #[.int .i64 a0_0,.slice A0_1 l0_1.length c0_1,.slice A0_2 l0_2.length c0_2] 27)).alloc (Obj.cells #[.slice A2_0 l2_0.length c2_0,.slice A2_1 l2_1.length c2_1,.int .i64 a2_2,.int .i64 a2_3] 30)).heap[w.heap.size+1]?=some (.cells #[.slice A2_0 l2_0.length c2_0,.slice A2_1 l2_1.length c2_1,.int .i64 a2_2,.int .i64 a2_3] 30 (0,0)):=by
      have:=blk_new (w.alloc (Obj.cells #[.int .i64 a0_0,.slice A0_1 l0_1.length c0_1,.slice A0_2 l0_2.length c0_2] 27)) (Obj.cells #[.slice A2_0 l2_0.length c2_0,.slice A2_1 l2_1.length c2_1,.int .i64 a2_2,.int .i64 a2_3] 30)
      rwa [World.size_alloc] at this
    obtain ⟨w1,hw1⟩:∃ w1,((w.alloc (Obj.cells #[.int .i64 a0_0,.slice A0_1 l0_1.length c0_1,.slice A0_2 l0_2.length c0_2] 27)).alloc (Obj.cells #[.slice A2_0 l2_0.length c2_0,.slice A2_1 l2_1.length c2_1,.int .i64 a2_2,.int .i64 a2_3] 30))=w1:=⟨_,rfl⟩
    rw [hw1] at b2 hb0 z1 ⊢
    clear hw1
    refine (asked_no k e0 hz a1 w1 (HBK.out.below hb0) H1.out H2.out H3.out H4.out HE.out).mono ?_
    rintro e w2 ⟨rfl,hb2⟩
    have HB2:=Aside0.mk (hb0.trans (hb2.mono hb0.size))
    clear hb2 hb0 b2 z1
    go_wp2_with fail
    go_ret2
    exact ⟨rfl,HB2.out.alloc HB2.out.size _⟩
end Go.Proofs.YthnilelmhpmanaaDoor.PHeardFits
end
